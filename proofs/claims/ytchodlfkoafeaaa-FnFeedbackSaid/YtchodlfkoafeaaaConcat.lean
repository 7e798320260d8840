/-
  Slices of slices of ints: a word for reading them; the contract of slices.Concat. Condition: at most 2^40 elements in all.
-/
import Derived.Test.YtchodlfkoafeaaaGrow
import Derived.Test.YtchodlfkoafeaaaApp
namespace Go.Proofs.Ytchodlfkoafeaaa
open Go.ChangeShapes Go.WideShapes Go.ChangeAt Go.RowKit
set_option linter.unusedVariables false
set_option maxRecDepth 100000

/-- A slice of slices of ints that reads as xss. -/
def RII (w : World) (v : Value) (xss : List (List Int)) : Prop :=
  ∃ A c, v = .slice A xss.length c ∧ xss.length ≤ c ∧ c ≤ 9223372036854775807 ∧
    (0 < xss.length → ∃ b off, A = some ⟨b, off, none⟩ ∧ b < w.heap.size ∧ ∀ j xs, xss[j]? = some xs → ∃ u, w.cell? ⟨b, off + j, none⟩ = some u ∧ RI w u xs)
theorem RII.keep {w w' : World} {v : Value} {xss : List (List Int)} (h : RII w v xss) (k : Bel w w') : RII w' v xss := by
  obtain ⟨A, c, hv, h1, h2, h3⟩ := h
  refine ⟨A, c, hv, h1, h2, fun h0 => ?_⟩
  obtain ⟨b, off, hA, hb, hc⟩ := h3 h0
  refine ⟨b, off, hA, Nat.lt_of_lt_of_le hb k.size, fun j xs hx => ?_⟩
  obtain ⟨u, hu, hr⟩ := hc j xs hx
  exact ⟨u, k.cell1 hb hu, hr.keep k⟩
theorem RII.nil (w : World) : RII w (.slice none 0 0) [] := ⟨none, 0, rfl, by simp, by omega, fun h => absurd h (by simp)⟩

/-- How many numbers the first k slices hold. -/
def sumL (xss : List (List Int)) (k : Nat) : Nat := ((xss.take k).flatten).length
theorem sumL_step {xss : List (List Int)} {k : Nat} {xs : List Int} (h : xss[k]? = some xs) : sumL xss (k + 1) = sumL xss k + xs.length := by
  obtain ⟨hk, rfl⟩ := List.getElem?_eq_some_iff.1 h
  unfold sumL
  rw [List.take_succ_eq_append_getElem hk, List.flatten_append, List.length_append]
  simp
theorem flat_step {xss : List (List Int)} {k : Nat} {xs : List Int} (h : xss[k]? = some xs) : (xss.take (k + 1)).flatten = (xss.take k).flatten ++ xs := by
  obtain ⟨hk, rfl⟩ := List.getElem?_eq_some_iff.1 h
  rw [List.take_succ_eq_append_getElem hk, List.flatten_append]
  simp
theorem sumL_le (xss : List (List Int)) (k : Nat) : sumL xss k ≤ xss.flatten.length := by
  unfold sumL
  conv => rhs; rw [← List.take_append_drop k xss, List.flatten_append, List.length_append]
  omega

end Go.Proofs.Ytchodlfkoafeaaa
