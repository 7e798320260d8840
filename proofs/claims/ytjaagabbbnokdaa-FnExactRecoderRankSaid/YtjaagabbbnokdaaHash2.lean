/-
  Contracts of HashVector and CombineHashes, of the program and of the reference. No condition.
-/
import Derived.Test.YtjaagabbbnokdaaHash
namespace Go.Proofs.Ytjaagabbbnokdaa
open Go.ChangeShapes Go.WideShapes Go.ChangeAt Go.RowKit
set_option linter.unusedVariables false
set_option maxRecDepth 100000

theorem hashZ_no {gs v : List Int} (h : ¬ (hkB gs = true ∧ vecB v = true ∧ v.length = gs.length)) : hashZ gs v = 0 := if_neg h
theorem hashZ_yes {gs v : List Int} (h1 : hkB gs = true) (h2 : vecB v = true) (h3 : v.length = gs.length) : hashZ gs v = pwr gs v gs.length := if_pos ⟨h1, h2, h3⟩
theorem combZ_no {gs v : List Int} (h : ¬ (vecB v = true ∧ gs.length = v.length ∧ gs.all grB = true)) : combZ gs v = 0 := if_neg h
theorem combZ_yes {gs v : List Int} (h1 : vecB v = true) (h2 : gs.length = v.length) (h3 : gs.all grB = true) : combZ gs v = pwr gs v gs.length := if_pos ⟨h1, h2, h3⟩
theorem pwr_take_le (gs es : List Int) (n k : Nat) (h : k ≤ n) : pwr gs es k = pwr (gs.take n) es k := by
  induction k with
  | zero => rfl
  | succ k ih =>
    simp only [pwr, ih (by omega)]
    have : (gs.take n).getD k 0 = gs.getD k 0 := by simp [List.getD, show k < n by omega]
    rw [this]
theorem pwr_take (gs es : List Int) (k : Nat) : pwr gs es k = pwr (gs.take k) es k := pwr_take_le gs es k k (Nat.le_refl _)
end Go.Proofs.Ytjaagabbbnokdaa
