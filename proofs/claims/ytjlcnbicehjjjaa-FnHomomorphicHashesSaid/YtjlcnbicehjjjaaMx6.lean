/-
  IsValidDecoder, MissingDegrees, IsComplete: contracts of the program's functions and of the reference's. No condition.
-/
import Derived.Test.YtjlcnbicehjjjaaMx5
namespace Go.Proofs.Ytjlcnbicehjjjaa
open Go.ChangeShapes Go.WideShapes Go.ChangeAt Go.RowKit
set_option linter.unusedVariables false
set_option maxRecDepth 100000

def ldB (b : Int) (r : List Int) : Bool := !(decide (b ≤ leadV r))
/-- A valid decoder. -/
def decB (a b c d : Int) (m : List (List Int)) : Bool := fmtB a b c && basB d m && !(d != b + c) && m.all (ldB b)
theorem decB_facts {a b c d : Int} {m : List (List Int)} (h : decB a b c d m = true) : fmtB a b c = true ∧ basB d m = true ∧ d = b + c ∧ m.all (ldB b) = true := by
  unfold decB at h
  rw [Bool.and_eq_true, Bool.and_eq_true, Bool.and_eq_true] at h
  exact ⟨h.1.1.1, h.1.1.2, by have := h.1.2; simpa using this, h.2⟩
def missZ (a b c d : Int) (m : List (List Int)) : Int := if decB a b c d m = true then b - (m.length : Int) else 0
def compB (a b c d : Int) (m : List (List Int)) : Bool := decB a b c d m && ((m.length : Int) == b)


theorem miss_zero {a b c d : Int} {m : List (List Int)} (h : decB a b c d m = true) : (missZ a b c d m == 0) = ((m.length : Int) == b) := by
  unfold missZ
  rw [if_pos h, Bool.eq_iff_iff, beq_iff_eq, beq_iff_eq]
  omega

end Go.Proofs.Ytjlcnbicehjjjaa
