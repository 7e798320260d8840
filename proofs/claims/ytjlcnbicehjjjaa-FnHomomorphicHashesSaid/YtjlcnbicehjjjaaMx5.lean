/-
  RowReduce, IsReduced, IsValidBasis, IsValidDecoder, MissingDegrees, IsComplete: contracts of the program's functions and of the reference's. No condition.
-/
import Derived.Test.YtjlcnbicehjjjaaMx4
import Derived.Test.YtjlcnbicehjjjaaMani2
namespace Go.Proofs.Ytjlcnbicehjjjaa
open Go.ChangeShapes Go.WideShapes Go.ChangeAt Go.RowKit
set_option linter.unusedVariables false
set_option maxRecDepth 100000


/-- A valid basis of width d. -/
def basB (d : Int) (m : List (List Int)) : Bool := inB d 0 40 && redB m && (((m.length : Int) == 0) || ((colN m : Int) == d))
theorem basB_row {d : Int} {m : List (List Int)} {k : Nat} {r : List Int} (hx : m[k]? = some r) (h : ((r.length : Int) != d) = true) : basB d m = false := by
  unfold basB
  cases h1 : redB m
  · simp
  · have h2 : mtxB m = true := by unfold redB at h1; rw [Bool.and_eq_true] at h1; exact h1.1
    have h3 := ((mtxB_facts h2).1 r (List.mem_of_getElem? hx)).1
    have h4 : 0 < m.length := by have := (List.getElem?_eq_some_iff.1 hx).1; omega
    have h5 : ((m.length : Int) == 0) = false := beq_eq_false_iff_ne.2 (by omega)
    have h6 : ((colN m : Int) == d) = false := by rw [← h3]; simpa [bne] using h
    rw [h5, h6]; simp
theorem basB_all {d : Int} {m : List (List Int)} (h : m.all (fun r => !((r.length : Int) != d)) = true) : basB d m = (inB d 0 40 && redB m) := by
  unfold basB
  cases m with
  | nil => simp
  | cons r m =>
    have h1 := List.all_eq_true.1 h r List.mem_cons_self
    have h2 : ((colN (r :: m) : Int) == d) = true := by
      have : colN (r :: m) = r.length := rfl
      rw [this]; simpa [bne] using h1
    rw [h2]; simp
theorem basB_facts {d : Int} {m : List (List Int)} (h : basB d m = true) : ∃ c : Nat, d = (c : Int) ∧ c ≤ 40 ∧ m.length ≤ 40 ∧ Red c m (fun i => lead (rw_ m i)) := by
  unfold basB redB at h
  rw [Bool.and_eq_true, Bool.and_eq_true, Bool.and_eq_true] at h
  obtain ⟨⟨h1, h2, h3⟩, h4⟩ := h
  have h5 := inB_facts h1
  obtain ⟨m1, m2, m3⟩ := mtxB_facts h2
  obtain ⟨c, rfl⟩ := Int.eq_ofNat_of_zero_le h5.1
  refine ⟨c, rfl, by omega, m2, ?_⟩
  have hm : Mtx c m := by
    rw [Bool.or_eq_true] at h4
    rcases h4 with h4 | h4
    · have : m = [] := List.eq_nil_of_length_eq_zero (by simp at h4; simp [h4])
      subst this
      intro r hr; cases hr
    · have : colN m = c := by simp at h4; omega
      rw [← this]; exact m1
  exact (rdB_iff hm).1 h3

end Go.Proofs.Ytjlcnbicehjjjaa
