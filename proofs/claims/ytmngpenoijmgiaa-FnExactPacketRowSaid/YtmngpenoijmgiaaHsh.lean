/-
  Hashes: contracts of Mod, Hash, KeyedHash, of the program and of the reference. Conditions: a modulus from 1 to 10^12; at most 2^39 numbers.
-/
import Derived.Test.YtmngpenoijmgiaaConcat
namespace Go.Proofs.Ytmngpenoijmgiaa
open Go.ChangeShapes Go.WideShapes Go.ChangeAt Go.RowKit
set_option linter.unusedVariables false
set_option maxRecDepth 100000

theorem tmod_emod (p q : Int) (hq : 1 ≤ q) : (p.tmod q + q) % q = p % q ∧ -q < p.tmod q ∧ p.tmod q < q := by
  have h1 : p.tmod q < q := Int.tmod_lt_of_pos p (by omega)
  have h2 : -q < p.tmod q := by
    rcases Int.le_total 0 p with hp | hp
    · have := Int.tmod_nonneg q hp; omega
    · have h3 : (-p).tmod q < q := Int.tmod_lt_of_pos (-p) (by omega)
      rw [Int.neg_tmod] at h3
      omega
  refine ⟨?_, h2, h1⟩
  rw [Int.add_emod_right]
  have h4 := Int.mul_tdiv_add_tmod p q
  conv => rhs; rw [← h4]
  rw [Int.add_comm, Int.add_mul_emod_self_left]

/-- The hash of a list of numbers. -/
def hshS (s v : Int) : Int := (s * 1000003 + v % 2147483647 + 13) % 2147483647
def hsh (xs : List Int) : Int := xs.foldl hshS 11
theorem hsh_bd (xs : List Int) : 0 ≤ hsh xs ∧ hsh xs < 2147483647 := by
  have key : ∀ (ys : List Int) (s : Int), 0 ≤ s ∧ s < 2147483647 → 0 ≤ ys.foldl hshS s ∧ ys.foldl hshS s < 2147483647 := by
    intro ys
    induction ys with
    | nil => intro s h; exact h
    | cons y ys ih => intro s h; exact ih _ ⟨Int.emod_nonneg _ (by decide), Int.emod_lt_of_pos _ (by decide)⟩
  exact key xs 11 (by decide)
theorem hsh_step {xs : List Int} {k : Nat} {x : Int} (h : xs[k]? = some x) : hsh (xs.take (k + 1)) = (hsh (xs.take k) * 1000003 + x % 2147483647 + 13) % 2147483647 := by
  obtain ⟨hk, rfl⟩ := List.getElem?_eq_some_iff.1 h
  unfold hsh
  rw [List.take_succ_eq_append_getElem hk, List.foldl_append]
  rfl
end Go.Proofs.Ytmngpenoijmgiaa
