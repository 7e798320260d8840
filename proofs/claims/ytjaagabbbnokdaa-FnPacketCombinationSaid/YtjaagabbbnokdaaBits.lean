/-
  Bits of small ints, and the slide of a window's base. Plain mathematics: nothing of the program.
-/
import Derived.Test.YtjaagabbbnokdaaWords
import Derived.Laws.BitsLemmas
import Derived.Laws.BitsAllLaws
namespace Go.Proofs.Ytjaagabbbnokdaa
open Go.RowKit

theorem and1 (n : Int) : bits .and .i64 n 1 = n % 2 := by
  have h1 : (BitVec.ofInt 64 1).toNat = 2 ^ 1 - 1 := by decide
  have key : (BitVec.ofInt 64 n &&& BitVec.ofInt 64 1).toNat = (n % ((2 ^ 64 : Nat) : Int)).toNat % 2 ^ 1 := by
    rw [BitVec.toNat_and, BitVec.toNat_ofInt, h1, Nat.and_two_pow_sub_one_eq_mod]
  show IntKind.i64.wrap ((BitVec.ofInt 64 n &&& BitVec.ofInt 64 1).toNat : Nat) = n % 2
  rw [key, IntKind.wrap_i64]
  omega

/-- Done, with one bit more. -/
def orB (d : Int) (k : Nat) : Int := bits .or .i64 d (2 ^ k)
theorem orB_fin : ∀ d : Fin 16, ∀ k : Fin 4, 0 ≤ orB (d.val : Int) k.val ∧ orB (d.val : Int) k.val ≤ 15 := by decide +kernel
theorem orB_bd {d : Int} {k : Nat} (h0 : 0 ≤ d) (h1 : d ≤ 15) (hk : k ≤ 3) : 0 ≤ orB d k ∧ orB d k ≤ 15 := by
  have h := orB_fin ⟨d.toNat, by omega⟩ ⟨k, by omega⟩
  have e : ((d.toNat : Nat) : Int) = d := Int.toNat_of_nonneg h0
  simpa only [e] using h

/-- The base and the bits behind the slide over finished generations. -/
def slide : Nat → Int → Int → Int × Int
  | 0, b, d => (b, d)
  | f + 1, b, d => if d % 2 = 1 then slide f (b + 1) (d / 2) else (b, d)
theorem slide_odd (f : Nat) (b d : Int) (h : d % 2 = 1) : slide (f + 1) b d = slide f (b + 1) (d / 2) := by simp [slide, h]
theorem slide_even (f : Nat) (b d : Int) (h : d % 2 ≠ 1) : slide f b d = (b, d) := by cases f <;> simp [slide, h]
theorem pow_le15 {x : Int} {k : Nat} (hk : k ≤ 4) (h : x ≤ 2 ^ k - 1) : x ≤ 15 := by
  have : (2 : Int) ^ k ≤ 2 ^ 4 := by
    rcases (by omega : k = 0 ∨ k = 1 ∨ k = 2 ∨ k = 3 ∨ k = 4) with rfl | rfl | rfl | rfl | rfl <;> decide
  omega
theorem wrap_pow {k : Nat} (hk : k ≤ 4) : IntKind.i64.wrap (2 ^ k) = 2 ^ k := by
  rcases (by omega : k = 0 ∨ k = 1 ∨ k = 2 ∨ k = 3 ∨ k = 4) with rfl | rfl | rfl | rfl | rfl <;> decide
end Go.Proofs.Ytjaagabbbnokdaa
