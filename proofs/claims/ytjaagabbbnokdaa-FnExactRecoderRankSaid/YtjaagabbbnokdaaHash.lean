/-
  Homomorphic hashes: contracts of PowGroup, MulGroup, powers, HashVector, CombineHashes. No condition.
-/
import Derived.Test.YtjaagabbbnokdaaVec
namespace Go.Proofs.Ytjaagabbbnokdaa
open Go.ChangeShapes Go.WideShapes Go.ChangeAt Go.RowKit
set_option linter.unusedVariables false
set_option maxRecDepth 100000

theorem grB_mk {x : Int} (h1 : 0 ≤ x) (h2 : x ≤ 2038) (h : x ^ 1019 % 2039 = 1) : grB x = true := by
  have h0 : 1 ≤ x := by
    rcases (by omega : x = 0 ∨ 1 ≤ x) with rfl | h0
    · rw [Int.zero_pow (by decide)] at h; simp at h
    · exact h0
  unfold grB
  rw [decide_eq_true ⟨h0, h2⟩, h]
  rfl
theorem grB_one : grB 1 = true := grB_mk (by decide) (by decide) (by rw [Int.one_pow]; decide)
theorem grB_pow {g : Int} (n : Nat) (h : grB g = true) : grB (g ^ n % 2039) = true := by
  have hg := (grB_facts h).2
  refine grB_mk (Int.emod_nonneg _ (by decide)) (by have := Int.emod_lt_of_pos (g ^ n) (show (0 : Int) < 2039 by decide); omega) ?_
  rw [pow_mod, ← Int.pow_mul, Nat.mul_comm, Int.pow_mul, ← pow_mod, hg, Int.one_pow]
  decide
theorem grB_mul {a b : Int} (ha : grB a = true) (hb : grB b = true) : grB (a * b % 2039) = true := by
  refine grB_mk (Int.emod_nonneg _ (by decide)) (by have := Int.emod_lt_of_pos (a * b) (show (0 : Int) < 2039 by decide); omega) ?_
  rw [pow_mod, Int.mul_pow, Int.mul_emod, (grB_facts ha).2, (grB_facts hb).2]
  decide
/-- The product of the first k powers. -/
def pwr (gs es : List Int) : Nat → Int
  | 0 => 1
  | k + 1 => pwr gs es k * (gs.getD k 0 ^ (es.getD k 0).toNat % 2039) % 2039
theorem pwr_bd (gs es : List Int) (k : Nat) : 0 ≤ pwr gs es k ∧ pwr gs es k ≤ 2038 := by
  cases k with
  | zero => simp [pwr]
  | succ k => simp only [pwr]; omega
theorem pwr_step {gs es : List Int} {k : Nat} {g e : Int} (hg : gs[k]? = some g) (he : es[k]? = some e) : pwr gs es (k + 1) = pwr gs es k * (g ^ e.toNat % 2039) % 2039 := by
  simp [pwr, List.getD, hg, he]
theorem pwr_gr {gs es : List Int} (h : ∀ g ∈ gs, grB g = true) : ∀ k, k ≤ gs.length → grB (pwr gs es k) = true := by
  intro k
  induction k with
  | zero => intro _; exact grB_one
  | succ k ih =>
    intro hk
    have hx : gs[k]? = some (gs[k]'(by omega)) := List.getElem?_eq_getElem (by omega)
    simp only [pwr, List.getD, hx, Option.getD_some]
    exact grB_mul (ih (by omega)) (grB_pow _ (h _ (List.getElem_mem _)))
def hashZ (gs v : List Int) : Int := if hkB gs = true ∧ vecB v = true ∧ v.length = gs.length then pwr gs v gs.length else 0
def combZ (hs cs : List Int) : Int := if vecB cs = true ∧ hs.length = cs.length ∧ hs.all grB = true then pwr hs cs hs.length else 0

end Go.Proofs.Ytjaagabbbnokdaa
