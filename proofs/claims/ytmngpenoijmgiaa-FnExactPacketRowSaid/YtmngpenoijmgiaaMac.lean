/-
  Contracts of KeyedHash and ManifestMAC, of the program and of the reference. Condition: at most 2^21 numbers.
-/
import Derived.Test.YtmngpenoijmgiaaHsh
namespace Go.Proofs.Ytmngpenoijmgiaa
open Go.ChangeShapes Go.WideShapes Go.ChangeAt Go.RowKit
set_option linter.unusedVariables false
set_option maxRecDepth 100000

abbrev In64s (xs : List Int) : Prop := ∀ x ∈ xs, -9223372036854775808 ≤ x ∧ x ≤ 9223372036854775807
theorem RI.one {w : World} {g : Nat} {x : Int} (h : Blk w g 3 #[.int .i64 x]) : RI w (.slice (some ⟨g, 0, none⟩) 1 1) [x] :=
  ⟨some ⟨g, 0, none⟩, 1, rfl, Nat.le_refl _, by omega, fun _ => ⟨g, 0, rfl, h.lt, fun j y hj => by
    have hj0 : j = 0 := by
      have := (List.getElem?_eq_some_iff.1 hj).1
      simp at this
      exact this
    subst hj0
    simp at hj
    subst hj
    exact h.facts.1 0⟩⟩
/-- A block that holds just these numbers. -/
theorem OI.lit {w : World} {base g : Nat} {xs : List Int} (h : Blk w g 3 ((xs.map (Value.int .i64)).toArray)) (hb : base ≤ g) (hn : xs.length ≤ 1099511627776) : OI w base (.slice (some ⟨g, 0, none⟩) xs.length xs.length) xs :=
  ⟨by simp, .inr ⟨g, xs.length, _, rfl, hb, h, Nat.le_refl _, by unfold maxLen; omega, by simp, by rw [Nat.mul_one]; exact List.take_of_length_le (by simp)⟩⟩
theorem RII.of {w : World} {g n : Nat} {cs : Array Value} {T : TypeId} {xss : List (List Int)} (h : Blk w g T cs) (hn : n = xss.length) (hc : n ≤ 9223372036854775807) (hr : ∀ (j : Nat) (xs : List Int), xss[j]? = some xs → ∃ u, cs[j]? = some u ∧ RI w u xs) : RII w (.slice (some ⟨g, 0, none⟩) n n) xss := by
  subst hn
  refine ⟨some ⟨g, 0, none⟩, xss.length, rfl, Nat.le_refl _, hc, fun _ => ⟨g, 0, rfl, h.lt, fun j xs hj => ?_⟩⟩
  obtain ⟨u, hu, hr⟩ := hr j xs hj
  exact ⟨u, by rw [Nat.zero_add, h.facts.1]; exact hu, hr⟩

def khZ (key : Int) (xs : List Int) : Int := hsh ([key] ++ xs ++ [key])
end Go.Proofs.Ytmngpenoijmgiaa
