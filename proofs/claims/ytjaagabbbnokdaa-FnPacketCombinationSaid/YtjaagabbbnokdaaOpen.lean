/-
  How arguments of laws read: one predicate and one opening lemma for each type of argument. Nothing of the program is run here.
-/
import Derived.Test.YtjaagabbbnokdaaInt
import Derived.Deep.Slices
import Derived.Deep.Fields
import Derived.Deep.Matrix
namespace Go.Proofs.Ytjaagabbbnokdaa
open Go.ChangeShapes Go.WideShapes Go.ChangeAt Go.RowKit Go.Joins Go.Deep
set_option linter.unusedVariables false
set_option maxRecDepth 100000

abbrev I64 (x : Int) : Prop := -9223372036854775808 ≤ x ∧ x ≤ 9223372036854775807
def IsI (W : World) (v : Value) (x : Int) : Prop := v = .int .i64 x ∧ I64 x
def IsB (W : World) (v : Value) (x : Bool) : Prop := v = .bool x

section
variable {H : Type} {enc : TypeId × Value → H} {w : World} {base : Nat} {spare : Nat → Bool} {held : Bool} {r : Reach} {b0 : Nat} {v : Value} {d : DataW H} {p : List MemPlace}

theorem openI (hv : Value.okWide Try.prog w r b0 3 v) (h : DataW.Trod enc Try.prog w base spare held 3 v d p) : ∃ x, IsI w v x := by
  obtain ⟨x, rfl, _, _, wx⟩ := open_int Try.underlying3 hv h
  exact ⟨x, rfl, bounds_i64 wx⟩
theorem openB (hv : Value.okWide Try.prog w r b0 4 v) (h : DataW.Trod enc Try.prog w base spare held 4 v d p) : ∃ x, IsB w v x := by
  obtain ⟨x, rfl, _, _⟩ := open_bool Try.underlying4 hv h
  exact ⟨x, rfl⟩
theorem field_int {n : Nat} {v : Value} {y : DataW H × List MemPlace} (h : DataW.trod enc Try.prog w base spare held n 3 [v] = some y) : ∃ x : Int, v = .int .i64 x ∧ I64 x := by
  obtain ⟨x, e, _, wx⟩ := DataW.trod_int Try.underlying3 h
  simp at e
  exact ⟨x, e, bounds_i64 wx⟩

end
end Go.Proofs.Ytjaagabbbnokdaa
