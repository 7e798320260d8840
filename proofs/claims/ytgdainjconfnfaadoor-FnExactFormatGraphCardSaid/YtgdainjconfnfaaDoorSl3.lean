/-
  More words on slices of ints: a store elsewhere; eqIntS on the same numbers. No condition.
-/
import Derived.Test.YtgdainjconfnfaaDoorSl2
namespace Go.Proofs.YtgdainjconfnfaaDoor
open Go.ChangeShapes Go.WideShapes Go.ChangeAt Go.RowKit
set_option linter.unusedVariables false
set_option maxRecDepth 100000

theorem OI.setFar {w : World} {base : Nat} {v : Value} {xs : List Int} (h : OI w base v xs) {p : Addr} (hp : p.block < base) (u : Value) : OI (w.setCell p u) base v xs := by
  obtain ⟨hl, h | ⟨g, cap, cur, hv, hb, hh, h1, h2, h3, h4⟩⟩ := h
  · exact ⟨hl, .inl h⟩
  · exact ⟨hl, .inr ⟨g, cap, cur, hv, hb, (Below.heap_setCell w p u g (by omega)).trans hh, h1, h2, h3, h4⟩⟩
end Go.Proofs.YtgdainjconfnfaaDoor
