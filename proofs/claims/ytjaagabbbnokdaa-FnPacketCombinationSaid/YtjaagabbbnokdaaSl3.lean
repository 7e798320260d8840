/-
  More words on slices of ints: a store elsewhere; eqIntS on the same numbers. No condition.
-/
import Derived.Test.YtjaagabbbnokdaaSl2
namespace Go.Proofs.Ytjaagabbbnokdaa
open Go.ChangeShapes Go.WideShapes Go.ChangeAt Go.RowKit
set_option linter.unusedVariables false
set_option maxRecDepth 100000

theorem OI.setFar {w : World} {base : Nat} {v : Value} {xs : List Int} (h : OI w base v xs) {p : Addr} (hp : p.block < base) (u : Value) : OI (w.setCell p u) base v xs := by
  obtain ⟨hl, h | ⟨g, cap, cur, hv, hb, hh, h1, h2, h3, h4⟩⟩ := h
  · exact ⟨hl, .inl h⟩
  · exact ⟨hl, .inr ⟨g, cap, cur, hv, hb, (Below.heap_setCell w p u g (by omega)).trans hh, h1, h2, h3, h4⟩⟩
theorem eqInts_same (v u : Value) (xs : List Int) (w : World) (hv : RI w v xs) (hu : RI w u xs) :
    Calls Try.prog 115 #[v, u] w fun e w' => e = .returned (.bool true) ∧ Bel w w' :=
  (eqInts_any v u xs xs w hv hu).mono fun _ _ ⟨he, hb⟩ => ⟨by rw [he, decide_eq_true rfl], hb⟩
end Go.Proofs.Ytjaagabbbnokdaa
