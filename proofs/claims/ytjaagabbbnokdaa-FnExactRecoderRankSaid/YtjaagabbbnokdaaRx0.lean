/-
  A slice that could be read earlier can be read beside an own row. Nothing of the program is run here.
-/
import Derived.Test.YtjaagabbbnokdaaMl
namespace Go.Proofs.Ytjaagabbbnokdaa
open Go.ChangeShapes Go.WideShapes Go.ChangeAt Go.RowKit
set_option linter.unusedVariables false
set_option maxRecDepth 100000

theorem RI.rx0 {w0 w : World} {v : Value} {xs : List Int} {ob : Option Nat} (h : RI w0 v xs) (k : Bel w0 w) (hob : ∀ q, ob = some q → w0.heap.size ≤ q) : RIx w 0 ob v xs := by
  obtain ⟨A, c, hv, h1, h2, h3⟩ := h
  refine ⟨A, c, hv, h1, h2, fun h0 => ?_⟩
  obtain ⟨b, off, hA, hb, hc⟩ := h3 h0
  exact ⟨b, off, hA, Nat.zero_le _, Nat.lt_of_lt_of_le hb k.size, fun e => by have := hob b e; omega, fun j x hx => k.cell1 hb (hc j x hx)⟩
end Go.Proofs.Ytjaagabbbnokdaa
