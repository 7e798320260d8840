/-
  The laws' helpers over slices of structs of three ints: contracts of szXS, toXS, eqXS, markXS, heldXS for X = Feedback, Edge. Conditions: at most 2^20 elements; numbers below 2^62.
-/
import Derived.Test.YtamiamogablglaaTri
import Derived.Deep.RegionHeld3
namespace Go.Proofs.Ytamiamogablglaa
open Go.ChangeShapes Go.WideShapes Go.ChangeAt Go.RowKit
set_option linter.unusedVariables false
set_option maxRecDepth 100000

set_option maxHeartbeats 400000 in
theorem eqFb1 (a b c : Int) (w : World) : Calls Try.prog 26 #[.agg #[.int .i64 a, .int .i64 b, .int .i64 c], .agg #[.int .i64 a, .int .i64 b, .int .i64 c]] w fun e w' => e = .returned (.bool true) ∧ Bel w w' := by
  go_enter Try.func26, Try.ntmps26
  go_wp2
  go_ret
  exact ⟨rfl, ((Bel.refl _).alloc _).alloc _⟩
end Go.Proofs.Ytamiamogablglaa
