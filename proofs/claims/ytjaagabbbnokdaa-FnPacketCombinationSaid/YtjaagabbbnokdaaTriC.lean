/-
  The laws' helpers over slices of structs of three ints: contracts of szXS, toXS, eqXS, markXS, heldXS for X = Feedback, Edge. Conditions: at most 2^20 elements; numbers below 2^62.
-/
import Derived.Test.YtjaagabbbnokdaaTri
import Derived.Deep.RegionHeld3
namespace Go.Proofs.Ytjaagabbbnokdaa
open Go.ChangeShapes Go.WideShapes Go.ChangeAt Go.RowKit
set_option linter.unusedVariables false
set_option maxRecDepth 100000

end Go.Proofs.Ytjaagabbbnokdaa
