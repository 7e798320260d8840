/-
  Equality of slices of ints: contracts of slices.Equal and of the reference's EqualInts. No condition.
-/
import Derived.Test.YtjlcnbicehjjjaaSl3
namespace Go.Proofs.Ytjlcnbicehjjjaa
open Go.ChangeShapes Go.WideShapes Go.ChangeAt Go.RowKit
set_option linter.unusedVariables false
set_option maxRecDepth 100000

end Go.Proofs.Ytjlcnbicehjjjaa
