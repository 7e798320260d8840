/-
  slices.Grow of a nil slice of ints. Condition: at most 2^40 elements.
-/
import Derived.Test.YtchodlfkoafeaaaSl3
import Derived.Lib.AppendZerosOnto
import Derived.Lib.SliceRun
import Derived.Lib.Walk
namespace Go.Proofs.Ytchodlfkoafeaaa
open Go.ChangeShapes Go.WideShapes Go.ChangeAt Go.RowKit Go.Lib
set_option linter.unusedVariables false
set_option maxRecDepth 100000

end Go.Proofs.Ytchodlfkoafeaaa
