/-
  Bodies, together.
-/
import Derived.Test.YtknkjplnngeebaaIA
import Derived.Test.YtknkjplnngeebaaI3
namespace Go.Proofs.Ytknkjplnngeebaa
open Go
set_option linter.all false
set_option linter.defProp false
set_option maxRecDepth 1000000


end Go.Proofs.Ytknkjplnngeebaa
