/-
  Bodies, together.
-/
import Derived.Test.YtknkjplnngeebaaIB
import Derived.Test.YtknkjplnngeebaaI4
namespace Go.Proofs.Ytknkjplnngeebaa
open Go
set_option linter.all false
set_option linter.defProp false
set_option maxRecDepth 1000000


end Go.Proofs.Ytknkjplnngeebaa
