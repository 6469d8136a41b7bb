/-
  Bodies, together.
-/
import Derived.Test.YthgimpheeemooaaI1
import Derived.Test.YthgimpheeemooaaI2
namespace Go.Proofs.Ythgimpheeemooaa
open Go
set_option linter.all false
set_option linter.defProp false
set_option maxRecDepth 1000000


end Go.Proofs.Ythgimpheeemooaa
