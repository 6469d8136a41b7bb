/-
  All bodies.
-/
import Derived.Test.YtfhjclhchbagnaaI1
import Derived.Test.YtfhjclhchbagnaaI2
namespace Go.Proofs.Ytfhjclhchbagnaa
open Go
set_option linter.all false
set_option linter.defProp false


end Go.Proofs.Ytfhjclhchbagnaa
