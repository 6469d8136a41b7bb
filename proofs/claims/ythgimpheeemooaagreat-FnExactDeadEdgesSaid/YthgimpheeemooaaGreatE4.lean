/-
  Which variables matter, by the program and by the reference.
-/
import Derived.Test.YthgimpheeemooaaGreatE3
namespace Go.Proofs.YthgimpheeemooaaGreat
open Go
set_option linter.all false
set_option linter.unusedVariables false
set_option linter.unusedSimpArgs false
set_option linter.defProp false
set_option maxRecDepth 1000000

/-- an edge's two expressions, as values -/
theorem Rep.gd {h : Heap} {e : Ed} {w1 w2 : Value} (ok : e.ok) (R1 : Rep h w1 e.guard.kids) : Rep h (.agg #[.int .i64 e.guard.kind, .int .i64 e.guard.val, w1]) e.guard := Rep_Exq.2 ⟨w1, rfl, ok.gk, ok.gv, R1⟩
theorem Rep.vl {h : Heap} {e : Ed} {w2 : Value} (ok : e.ok) (R1 : Rep h w2 e.value.kids) : Rep h (.agg #[.int .i64 e.value.kind, .int .i64 e.value.val, w2]) e.value := Rep_Exq.2 ⟨w2, rfl, ok.vk, ok.vv, R1⟩

end Go.Proofs.YthgimpheeemooaaGreat
