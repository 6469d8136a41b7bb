/-
  Whether an edge takes a letter, by the program and by the reference.
-/
import Derived.Test.YtknkjplnngeebaaP3
import Derived.Test.YtknkjplnngeebaaIB
namespace Go.Proofs.Ytknkjplnngeebaa
open Go
set_option linter.all false
set_option linter.unusedVariables false
set_option linter.unusedSimpArgs false
set_option linter.defProp false
set_option maxRecDepth 1000000

theorem c_takes {h : Heap} {v : Value} {t : Tr} (Rt : Rep h v t) {n : Int} : CallE Try.prog fn_impl_Transition_takes [v, .int .i64 n] h (fun u h' => h' = h ∧ u = .bool (t.on n)) := by
  rw [(Rep_Tr.1 Rt).1]
  refine CallE.gen fun k hk => EN_impl_Transition_takes rfl ?_
  simp -implicitDefEqProofs (disch := first | omega | (simp only [List.length_set, List.length_replicate, List.length_append, List.length_map, List.length_take, List.length_cons, List.length_nil]; omega)) [wrap64, Tr.v]
  exact RetK.keep (hk _ _ ⟨rfl, rfl⟩)
theorem c_l7On {h : Heap} {v : Value} {t : Tr} (Rt : Rep h v t) {n : Int} : CallE Try.prog fn_spec_l7On [v, .int .i64 n] h (fun u h' => h' = h ∧ u = .bool (t.on n)) := by
  rw [(Rep_Tr.1 Rt).1]
  refine CallE.gen fun k hk => EN_spec_l7On rfl ?_
  simp -implicitDefEqProofs (disch := first | omega | (simp only [List.length_set, List.length_replicate, List.length_append, List.length_map, List.length_take, List.length_cons, List.length_nil]; omega)) [wrap64, Tr.v]
  exact RetK.keep (hk _ _ ⟨rfl, rfl⟩)

end Go.Proofs.Ytknkjplnngeebaa
