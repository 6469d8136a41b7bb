/-
  Instances of functions over slices: copies, and whether some element meets a condition. Printed by a program.
-/
import Derived.Test.YthgimpheeemooaaGreatI3
import Derived.Test.YthgimpheeemooaaGreatD2
namespace Go.Proofs.YthgimpheeemooaaGreat
open Go
set_option linter.all false
set_option linter.unusedVariables false
set_option linter.unusedSimpArgs false
set_option linter.defProp false
set_option maxRecDepth 1000000

theorem c_Clip_impl_Step {g h : Heap} {Γ : List HP} {a : Value} {x : List Stp} (H : HS g (ow a x :: Γ) h) : CallE Tryz.prog fn_slices_Clip_S_impl_Step_impl_Step [a] h (fun v h' => HS g (ow v x :: Γ) h') := by
  refine CallE.gen fun k hk => EN_slices_Clip_S_impl_Step_impl_Step rfl ?_
  obtain ⟨v', h1, h2⟩ := H.clip (esz := 4) (k := .i64)
  simp -implicitDefEqProofs (disch := first | omega | (simp only [List.length_set, List.length_replicate, List.length_append, List.length_map, List.length_take, List.length_cons, List.length_nil]; omega)) [wrap64, H.rep.len, h1]
  exact RetK.keep (hk _ _ h2)

end Go.Proofs.YthgimpheeemooaaGreat
