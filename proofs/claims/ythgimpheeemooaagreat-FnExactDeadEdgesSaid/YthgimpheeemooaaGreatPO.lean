/-
  Instances of functions over slices: copies, and whether some element meets a condition. Printed by a program.
-/
import Derived.Test.YthgimpheeemooaaGreatI3
import Derived.Test.YthgimpheeemooaaGreatDF
import Derived.Test.YthgimpheeemooaaGreatD2
namespace Go.Proofs.YthgimpheeemooaaGreat
open Go
set_option linter.all false
set_option linter.unusedVariables false
set_option linter.unusedSimpArgs false
set_option linter.defProp false
set_option maxRecDepth 1000000

theorem c_Clip_impl_State {g h : Heap} {Γ : List HP} {a : Value} {x : List (Sta)} (H : HS g (ow a x :: Γ) h) : CallE Tryz.prog fn_slices_Clip_S_impl_State_impl_State [a] h (fun v h' => HS g (ow v x :: Γ) h') := by
  refine CallE.gen fun k hk => EN_slices_Clip_S_impl_State_impl_State rfl ?_
  obtain ⟨v', h1, h2⟩ := H.clip (esz := 2) (k := .i64)
  simp -implicitDefEqProofs (disch := first | omega | (simp only [List.length_set, List.length_replicate, List.length_append, List.length_map, List.length_take, List.length_cons, List.length_nil]; omega)) [wrap64, H.rep.len, h1]
  exact RetK.keep (hk _ _ h2)

theorem c_Clip_S_int {g h : Heap} {Γ : List HP} {a : Value} {x : List (List Int)} (H : HS g (ow a x :: Γ) h) : CallE Tryz.prog fn_slices_Clip_S_S_int_S_int [a] h (fun v h' => HS g (ow v x :: Γ) h') := by
  refine CallE.gen fun k hk => EN_slices_Clip_S_S_int_S_int rfl ?_
  obtain ⟨v', h1, h2⟩ := H.clip (esz := 1) (k := .i64)
  simp -implicitDefEqProofs (disch := first | omega | (simp only [List.length_set, List.length_replicate, List.length_append, List.length_map, List.length_take, List.length_cons, List.length_nil]; omega)) [wrap64, H.rep.len, h1]
  exact RetK.keep (hk _ _ h2)

end Go.Proofs.YthgimpheeemooaaGreat
