/-
  Bodies of functions in the small language, as a program printed them, and that each is what the translation gives.
-/
import Derived.Test.YthgimpheeemooaaGreatI1
namespace Go.Proofs.YthgimpheeemooaaGreat
open Go
set_option linter.all false
set_option linter.defProp false
set_option maxRecDepth 1000000

def H_impl_BuildGraph : Hint := ⟨[(0, false), (1, true), (2, true), (3, false)], []⟩
def K17_1 : Pl := .st (.act none (.px (some 6) (.extract 0 (.v 5)))) <|
    .st (.act none (.px (some 7) (.extract 1 (.v 5)))) <|
    .st (.act none (.pset none 2 0 2 (.v 6))) <|
    .st (.act none (.px (some 3) (.mv (.v 7)))) .done
@[simp] def W17_1 := @Pl.wpe _ _ K17_1.eq_1
def K17_2 : C := .seq (.pl <| .st (.ext 4 4) <|
    .st (.act none (.pget (some 4) none 1 0 (some 2))) <|
    .st (.act none (.ex (some 5) (.call fn_impl_System_build [.v 4]))) K17_1) (.ret)
@[simp] def W17_2 := @C.wpe _ _ K17_2.eq_1
def K17_3 : C := .seq (.pl <| .st (.ext 4 1) <|
    .st (.act none (.px (some 4) (.build [.slice none 0 0, .slice none 0 0] []))) <|
    .st (.act none (.pset none 2 0 2 (.v 4))) <|
    .st (.act none (.px (some 3) (.mv (.c (.bool false))))) .done) (.ret)
@[simp] def W17_3 := @C.wpe _ _ K17_3.eq_1
def K17_4 : C := .cond 4 (.v 6) K17_3 (.skip)
@[simp] def W17_4 := @C.wpe _ _ K17_4.eq_1
def K17_5 : Pl := .st (.act none (.px (some 6) (.un .not (.v 5)))) .done
@[simp] def W17_5 := @Pl.wpe _ _ K17_5.eq_1
def K17_6 : C := .seq (.seq (.pl <| .st (.ext 4 3) <|
    .st (.act none (.pget (some 4) none 1 0 (some 2))) <|
    .st (.act none (.ex (some 5) (.call fn_impl_SystemValid [.v 4]))) K17_5) K17_4) K17_2
@[simp] def W17_6 := @C.wpe _ _ K17_6.eq_1
def B_impl_BuildGraph : C := .seq (.pl <| .st (.ext 4 0) <|
    .st (.act none (.pnew 1 (.v 0) [])) <|
    .st (.act none (.pnew 2 (.c (.agg #[.slice none 0 0, .slice none 0 0])) [])) <|
    .st (.act none (.px (some 3) (.mv (.c (.bool false))))) .done) K17_6
@[simp] def WB_impl_BuildGraph := @C.wpe _ _ B_impl_BuildGraph.eq_1
def R_impl_BuildGraph : FIR := ⟨B_impl_BuildGraph, 4, [(2, some (some 2)), (3, none)]⟩
theorem IR_impl_BuildGraph : cfun Tryz.prog H_impl_BuildGraph Tryz.f17 = some R_impl_BuildGraph := by kernel_rfl
theorem EN_impl_BuildGraph {args : List Value} {h : Heap} {k : Value → Heap → Prop} (hargs : args.length = 1) (hw : B_impl_BuildGraph.wp Tryz.prog (retQ [(2, some (some 2)), (3, none)] k) (env0 args 4) h) : CallE Tryz.prog fn_impl_BuildGraph args h k := enter Tryz.func17 rfl IR_impl_BuildGraph hargs hw


end Go.Proofs.YthgimpheeemooaaGreat
