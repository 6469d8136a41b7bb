/-
  Bodies of functions in the small language, as a program printed them, and that each is what the translation gives.
-/
import Derived.Test.YthgimpheeemooaaI1
namespace Go.Proofs.Ythgimpheeemooaa
open Go
set_option linter.all false
set_option linter.defProp false
set_option maxRecDepth 1000000

def H_impl_LabelsValid : Hint := ⟨[(0, false), (2, false)], []⟩
def K66_1 : Pl := .st (.act (some (.v 5, true)) (.px (some 8) (.un .not (.v 7)))) <|
    .st (.act none (.px (some 9) (.pick (.v 5) (.v 8) (.c (.bool false))))) <|
    .st (.act none (.px (some 1) (.mv (.v 9)))) .done
@[simp] def W66_1 := @Pl.wpe _ _ K66_1.eq_1
def K66_2 : C := .seq (.pl <| .st (.ext 2 8) <|
    .st (.act none (.px (some 2) (.mv (.v 0)))) <|
    .st (.act none (.px (some 3) (.lenV (.v 2)))) <|
    .st (.act none (.px (some 4) (.bin .eql (.v 3) (.c (.int .i64 3))))) <|
    .st (.act none (.px (some 5) (.mv (.v 4)))) <|
    .st (.act (some (.v 5, true)) (.px (some 6) (.mv (.v 0)))) <|
    .st (.act (some (.v 5, true)) (.ex (some 7) (.call fn_slices_ContainsFunc_S_impl_Expr_impl_Expr [.v 6, .c (.func (.func 119) #[] #[])]))) K66_1) (.ret)
@[simp] def W66_2 := @C.wpe _ _ K66_2.eq_1
def B_impl_LabelsValid : C := .seq (.pl <| .st (.ext 2 0) <|
    .st (.act none (.px (some 1) (.mv (.c (.bool false))))) .done) K66_2
@[simp] def WB_impl_LabelsValid := @C.wpe _ _ B_impl_LabelsValid.eq_1
def R_impl_LabelsValid : FIR := ⟨B_impl_LabelsValid, 2, [(1, none)]⟩
theorem IR_impl_LabelsValid : cfun Try.prog H_impl_LabelsValid Try.f66 = some R_impl_LabelsValid := by kernel_rfl
theorem EN_impl_LabelsValid {args : List Value} {h : Heap} {k : Value → Heap → Prop} (hargs : args.length = 1) (hw : B_impl_LabelsValid.wp Try.prog (retQ [(1, none)] k) (env0 args 2) h) : CallE Try.prog fn_impl_LabelsValid args h k := enter Try.func66 rfl IR_impl_LabelsValid hargs hw

def H_impl_LabelsValid_1 : Hint := ⟨[(0, false), (1, true), (2, false)], []⟩
def K119_1 : Pl := .st (.act none (.px (some 5) (.un .not (.v 4)))) <|
    .st (.act none (.px (some 2) (.mv (.v 5)))) .done
@[simp] def W119_1 := @Pl.wpe _ _ K119_1.eq_1
def K119_2 : C := .seq (.pl <| .st (.ext 3 3) <|
    .st (.act none (.pget (some 3) none 1 0 (some 3))) <|
    .st (.act none (.ex (some 4) (.call fn_impl_ExprValid [.v 3]))) K119_1) (.ret)
@[simp] def W119_2 := @C.wpe _ _ K119_2.eq_1
def B_impl_LabelsValid_1 : C := .seq (.pl <| .st (.ext 3 0) <|
    .st (.act none (.pnew 1 (.v 0) [])) <|
    .st (.act none (.px (some 2) (.mv (.c (.bool false))))) .done) K119_2
@[simp] def WB_impl_LabelsValid_1 := @C.wpe _ _ B_impl_LabelsValid_1.eq_1
def R_impl_LabelsValid_1 : FIR := ⟨B_impl_LabelsValid_1, 3, [(2, none)]⟩
theorem IR_impl_LabelsValid_1 : cfun Try.prog H_impl_LabelsValid_1 Try.f119 = some R_impl_LabelsValid_1 := by kernel_rfl
theorem EN_impl_LabelsValid_1 {args : List Value} {h : Heap} {k : Value → Heap → Prop} (hargs : args.length = 1) (hw : B_impl_LabelsValid_1.wp Try.prog (retQ [(2, none)] k) (env0 args 3) h) : CallE Try.prog fn_impl_LabelsValid_1 args h k := enter Try.func119 rfl IR_impl_LabelsValid_1 hargs hw

def H_spec_LabelsValid : Hint := ⟨[(0, false), (2, false), (3, false)], [[1]]⟩
def K61_1 : C := .seq (.pl <| .st (.ext 3 3) <|
    .st (.act none (.px (some 3) (.mv (.v 0)))) <|
    .st (.act none (.px (some 4) (.lenV (.v 3)))) <|
    .st (.act none (.px (some 5) (.bin .eql (.v 4) (.c (.int .i64 3))))) <|
    .st (.act none (.px (some 1) (.mv (.v 5)))) .done) (.ret)
@[simp] def W61_1 := @C.wpe _ _ K61_1.eq_1
def K61_2 : C := .pl <| .st (.ext 3 2) <|
    .st (.act none (.px (some 3) (.mv (.v 2)))) <|
    .st (.act none (.px (some 4) (.bin .add (.v 3) (.c (.int .i64 1))))) <|
    .st (.act none (.px (some 2) (.mv (.v 4)))) .done
@[simp] def W61_2 := @C.wpe _ _ K61_2.eq_1
def K61_3 : C := .seq (.pl <| .st (.ext 3 0) <|
    .st (.act none (.px (some 1) (.mv (.c (.bool false))))) .done) (.ret)
@[simp] def W61_3 := @C.wpe _ _ K61_3.eq_1
def K61_4 : C := .cond 3 (.v 8) K61_3 (.skip)
@[simp] def W61_4 := @C.wpe _ _ K61_4.eq_1
def K61_5 : Pl := .st (.act none (.px (some 8) (.un .not (.v 7)))) .done
@[simp] def W61_5 := @Pl.wpe _ _ K61_5.eq_1
def K61_6 : C := .seq (.block 1 (.seq (.pl <| .st (.ext 3 6) <|
    .st (.act none (.px (some 3) (.mv (.v 0)))) <|
    .st (.act none (.px (some 4) (.mv (.v 2)))) <|
    .st (.act none (.px (some 5) (.ia 3 (.v 3) (.v 4)))) <|
    .st (.act none (.ld (some 6) (.v 5) (some 3))) <|
    .st (.act none (.ex (some 7) (.call fn_spec_ExprValid [.v 6]))) K61_5) K61_4)) K61_2
@[simp] def W61_6 := @C.wpe _ _ K61_6.eq_1
def K61_7 : C := .cond 3 (.v 6) (.skip) (.exit 0)
@[simp] def W61_7 := @C.wpe _ _ K61_7.eq_1
def K61_8 : C := .seq (.seq (.pl <| .st (.ext 3 4) <|
    .st (.act none (.px (some 3) (.mv (.v 2)))) <|
    .st (.act none (.px (some 4) (.mv (.v 0)))) <|
    .st (.act none (.px (some 5) (.lenV (.v 4)))) <|
    .st (.act none (.px (some 6) (.bin .lss (.v 3) (.v 5)))) .done) K61_7) K61_6
@[simp] def W61_8 := @C.wpe _ _ K61_8.eq_1
def K61_9 : C := .block 0 (.loop 3 [1] K61_8)
@[simp] def W61_9 := @C.wpe _ _ K61_9.eq_1
def K61_10 : C := .seq (.seq (.pl <| .st (.ext 3 0) <|
    .st (.act none (.px (some 2) (.mv (.c (.int .i64 0))))) .done) K61_9) K61_1
@[simp] def W61_10 := @C.wpe _ _ K61_10.eq_1
def B_spec_LabelsValid : C := .seq (.pl <| .st (.ext 3 0) <|
    .st (.act none (.px (some 1) (.mv (.c (.bool false))))) .done) K61_10
@[simp] def WB_spec_LabelsValid := @C.wpe _ _ B_spec_LabelsValid.eq_1
def R_spec_LabelsValid : FIR := ⟨B_spec_LabelsValid, 3, [(1, none)]⟩
theorem IR_spec_LabelsValid : cfun Try.prog H_spec_LabelsValid Try.f61 = some R_spec_LabelsValid := by kernel_rfl
theorem EN_spec_LabelsValid {args : List Value} {h : Heap} {k : Value → Heap → Prop} (hargs : args.length = 1) (hw : B_spec_LabelsValid.wp Try.prog (retQ [(1, none)] k) (env0 args 3) h) : CallE Try.prog fn_spec_LabelsValid args h k := enter Try.func61 rfl IR_spec_LabelsValid hargs hw


end Go.Proofs.Ythgimpheeemooaa
