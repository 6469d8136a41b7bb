/-
  Texts of this proof, one behind the other.
-/
import Derived.Test.YtglnelcmcimljaaYF5
/-
  Bodies of functions in the small language, as a program printed them, and that each is what the translation gives.
-/
namespace Go.Proofs.Ytglnelcmcimljaa
open Go
set_option linter.all false
set_option linter.defProp false
set_option maxRecDepth 1000000

def H_impl_AutomatonValid : Hint := ⟨[(0, false), (1, true), (2, false), (3, false), (4, false), (6, false), (11, false), (12, false), (13, false)], [[0, 2, 5]]⟩
def K46_1 : Pl := .st (.act (some (.v 17, true)) (.px (some 22) (.un .not (.v 21)))) <|
    .st (.act none (.px (some 23) (.pick (.v 17) (.v 22) (.c (.bool false))))) <|
    .st (.act none (.px (some 2) (.mv (.v 23)))) .done
@[simp] def W46_1 := @Pl.wpe _ _ K46_1.eq_1
def K46_2 : Pl := .st (.act none (.px (some 11) (.mv (.v 10)))) <|
    .st (.act (some (.v 11, true)) (.als 12 none 1)) <|
    .st (.act (some (.v 11, true)) (.pget (some 13) (some 12) 1 2 none)) <|
    .st (.act (some (.v 11, true)) (.px (some 14) (.lenV (.v 13)))) <|
    .st (.act (some (.v 11, true)) (.px (some 15) (.bin .leq (.v 14) (.c (.int .i64 2048))))) <|
    .st (.act none (.px (some 16) (.pick (.v 11) (.v 15) (.c (.bool false))))) <|
    .st (.act none (.px (some 17) (.mv (.v 16)))) <|
    .st (.act (some (.v 17, true)) (.als 18 none 1)) <|
    .st (.act (some (.v 17, true)) (.pget (some 19) (some 18) 1 2 none)) <|
    .st (.act (some (.v 17, true)) (.px (some 20) (.mkf (.func fn_impl_AutomatonValid_1) [] [.v 3]))) <|
    .st (.act (some (.v 17, true)) (.ex (some 21) (.call fn_slices_ContainsFunc_S_impl_Transition_impl_Transition [.v 19, .v 20]))) K46_1
@[simp] def W46_2 := @Pl.wpe _ _ K46_2.eq_1
def K46_3 : C := .seq (.pl <| .st (.ext 9 15) <|
    .st (.act none (.ld (some 9) (.v 3) none)) <|
    .st (.act none (.ex (some 10) (.call fn_impl_in [.v 9, .c (.int .i64 1), .c (.int .i64 64)]))) K46_2) (.ret)
@[simp] def W46_3 := @C.wpe _ _ K46_3.eq_1
def K46_4 : C := .pl <| .st (.ext 9 1) <|
    .st (.act none (.px (some 9) (.bin .add (.v 8) (.c (.int .i64 1))))) <|
    .st (.act none (.px (some 8) (.mv (.v 9)))) .done
@[simp] def W46_4 := @C.wpe _ _ K46_4.eq_1
def K46_5 : C := .pl <| .st (.ext 9 1) <|
    .st (.act none (.px (some 9) (.mv (.v 5)))) <|
    .st (.act none (.px (some 4) (.mv (.v 9)))) .done
@[simp] def W46_5 := @C.wpe _ _ K46_5.eq_1
def K46_6 : C := .seq (.pl <| .st (.ext 9 0) <|
    .st (.act none (.px (some 2) (.mv (.c (.bool false))))) .done) (.ret)
@[simp] def W46_6 := @C.wpe _ _ K46_6.eq_1
def K46_7 : C := .cond 9 (.v 15) K46_6 (.skip)
@[simp] def W46_7 := @C.wpe _ _ K46_7.eq_1
def K46_8 : Pl := .st (.act none (.px (some 15) (.un .not (.v 14)))) .done
@[simp] def W46_8 := @Pl.wpe _ _ K46_8.eq_1
def K46_9 : C := .seq (.seq (.pl <| .st (.ext 9 7) <|
    .st (.act none (.px (some 9) (.mv (.v 5)))) <|
    .st (.act none (.px (some 10) (.mv (.v 4)))) <|
    .st (.act none (.px (some 11) (.bin .add (.v 10) (.c (.int .i64 1))))) <|
    .st (.act none (.ld (some 12) (.v 3) none)) <|
    .st (.act none (.px (some 13) (.bin .sub (.v 12) (.c (.int .i64 1))))) <|
    .st (.act none (.ex (some 14) (.call fn_impl_in [.v 9, .v 11, .v 13]))) K46_8) K46_7) K46_5
@[simp] def W46_9 := @C.wpe _ _ K46_9.eq_1
def K46_10 : C := .seq (.block 1 (.seq (.pl <| .st (.ext 9 2) <|
    .st (.act none (.px (some 9) (.ia 1 (.v 6) (.v 8)))) <|
    .st (.act none (.ld (some 10) (.v 9) none)) <|
    .st (.act none (.px (some 5) (.mv (.v 10)))) .done) K46_9)) K46_4
@[simp] def W46_10 := @C.wpe _ _ K46_10.eq_1
def K46_11 : C := .seq (.cond 9 (.v 9) (.skip) (.exit 0)) K46_10
@[simp] def W46_11 := @C.wpe _ _ K46_11.eq_1
def K46_12 : C := .seq (.pl <| .st (.ext 9 1) <|
    .st (.act none (.px (some 9) (.bin .lss (.v 8) (.v 7)))) .done) K46_11
@[simp] def W46_12 := @C.wpe _ _ K46_12.eq_1
def K46_13 : C := .block 0 (.loop 9 [0, 2, 5] K46_12)
@[simp] def W46_13 := @C.wpe _ _ K46_13.eq_1
def K46_14 : C := .seq (.seq (.pl <| .st (.ext 9 1) <|
    .st (.act none (.als 9 none 1)) <|
    .st (.act none (.pget (some 6) (some 9) 1 0 none)) <|
    .st (.act none (.px (some 7) (.lenV (.v 6)))) <|
    .st (.act none (.px (some 8) (.mv (.c (.int .i64 0))))) .done) K46_13) K46_3
@[simp] def W46_14 := @C.wpe _ _ K46_14.eq_1
def K46_15 : C := .seq (.pl <| .st (.ext 9 0) <|
    .st (.act none (.px (some 4) (.mv (.c (.int .i64 (-1)))))) .done) K46_14
@[simp] def W46_15 := @C.wpe _ _ K46_15.eq_1
def K46_16 : Pl := .st (.act none (.ex none (.store 1 (.v 3) (.v 11)))) .done
@[simp] def W46_16 := @Pl.wpe _ _ K46_16.eq_1
def K46_17 : C := .seq (.pl <| .st (.ext 9 3) <|
    .st (.act none (.als 9 none 1)) <|
    .st (.act none (.pget (some 10) (some 9) 1 1 none)) <|
    .st (.act none (.px (some 11) (.lenV (.v 10)))) <|
    .st (.act none (.ex (some 3) (.alloc (.c (.int .i64 0))))) K46_16) K46_15
@[simp] def W46_17 := @C.wpe _ _ K46_17.eq_1
def B_impl_AutomatonValid : C := .seq (.pl <| .st (.ext 9 0) <|
    .st (.act none (.pnew 1 (.v 0) [])) <|
    .st (.act none (.px (some 2) (.mv (.c (.bool false))))) .done) K46_17
@[simp] def WB_impl_AutomatonValid := @C.wpe _ _ B_impl_AutomatonValid.eq_1
def R_impl_AutomatonValid : FIR := ⟨B_impl_AutomatonValid, 9, [(2, none)]⟩
theorem IR_impl_AutomatonValid : cfun Try.prog H_impl_AutomatonValid Try.f46 = some R_impl_AutomatonValid := by kernel_rfl
theorem EN_impl_AutomatonValid {args : List Value} {h : Heap} {k : Value → Heap → Prop} (hargs : args.length = 1) (hw : B_impl_AutomatonValid.wp Try.prog (retQ [(2, none)] k) (env0 args 9) h) : CallE Try.prog fn_impl_AutomatonValid args h k := enter Try.func46 rfl IR_impl_AutomatonValid hargs hw

def H_impl_AutomatonValid_1 : Hint := ⟨[(0, false), (1, false), (2, true), (3, false)], []⟩
def K94_1 : Pl := .st (.act (some (.v 18, false)) (.px (some 22) (.un .not (.v 21)))) <|
    .st (.act none (.px (some 23) (.pick (.v 18) (.c (.bool true)) (.v 22)))) <|
    .st (.act none (.px (some 24) (.mv (.v 23)))) <|
    .st (.act (some (.v 24, false)) (.als 25 none 2)) <|
    .st (.act (some (.v 24, false)) (.pget (some 26) (some 25) 2 2 none)) <|
    .st (.act (some (.v 24, false)) (.px (some 27) (.bin .lss (.v 26) (.c (.int .i64 0))))) <|
    .st (.act none (.px (some 28) (.pick (.v 24) (.c (.bool true)) (.v 27)))) <|
    .st (.act none (.px (some 29) (.mv (.v 28)))) <|
    .st (.act (some (.v 29, false)) (.als 30 none 2)) <|
    .st (.act (some (.v 29, false)) (.pget (some 31) (some 30) 2 2 none)) <|
    .st (.act (some (.v 29, false)) (.als 32 none 2)) <|
    .st (.act (some (.v 29, false)) (.pget (some 33) (some 32) 2 1 none)) <|
    .st (.act (some (.v 29, false)) (.px (some 34) (.bin .andNot (.v 31) (.v 33)))) <|
    .st (.act (some (.v 29, false)) (.px (some 35) (.bin .neq (.v 34) (.c (.int .i64 0))))) <|
    .st (.act none (.px (some 36) (.pick (.v 29) (.c (.bool true)) (.v 35)))) <|
    .st (.act none (.px (some 3) (.mv (.v 36)))) .done
@[simp] def W94_1 := @Pl.wpe _ _ K94_1.eq_1
def K94_2 : Pl := .st (.act (some (.v 10, false)) (.px (some 16) (.un .not (.v 15)))) <|
    .st (.act none (.px (some 17) (.pick (.v 10) (.c (.bool true)) (.v 16)))) <|
    .st (.act none (.px (some 18) (.mv (.v 17)))) <|
    .st (.act (some (.v 18, false)) (.als 19 none 2)) <|
    .st (.act (some (.v 18, false)) (.pget (some 20) (some 19) 2 1 none)) <|
    .st (.act (some (.v 18, false)) (.ex (some 21) (.call fn_impl_in [.v 20, .c (.int .i64 0), .c (.int .i64 7)]))) K94_1
@[simp] def W94_2 := @Pl.wpe _ _ K94_2.eq_1
def K94_3 : Pl := .st (.act none (.px (some 9) (.un .not (.v 8)))) <|
    .st (.act none (.px (some 10) (.mv (.v 9)))) <|
    .st (.act (some (.v 10, false)) (.als 11 none 2)) <|
    .st (.act (some (.v 10, false)) (.pget (some 12) (some 11) 2 3 none)) <|
    .st (.act (some (.v 10, false)) (.ld (some 13) (.v 1) none)) <|
    .st (.act (some (.v 10, false)) (.px (some 14) (.bin .sub (.v 13) (.c (.int .i64 1))))) <|
    .st (.act (some (.v 10, false)) (.ex (some 15) (.call fn_impl_in [.v 12, .c (.int .i64 0), .v 14]))) K94_2
@[simp] def W94_3 := @Pl.wpe _ _ K94_3.eq_1
def K94_4 : C := .seq (.pl <| .st (.ext 4 33) <|
    .st (.act none (.als 4 none 2)) <|
    .st (.act none (.pget (some 5) (some 4) 2 0 none)) <|
    .st (.act none (.ld (some 6) (.v 1) none)) <|
    .st (.act none (.px (some 7) (.bin .sub (.v 6) (.c (.int .i64 1))))) <|
    .st (.act none (.ex (some 8) (.call fn_impl_in [.v 5, .c (.int .i64 0), .v 7]))) K94_3) (.ret)
@[simp] def W94_4 := @C.wpe _ _ K94_4.eq_1
def B_impl_AutomatonValid_1 : C := .seq (.pl <| .st (.ext 4 0) <|
    .st (.act none (.pnew 2 (.v 0) [])) <|
    .st (.act none (.px (some 3) (.mv (.c (.bool false))))) .done) K94_4
@[simp] def WB_impl_AutomatonValid_1 := @C.wpe _ _ B_impl_AutomatonValid_1.eq_1
def R_impl_AutomatonValid_1 : FIR := ⟨B_impl_AutomatonValid_1, 4, [(3, none)]⟩
theorem IR_impl_AutomatonValid_1 : cfun Try.prog H_impl_AutomatonValid_1 Try.f94 = some R_impl_AutomatonValid_1 := by kernel_rfl
theorem EN_impl_AutomatonValid_1 {args : List Value} {h : Heap} {k : Value → Heap → Prop} (hargs : args.length = 2) (hw : B_impl_AutomatonValid_1.wp Try.prog (retQ [(3, none)] k) (env0 args 4) h) : CallE Try.prog fn_impl_AutomatonValid_1 args h k := enter Try.func94 rfl IR_impl_AutomatonValid_1 hargs hw

def H_impl_Transition_takes : Hint := ⟨[(0, false), (1, false), (2, true), (4, false)], []⟩
def K95_1 : C := .seq (.pl <| .st (.ext 4 7) <|
    .st (.act none (.px (some 4) (.mv (.v 1)))) <|
    .st (.act none (.als 5 none 2)) <|
    .st (.act none (.pget (some 6) (some 5) 2 1 none)) <|
    .st (.act none (.px (some 7) (.bin .and (.v 4) (.v 6)))) <|
    .st (.act none (.als 8 none 2)) <|
    .st (.act none (.pget (some 9) (some 8) 2 2 none)) <|
    .st (.act none (.px (some 10) (.bin .eql (.v 7) (.v 9)))) <|
    .st (.act none (.px (some 3) (.mv (.v 10)))) .done) (.ret)
@[simp] def W95_1 := @C.wpe _ _ K95_1.eq_1
def B_impl_Transition_takes : C := .seq (.pl <| .st (.ext 4 0) <|
    .st (.act none (.pnew 2 (.v 0) [])) <|
    .st (.act none (.px (some 3) (.mv (.c (.bool false))))) .done) K95_1
@[simp] def WB_impl_Transition_takes := @C.wpe _ _ B_impl_Transition_takes.eq_1
def R_impl_Transition_takes : FIR := ⟨B_impl_Transition_takes, 4, [(3, none)]⟩
theorem IR_impl_Transition_takes : cfun Try.prog H_impl_Transition_takes Try.f95 = some R_impl_Transition_takes := by kernel_rfl
theorem EN_impl_Transition_takes {args : List Value} {h : Heap} {k : Value → Heap → Prop} (hargs : args.length = 2) (hw : B_impl_Transition_takes.wp Try.prog (retQ [(3, none)] k) (env0 args 4) h) : CallE Try.prog fn_impl_Transition_takes args h k := enter Try.func95 rfl IR_impl_Transition_takes hargs hw

def H_impl_in : Hint := ⟨[(0, false), (1, false), (2, false), (6, false)], []⟩
def K92_1 : C := .seq (.pl <| .st (.ext 4 8) <|
    .st (.act none (.px (some 4) (.mv (.v 0)))) <|
    .st (.act none (.px (some 5) (.mv (.v 1)))) <|
    .st (.act none (.px (some 6) (.bin .geq (.v 4) (.v 5)))) <|
    .st (.act none (.px (some 7) (.mv (.v 6)))) <|
    .st (.act (some (.v 7, true)) (.px (some 8) (.mv (.v 0)))) <|
    .st (.act (some (.v 7, true)) (.px (some 9) (.mv (.v 2)))) <|
    .st (.act (some (.v 7, true)) (.px (some 10) (.bin .leq (.v 8) (.v 9)))) <|
    .st (.act none (.px (some 11) (.pick (.v 7) (.v 10) (.c (.bool false))))) <|
    .st (.act none (.px (some 3) (.mv (.v 11)))) .done) (.ret)
@[simp] def W92_1 := @C.wpe _ _ K92_1.eq_1
def B_impl_in : C := .seq (.pl <| .st (.ext 4 0) <|
    .st (.act none (.px (some 3) (.mv (.c (.bool false))))) .done) K92_1
@[simp] def WB_impl_in := @C.wpe _ _ B_impl_in.eq_1
def R_impl_in : FIR := ⟨B_impl_in, 4, [(3, none)]⟩
theorem IR_impl_in : cfun Try.prog H_impl_in Try.f92 = some R_impl_in := by kernel_rfl
theorem EN_impl_in {args : List Value} {h : Heap} {k : Value → Heap → Prop} (hargs : args.length = 3) (hw : B_impl_in.wp Try.prog (retQ [(3, none)] k) (env0 args 4) h) : CallE Try.prog fn_impl_in args h k := enter Try.func92 rfl IR_impl_in hargs hw

def H_slices_ContainsFunc_S_impl_Transition_impl_Transition : Hint := ⟨[(0, false), (1, false), (4, false)], []⟩
def K93_1 : Pl := .st (.act none (.px (some 6) (.bin .geq (.v 5) (.c (.int .i64 0))))) <|
    .st (.act none (.px (some 2) (.mv (.v 6)))) .done
@[simp] def W93_1 := @Pl.wpe _ _ K93_1.eq_1
def K93_2 : C := .seq (.pl <| .st (.ext 3 4) <|
    .st (.act none (.px (some 3) (.mv (.v 0)))) <|
    .st (.act none (.px (some 4) (.mv (.v 1)))) <|
    .st (.act none (.ex (some 5) (.call fn_slices_IndexFunc_S_impl_Transition_impl_Transition [.v 3, .v 4]))) K93_1) (.ret)
@[simp] def W93_2 := @C.wpe _ _ K93_2.eq_1
def B_slices_ContainsFunc_S_impl_Transition_impl_Transition : C := .seq (.pl <| .st (.ext 3 0) <|
    .st (.act none (.px (some 2) (.mv (.c (.bool false))))) .done) K93_2
@[simp] def WB_slices_ContainsFunc_S_impl_Transition_impl_Transition := @C.wpe _ _ B_slices_ContainsFunc_S_impl_Transition_impl_Transition.eq_1
def R_slices_ContainsFunc_S_impl_Transition_impl_Transition : FIR := ⟨B_slices_ContainsFunc_S_impl_Transition_impl_Transition, 3, [(2, none)]⟩
theorem IR_slices_ContainsFunc_S_impl_Transition_impl_Transition : cfun Try.prog H_slices_ContainsFunc_S_impl_Transition_impl_Transition Try.f93 = some R_slices_ContainsFunc_S_impl_Transition_impl_Transition := by kernel_rfl
theorem EN_slices_ContainsFunc_S_impl_Transition_impl_Transition {args : List Value} {h : Heap} {k : Value → Heap → Prop} (hargs : args.length = 2) (hw : B_slices_ContainsFunc_S_impl_Transition_impl_Transition.wp Try.prog (retQ [(2, none)] k) (env0 args 3) h) : CallE Try.prog fn_slices_ContainsFunc_S_impl_Transition_impl_Transition args h k := enter Try.func93 rfl IR_slices_ContainsFunc_S_impl_Transition_impl_Transition hargs hw

def H_slices_IndexFunc_S_impl_Transition_impl_Transition : Hint := ⟨[(0, false), (1, false), (4, false), (5, false), (7, false), (8, false)], [[2, 3]]⟩
def K138_1 : C := .seq (.pl <| .st (.ext 6 0) <|
    .st (.act none (.px (some 2) (.mv (.c (.int .i64 (-1)))))) .done) (.ret)
@[simp] def W138_1 := @C.wpe _ _ K138_1.eq_1
def K138_2 : C := .pl <| .st (.ext 6 1) <|
    .st (.act none (.px (some 6) (.bin .add (.v 5) (.c (.int .i64 1))))) <|
    .st (.act none (.px (some 5) (.mv (.v 6)))) .done
@[simp] def W138_2 := @C.wpe _ _ K138_2.eq_1
def K138_3 : C := .seq (.pl <| .st (.ext 6 1) <|
    .st (.act none (.px (some 6) (.mv (.v 3)))) <|
    .st (.act none (.px (some 2) (.mv (.v 6)))) .done) (.ret)
@[simp] def W138_3 := @C.wpe _ _ K138_3.eq_1
def K138_4 : C := .cond 6 (.v 11) K138_3 (.skip)
@[simp] def W138_4 := @C.wpe _ _ K138_4.eq_1
def K138_5 : C := .seq (.pl <| .st (.ext 6 6) <|
    .st (.act none (.px (some 6) (.mv (.v 1)))) <|
    .st (.act none (.px (some 7) (.mv (.v 0)))) <|
    .st (.act none (.px (some 8) (.mv (.v 3)))) <|
    .st (.act none (.px (some 9) (.ia 4 (.v 7) (.v 8)))) <|
    .st (.act none (.ld (some 10) (.v 9) (some 4))) <|
    .st (.act none (.ex (some 11) (.callv (.v 6) [.v 10]))) .done) K138_4
@[simp] def W138_5 := @C.wpe _ _ K138_5.eq_1
def K138_6 : C := .seq (.block 1 (.seq (.pl <| .st (.ext 6 1) <|
    .st (.act none (.px (some 6) (.mv (.v 5)))) <|
    .st (.act none (.px (some 3) (.mv (.v 6)))) .done) K138_5)) K138_2
@[simp] def W138_6 := @C.wpe _ _ K138_6.eq_1
def K138_7 : C := .seq (.cond 6 (.v 6) (.skip) (.exit 0)) K138_6
@[simp] def W138_7 := @C.wpe _ _ K138_7.eq_1
def K138_8 : C := .seq (.pl <| .st (.ext 6 1) <|
    .st (.act none (.px (some 6) (.bin .lss (.v 5) (.v 4)))) .done) K138_7
@[simp] def W138_8 := @C.wpe _ _ K138_8.eq_1
def K138_9 : C := .block 0 (.loop 6 [2, 3] K138_8)
@[simp] def W138_9 := @C.wpe _ _ K138_9.eq_1
def K138_10 : C := .seq (.seq (.pl <| .st (.ext 6 1) <|
    .st (.act none (.px (some 6) (.mv (.v 0)))) <|
    .st (.act none (.px (some 4) (.lenV (.v 6)))) <|
    .st (.act none (.px (some 5) (.mv (.c (.int .i64 0))))) .done) K138_9) K138_1
@[simp] def W138_10 := @C.wpe _ _ K138_10.eq_1
def B_slices_IndexFunc_S_impl_Transition_impl_Transition : C := .seq (.pl <| .st (.ext 6 0) <|
    .st (.act none (.px (some 2) (.mv (.c (.int .i64 0))))) .done) K138_10
@[simp] def WB_slices_IndexFunc_S_impl_Transition_impl_Transition := @C.wpe _ _ B_slices_IndexFunc_S_impl_Transition_impl_Transition.eq_1
def R_slices_IndexFunc_S_impl_Transition_impl_Transition : FIR := ⟨B_slices_IndexFunc_S_impl_Transition_impl_Transition, 6, [(2, none)]⟩
theorem IR_slices_IndexFunc_S_impl_Transition_impl_Transition : cfun Try.prog H_slices_IndexFunc_S_impl_Transition_impl_Transition Try.f138 = some R_slices_IndexFunc_S_impl_Transition_impl_Transition := by kernel_rfl
theorem EN_slices_IndexFunc_S_impl_Transition_impl_Transition {args : List Value} {h : Heap} {k : Value → Heap → Prop} (hargs : args.length = 2) (hw : B_slices_IndexFunc_S_impl_Transition_impl_Transition.wp Try.prog (retQ [(2, none)] k) (env0 args 6) h) : CallE Try.prog fn_slices_IndexFunc_S_impl_Transition_impl_Transition args h k := enter Try.func138 rfl IR_slices_IndexFunc_S_impl_Transition_impl_Transition hargs hw

def H_spec_AutomatonValid : Hint := ⟨[(0, false), (1, true), (2, false), (3, false), (4, false), (5, false)], [[0, 2, 5], [0, 2, 4]]⟩
def K48_1 : C := .seq (.pl <| .st (.ext 6 0) <|
    .st (.act none (.px (some 2) (.mv (.c (.bool true))))) .done) (.ret)
@[simp] def W48_1 := @C.wpe _ _ K48_1.eq_1
def K48_2 : C := .pl <| .st (.ext 6 2) <|
    .st (.act none (.px (some 6) (.mv (.v 5)))) <|
    .st (.act none (.px (some 7) (.bin .add (.v 6) (.c (.int .i64 1))))) <|
    .st (.act none (.px (some 5) (.mv (.v 7)))) .done
@[simp] def W48_2 := @C.wpe _ _ K48_2.eq_1
def K48_3 : C := .seq (.pl <| .st (.ext 6 0) <|
    .st (.act none (.px (some 2) (.mv (.c (.bool false))))) .done) (.ret)
@[simp] def W48_3 := @C.wpe _ _ K48_3.eq_1
def K48_4 : C := .cond 6 (.v 13) K48_3 (.skip)
@[simp] def W48_4 := @C.wpe _ _ K48_4.eq_1
def K48_5 : Pl := .st (.act none (.px (some 13) (.un .not (.v 12)))) .done
@[simp] def W48_5 := @Pl.wpe _ _ K48_5.eq_1
def K48_6 : C := .seq (.block 3 (.seq (.pl <| .st (.ext 6 8) <|
    .st (.act none (.als 6 none 1)) <|
    .st (.act none (.pget (some 7) (some 6) 1 2 none)) <|
    .st (.act none (.px (some 8) (.mv (.v 5)))) <|
    .st (.act none (.px (some 9) (.ia 4 (.v 7) (.v 8)))) <|
    .st (.act none (.ld (some 10) (.v 9) (some 4))) <|
    .st (.act none (.px (some 11) (.mv (.v 3)))) <|
    .st (.act none (.ex (some 12) (.call fn_spec_l7Edge [.v 10, .v 11]))) K48_5) K48_4)) K48_2
@[simp] def W48_6 := @C.wpe _ _ K48_6.eq_1
def K48_7 : C := .cond 6 (.v 10) (.skip) (.exit 2)
@[simp] def W48_7 := @C.wpe _ _ K48_7.eq_1
def K48_8 : C := .seq (.seq (.pl <| .st (.ext 6 5) <|
    .st (.act none (.px (some 6) (.mv (.v 5)))) <|
    .st (.act none (.als 7 none 1)) <|
    .st (.act none (.pget (some 8) (some 7) 1 2 none)) <|
    .st (.act none (.px (some 9) (.lenV (.v 8)))) <|
    .st (.act none (.px (some 10) (.bin .lss (.v 6) (.v 9)))) .done) K48_7) K48_6
@[simp] def W48_8 := @C.wpe _ _ K48_8.eq_1
def K48_9 : C := .block 2 (.loop 6 [0, 2, 4] K48_8)
@[simp] def W48_9 := @C.wpe _ _ K48_9.eq_1
def K48_10 : C := .seq (.seq (.pl <| .st (.ext 6 0) <|
    .st (.act none (.px (some 5) (.mv (.c (.int .i64 0))))) .done) K48_9) K48_1
@[simp] def W48_10 := @C.wpe _ _ K48_10.eq_1
def K48_11 : C := .pl <| .st (.ext 6 2) <|
    .st (.act none (.px (some 6) (.mv (.v 4)))) <|
    .st (.act none (.px (some 7) (.bin .add (.v 6) (.c (.int .i64 1))))) <|
    .st (.act none (.px (some 4) (.mv (.v 7)))) .done
@[simp] def W48_11 := @C.wpe _ _ K48_11.eq_1
def K48_12 : C := .seq (.pl <| .st (.ext 6 0) <|
    .st (.act none (.px (some 2) (.mv (.c (.bool false))))) .done) (.ret)
@[simp] def W48_12 := @C.wpe _ _ K48_12.eq_1
def K48_13 : C := .cond 6 (.v 38) K48_12 (.skip)
@[simp] def W48_13 := @C.wpe _ _ K48_13.eq_1
def K48_14 : C := .seq (.block 1 (.seq (.pl <| .st (.ext 6 33) <|
    .st (.act none (.als 6 none 1)) <|
    .st (.act none (.pget (some 7) (some 6) 1 0 none)) <|
    .st (.act none (.px (some 8) (.mv (.v 4)))) <|
    .st (.act none (.px (some 9) (.ia 1 (.v 7) (.v 8)))) <|
    .st (.act none (.ld (some 10) (.v 9) none)) <|
    .st (.act none (.px (some 11) (.bin .lss (.v 10) (.c (.int .i64 0))))) <|
    .st (.act none (.px (some 12) (.mv (.v 11)))) <|
    .st (.act (some (.v 12, false)) (.als 13 none 1)) <|
    .st (.act (some (.v 12, false)) (.pget (some 14) (some 13) 1 0 none)) <|
    .st (.act (some (.v 12, false)) (.px (some 15) (.mv (.v 4)))) <|
    .st (.act (some (.v 12, false)) (.px (some 16) (.ia 1 (.v 14) (.v 15)))) <|
    .st (.act (some (.v 12, false)) (.ld (some 17) (.v 16) none)) <|
    .st (.act (some (.v 12, false)) (.px (some 18) (.mv (.v 3)))) <|
    .st (.act (some (.v 12, false)) (.px (some 19) (.bin .geq (.v 17) (.v 18)))) <|
    .st (.act none (.px (some 20) (.pick (.v 12) (.c (.bool true)) (.v 19)))) <|
    .st (.act none (.px (some 21) (.mv (.v 20)))) <|
    .st (.act (some (.v 21, false)) (.px (some 22) (.mv (.v 4)))) <|
    .st (.act (some (.v 21, false)) (.px (some 23) (.bin .gtr (.v 22) (.c (.int .i64 0))))) <|
    .st (.act (some (.v 21, false)) (.px (some 24) (.mv (.v 23)))) <|
    .st (.act (some (.v 24, true)) (.als 25 none 1)) <|
    .st (.act (some (.v 24, true)) (.pget (some 26) (some 25) 1 0 none)) <|
    .st (.act (some (.v 24, true)) (.px (some 27) (.mv (.v 4)))) <|
    .st (.act (some (.v 24, true)) (.px (some 28) (.bin .sub (.v 27) (.c (.int .i64 1))))) <|
    .st (.act (some (.v 24, true)) (.px (some 29) (.ia 1 (.v 26) (.v 28)))) <|
    .st (.act (some (.v 24, true)) (.ld (some 30) (.v 29) none)) <|
    .st (.act (some (.v 24, true)) (.als 31 none 1)) <|
    .st (.act (some (.v 24, true)) (.pget (some 32) (some 31) 1 0 none)) <|
    .st (.act (some (.v 24, true)) (.px (some 33) (.mv (.v 4)))) <|
    .st (.act (some (.v 24, true)) (.px (some 34) (.ia 1 (.v 32) (.v 33)))) <|
    .st (.act (some (.v 24, true)) (.ld (some 35) (.v 34) none)) <|
    .st (.act (some (.v 24, true)) (.px (some 36) (.bin .geq (.v 30) (.v 35)))) <|
    .st (.act (some (.v 21, false)) (.px (some 37) (.pick (.v 24) (.v 36) (.c (.bool false))))) <|
    .st (.act none (.px (some 38) (.pick (.v 21) (.c (.bool true)) (.v 37)))) .done) K48_13)) K48_11
@[simp] def W48_14 := @C.wpe _ _ K48_14.eq_1
def K48_15 : C := .cond 6 (.v 10) (.skip) (.exit 0)
@[simp] def W48_15 := @C.wpe _ _ K48_15.eq_1
def K48_16 : C := .seq (.seq (.pl <| .st (.ext 6 5) <|
    .st (.act none (.px (some 6) (.mv (.v 4)))) <|
    .st (.act none (.als 7 none 1)) <|
    .st (.act none (.pget (some 8) (some 7) 1 0 none)) <|
    .st (.act none (.px (some 9) (.lenV (.v 8)))) <|
    .st (.act none (.px (some 10) (.bin .lss (.v 6) (.v 9)))) .done) K48_15) K48_14
@[simp] def W48_16 := @C.wpe _ _ K48_16.eq_1
def K48_17 : C := .block 0 (.loop 6 [0, 2, 5] K48_16)
@[simp] def W48_17 := @C.wpe _ _ K48_17.eq_1
def K48_18 : C := .seq (.seq (.pl <| .st (.ext 6 0) <|
    .st (.act none (.px (some 4) (.mv (.c (.int .i64 0))))) .done) K48_17) K48_10
@[simp] def W48_18 := @C.wpe _ _ K48_18.eq_1
def K48_19 : C := .seq (.pl <| .st (.ext 6 0) <|
    .st (.act none (.px (some 2) (.mv (.c (.bool false))))) .done) (.ret)
@[simp] def W48_19 := @C.wpe _ _ K48_19.eq_1
def K48_20 : C := .cond 6 (.v 24) K48_19 (.skip)
@[simp] def W48_20 := @C.wpe _ _ K48_20.eq_1
def K48_21 : C := .seq (.seq (.pl <| .st (.ext 6 19) <|
    .st (.act none (.px (some 6) (.mv (.v 3)))) <|
    .st (.act none (.px (some 7) (.bin .lss (.v 6) (.c (.int .i64 1))))) <|
    .st (.act none (.px (some 8) (.mv (.v 7)))) <|
    .st (.act (some (.v 8, false)) (.px (some 9) (.mv (.v 3)))) <|
    .st (.act (some (.v 8, false)) (.px (some 10) (.bin .gtr (.v 9) (.c (.int .i64 64))))) <|
    .st (.act none (.px (some 11) (.pick (.v 8) (.c (.bool true)) (.v 10)))) <|
    .st (.act none (.px (some 12) (.mv (.v 11)))) <|
    .st (.act (some (.v 12, false)) (.als 13 none 1)) <|
    .st (.act (some (.v 12, false)) (.pget (some 14) (some 13) 1 0 none)) <|
    .st (.act (some (.v 12, false)) (.px (some 15) (.lenV (.v 14)))) <|
    .st (.act (some (.v 12, false)) (.px (some 16) (.mv (.v 3)))) <|
    .st (.act (some (.v 12, false)) (.px (some 17) (.bin .gtr (.v 15) (.v 16)))) <|
    .st (.act none (.px (some 18) (.pick (.v 12) (.c (.bool true)) (.v 17)))) <|
    .st (.act none (.px (some 19) (.mv (.v 18)))) <|
    .st (.act (some (.v 19, false)) (.als 20 none 1)) <|
    .st (.act (some (.v 19, false)) (.pget (some 21) (some 20) 1 2 none)) <|
    .st (.act (some (.v 19, false)) (.px (some 22) (.lenV (.v 21)))) <|
    .st (.act (some (.v 19, false)) (.px (some 23) (.bin .gtr (.v 22) (.c (.int .i64 2048))))) <|
    .st (.act none (.px (some 24) (.pick (.v 19) (.c (.bool true)) (.v 23)))) .done) K48_20) K48_18
@[simp] def W48_21 := @C.wpe _ _ K48_21.eq_1
def K48_22 : C := .seq (.pl <| .st (.ext 6 3) <|
    .st (.act none (.als 6 none 1)) <|
    .st (.act none (.pget (some 7) (some 6) 1 1 none)) <|
    .st (.act none (.px (some 8) (.lenV (.v 7)))) <|
    .st (.act none (.px (some 3) (.mv (.v 8)))) .done) K48_21
@[simp] def W48_22 := @C.wpe _ _ K48_22.eq_1
def B_spec_AutomatonValid : C := .seq (.pl <| .st (.ext 6 0) <|
    .st (.act none (.pnew 1 (.v 0) [])) <|
    .st (.act none (.px (some 2) (.mv (.c (.bool false))))) .done) K48_22
@[simp] def WB_spec_AutomatonValid := @C.wpe _ _ B_spec_AutomatonValid.eq_1
def R_spec_AutomatonValid : FIR := ⟨B_spec_AutomatonValid, 6, [(2, none)]⟩
theorem IR_spec_AutomatonValid : cfun Try.prog H_spec_AutomatonValid Try.f48 = some R_spec_AutomatonValid := by kernel_rfl
theorem EN_spec_AutomatonValid {args : List Value} {h : Heap} {k : Value → Heap → Prop} (hargs : args.length = 1) (hw : B_spec_AutomatonValid.wp Try.prog (retQ [(2, none)] k) (env0 args 6) h) : CallE Try.prog fn_spec_AutomatonValid args h k := enter Try.func48 rfl IR_spec_AutomatonValid hargs hw

def H_spec_l7Edge : Hint := ⟨[(0, false), (1, false), (2, true), (4, false)], []⟩
def K97_1 : C := .seq (.pl <| .st (.ext 4 45) <|
    .st (.act none (.als 4 none 2)) <|
    .st (.act none (.pget (some 5) (some 4) 2 0 none)) <|
    .st (.act none (.px (some 6) (.bin .geq (.v 5) (.c (.int .i64 0))))) <|
    .st (.act none (.px (some 7) (.mv (.v 6)))) <|
    .st (.act (some (.v 7, true)) (.als 8 none 2)) <|
    .st (.act (some (.v 7, true)) (.pget (some 9) (some 8) 2 0 none)) <|
    .st (.act (some (.v 7, true)) (.px (some 10) (.mv (.v 1)))) <|
    .st (.act (some (.v 7, true)) (.px (some 11) (.bin .lss (.v 9) (.v 10)))) <|
    .st (.act none (.px (some 12) (.pick (.v 7) (.v 11) (.c (.bool false))))) <|
    .st (.act none (.px (some 13) (.mv (.v 12)))) <|
    .st (.act (some (.v 13, true)) (.als 14 none 2)) <|
    .st (.act (some (.v 13, true)) (.pget (some 15) (some 14) 2 3 none)) <|
    .st (.act (some (.v 13, true)) (.px (some 16) (.bin .geq (.v 15) (.c (.int .i64 0))))) <|
    .st (.act none (.px (some 17) (.pick (.v 13) (.v 16) (.c (.bool false))))) <|
    .st (.act none (.px (some 18) (.mv (.v 17)))) <|
    .st (.act (some (.v 18, true)) (.als 19 none 2)) <|
    .st (.act (some (.v 18, true)) (.pget (some 20) (some 19) 2 3 none)) <|
    .st (.act (some (.v 18, true)) (.px (some 21) (.mv (.v 1)))) <|
    .st (.act (some (.v 18, true)) (.px (some 22) (.bin .lss (.v 20) (.v 21)))) <|
    .st (.act none (.px (some 23) (.pick (.v 18) (.v 22) (.c (.bool false))))) <|
    .st (.act none (.px (some 24) (.mv (.v 23)))) <|
    .st (.act (some (.v 24, true)) (.als 25 none 2)) <|
    .st (.act (some (.v 24, true)) (.pget (some 26) (some 25) 2 1 none)) <|
    .st (.act (some (.v 24, true)) (.px (some 27) (.bin .geq (.v 26) (.c (.int .i64 0))))) <|
    .st (.act none (.px (some 28) (.pick (.v 24) (.v 27) (.c (.bool false))))) <|
    .st (.act none (.px (some 29) (.mv (.v 28)))) <|
    .st (.act (some (.v 29, true)) (.als 30 none 2)) <|
    .st (.act (some (.v 29, true)) (.pget (some 31) (some 30) 2 1 none)) <|
    .st (.act (some (.v 29, true)) (.px (some 32) (.bin .leq (.v 31) (.c (.int .i64 7))))) <|
    .st (.act none (.px (some 33) (.pick (.v 29) (.v 32) (.c (.bool false))))) <|
    .st (.act none (.px (some 34) (.mv (.v 33)))) <|
    .st (.act (some (.v 34, true)) (.als 35 none 2)) <|
    .st (.act (some (.v 34, true)) (.pget (some 36) (some 35) 2 2 none)) <|
    .st (.act (some (.v 34, true)) (.px (some 37) (.bin .geq (.v 36) (.c (.int .i64 0))))) <|
    .st (.act none (.px (some 38) (.pick (.v 34) (.v 37) (.c (.bool false))))) <|
    .st (.act none (.px (some 39) (.mv (.v 38)))) <|
    .st (.act (some (.v 39, true)) (.als 40 none 2)) <|
    .st (.act (some (.v 39, true)) (.pget (some 41) (some 40) 2 2 none)) <|
    .st (.act (some (.v 39, true)) (.als 42 none 2)) <|
    .st (.act (some (.v 39, true)) (.pget (some 43) (some 42) 2 1 none)) <|
    .st (.act (some (.v 39, true)) (.px (some 44) (.bin .and (.v 41) (.v 43)))) <|
    .st (.act (some (.v 39, true)) (.als 45 none 2)) <|
    .st (.act (some (.v 39, true)) (.pget (some 46) (some 45) 2 2 none)) <|
    .st (.act (some (.v 39, true)) (.px (some 47) (.bin .eql (.v 44) (.v 46)))) <|
    .st (.act none (.px (some 48) (.pick (.v 39) (.v 47) (.c (.bool false))))) <|
    .st (.act none (.px (some 3) (.mv (.v 48)))) .done) (.ret)
@[simp] def W97_1 := @C.wpe _ _ K97_1.eq_1
def B_spec_l7Edge : C := .seq (.pl <| .st (.ext 4 0) <|
    .st (.act none (.pnew 2 (.v 0) [])) <|
    .st (.act none (.px (some 3) (.mv (.c (.bool false))))) .done) K97_1
@[simp] def WB_spec_l7Edge := @C.wpe _ _ B_spec_l7Edge.eq_1
def R_spec_l7Edge : FIR := ⟨B_spec_l7Edge, 4, [(3, none)]⟩
theorem IR_spec_l7Edge : cfun Try.prog H_spec_l7Edge Try.f97 = some R_spec_l7Edge := by kernel_rfl
theorem EN_spec_l7Edge {args : List Value} {h : Heap} {k : Value → Heap → Prop} (hargs : args.length = 2) (hw : B_spec_l7Edge.wp Try.prog (retQ [(3, none)] k) (env0 args 4) h) : CallE Try.prog fn_spec_l7Edge args h k := enter Try.func97 rfl IR_spec_l7Edge hargs hw


end Go.Proofs.Ytglnelcmcimljaa

/-
  Bodies of functions in the small language, as a program printed them, and that each is what the translation gives.
-/
namespace Go.Proofs.Ytglnelcmcimljaa
open Go
set_option linter.all false
set_option linter.defProp false
set_option maxRecDepth 1000000

end Go.Proofs.Ytglnelcmcimljaa

/-
  Bodies of functions in the small language, as a program printed them, and that each is what the translation gives.
-/
namespace Go.Proofs.Ytglnelcmcimljaa
open Go
set_option linter.all false
set_option linter.defProp false
set_option maxRecDepth 1000000

end Go.Proofs.Ytglnelcmcimljaa

/-
  Bodies of functions in the small language, as a program printed them, and that each is what the translation gives.
-/
namespace Go.Proofs.Ytglnelcmcimljaa
open Go
set_option linter.all false
set_option linter.defProp false
set_option maxRecDepth 1000000

end Go.Proofs.Ytglnelcmcimljaa

/-
  Bodies of functions in the small language, as a program printed them, and that each is what the translation gives.
-/
namespace Go.Proofs.Ytglnelcmcimljaa
open Go
set_option linter.all false
set_option linter.defProp false
set_option maxRecDepth 1000000

end Go.Proofs.Ytglnelcmcimljaa

/-
  What the helpers of the laws do: copying, counting, comparing, marking. Printed by a program.
-/
namespace Go.Proofs.Ytglnelcmcimljaa
open Go
set_option linter.all false
set_option linter.unusedVariables false
set_option linter.unusedSimpArgs false
set_option linter.defProp false
set_option maxRecDepth 1000000

end Go.Proofs.Ytglnelcmcimljaa

/-
  Instances of functions over slices: copies, and whether some element meets a condition. Printed by a program.
-/
namespace Go.Proofs.Ytglnelcmcimljaa
open Go
set_option linter.all false
set_option linter.unusedVariables false
set_option linter.unusedSimpArgs false
set_option linter.defProp false
set_option maxRecDepth 1000000

theorem c_IndexFunc_impl_Transition {h : Heap} {a fv : Value} {x : List Tr} (Ra : Rep h a x) {f : FuncId} {c1 c2 : List Value} (hf : fnOf fv = some (f, c1, c2)) (p : Tr → Bool)
    (hp : ∀ h1, h.le h1 → ∀ (i : Nat) (hi : i < x.length) (u : Value), Rep h1 u x[i] → CallE Try.prog f (c1 ++ u :: c2) h1 (fun v h' => h1.le h' ∧ v = .bool (p x[i]))) :
    CallE Try.prog fn_slices_IndexFunc_S_impl_Transition_impl_Transition [a, fv] h (fun v h' => h.le h' ∧ v = .int .i64 (match x.findIdx? p with | some i => (i : Int) | none => -1)) := by
  refine CallE.gen fun k hk => EN_slices_IndexFunc_S_impl_Transition_impl_Transition rfl ?_
  have hL := Ra.lt
  simp -implicitDefEqProofs (disch := first | omega | (simp only [List.length_set, List.length_replicate, List.length_append, List.length_map, List.length_take, List.length_cons, List.length_nil]; omega)) [wrap64, Ra.len]
  refine wp_count x.length (fun i e h' => e = [some a, some fv, none, none, some (.int .i64 x.length), some (.int .i64 i)] ∧ h.le h' ∧ ∀ (j : Nat) (hj : j < x.length), j < i → p x[j] = false) ⟨rfl, Heap.le.refl h, fun j _ hj => absurd hj (Nat.not_lt_zero j)⟩ ?_
  rintro J i _ h1 hJ hi ⟨rfl, hl, hn⟩
  simp -implicitDefEqProofs (disch := first | omega | (simp only [List.length_set, List.length_replicate, List.length_append, List.length_map, List.length_take, List.length_cons, List.length_nil]; omega)) [wrap64]
  refine IteW.mk (fun hlt => ?_) (fun hge => ?_)
  · have hlx : i < x.length := by omega
    obtain ⟨u, hu, Ru⟩ := (Ra.le hl).ld hlx
    change hload _ (some (elp 4 a i)) (some 4) = some u at hu
    simp -implicitDefEqProofs (disch := first | omega | (simp only [List.length_set, List.length_replicate, List.length_append, List.length_map, List.length_take, List.length_cons, List.length_nil]; omega)) [wrap64, (Ra.le hl).X (n := 4) rfl, hu, hf]
    refine (hp h1 hl i hlx u Ru).go ?_
    rintro _ h2 ⟨hl2, rfl⟩
    simp -implicitDefEqProofs (disch := first | omega | (simp only [List.length_set, List.length_replicate, List.length_append, List.length_map, List.length_take, List.length_cons, List.length_nil]; omega)) [wrap64]
    refine IteW.mk (fun hq => ?_) (fun hq => ?_)
    · simp -implicitDefEqProofs (disch := first | omega | (simp only [List.length_set, List.length_replicate, List.length_append, List.length_map, List.length_take, List.length_cons, List.length_nil]; omega)) [wrap64]
      refine RetK.keep (hk _ _ ⟨hl.trans hl2, ?_⟩)
      have h3 : x.findIdx? p = some i := by
        rw [List.findIdx?_eq_some_iff_getElem]
        exact ⟨hlx, hq, fun j hj => by rw [hn j (by omega) hj]; simp⟩
      rw [h3]
    · simp -implicitDefEqProofs (disch := first | omega | (simp only [List.length_set, List.length_replicate, List.length_append, List.length_map, List.length_take, List.length_cons, List.length_nil]; omega)) [wrap64]
      refine hJ _ _ hlx ⟨rfl, hl.trans hl2, fun j hj hji => ?_⟩
      by_cases hji2 : j = i
      · subst hji2; simpa using hq
      · exact hn j hj (by omega)
  · simp -implicitDefEqProofs (disch := first | omega | (simp only [List.length_set, List.length_replicate, List.length_append, List.length_map, List.length_take, List.length_cons, List.length_nil]; omega)) [wrap64]
    refine RetK.keep (hk _ _ ⟨hl, ?_⟩)
    have h3 : x.findIdx? p = none := by
      rw [List.findIdx?_eq_none_iff]
      intro y hy
      obtain ⟨j, hj, rfl⟩ := List.mem_iff_getElem.1 hy
      exact hn j hj (by omega)
    rw [h3]

theorem c_ContainsFunc_impl_Transition {h : Heap} {a fv : Value} {x : List Tr} (Ra : Rep h a x) {f : FuncId} {c1 c2 : List Value} (hf : fnOf fv = some (f, c1, c2)) (p : Tr → Bool)
    (hp : ∀ h1, h.le h1 → ∀ (i : Nat) (hi : i < x.length) (u : Value), Rep h1 u x[i] → CallE Try.prog f (c1 ++ u :: c2) h1 (fun v h' => h1.le h' ∧ v = .bool (p x[i]))) :
    CallE Try.prog fn_slices_ContainsFunc_S_impl_Transition_impl_Transition [a, fv] h (fun v h' => h.le h' ∧ v = .bool (x.any p)) := by
  refine CallE.gen fun k hk => EN_slices_ContainsFunc_S_impl_Transition_impl_Transition rfl ?_
  simp -implicitDefEqProofs (disch := first | omega | (simp only [List.length_set, List.length_replicate, List.length_append, List.length_map, List.length_take, List.length_cons, List.length_nil]; omega)) [wrap64]
  refine (c_IndexFunc_impl_Transition Ra hf p hp).go ?_
  rintro _ h1 ⟨hl, rfl⟩
  simp -implicitDefEqProofs (disch := first | omega | (simp only [List.length_set, List.length_replicate, List.length_append, List.length_map, List.length_take, List.length_cons, List.length_nil]; omega)) [wrap64]
  refine RetK.keep (hk _ _ ⟨hl, ?_⟩)
  congr 1
  rw [← List.findIdx?_isSome]
  cases x.findIdx? p <;> simp

end Go.Proofs.Ytglnelcmcimljaa

/-
  Automata: copies, validity, unions, by the program and by the reference.
-/
namespace Go.Proofs.Ytglnelcmcimljaa
open Go
set_option linter.all false
set_option linter.unusedVariables false
set_option linter.unusedSimpArgs false
set_option linter.defProp false
set_option maxRecDepth 1000000

theorem empty_ow {g h : Heap} {Γ : List HP} (H : HS g Γ h) : HS g (ow (.agg #[.slice none 0 0, .slice none 0 0, .slice none 0 0]) Aut.empty :: Γ) h :=
  HS.mkAut (a := Aut.empty) H.nil_ow.nil_ow.nil_ow

theorem c_in {h : Heap} {n lo hi : Int} : CallE Try.prog fn_impl_in [.int .i64 n, .int .i64 lo, .int .i64 hi] h (fun u h' => h' = h ∧ u = .bool (decide (lo ≤ n ∧ n ≤ hi))) := by
  refine CallE.gen fun k hk => EN_impl_in rfl ?_
  by_cases h1 : lo ≤ n
  · simp -implicitDefEqProofs (disch := first | omega | (simp only [List.length_set, List.length_replicate, List.length_append, List.length_map, List.length_take, List.length_cons, List.length_nil]; omega)) [wrap64, h1]
    exact RetK.keep (hk _ _ ⟨rfl, by simp [h1]⟩)
  · simp -implicitDefEqProofs (disch := first | omega | (simp only [List.length_set, List.length_replicate, List.length_append, List.length_map, List.length_take, List.length_cons, List.length_nil]; omega)) [wrap64, h1]
    exact RetK.keep (hk _ _ ⟨rfl, by simp [h1]⟩)

theorem c_l7Edge {h : Heap} {v : Value} {t : Tr} (Rt : Rep h v t) {n : Int} : CallE Try.prog fn_spec_l7Edge [v, .int .i64 n] h (fun u h' => h' = h ∧ u = .bool (decide (t.Ok n))) := by
  rw [(Rep_Tr.1 Rt).1]
  refine CallE.gen fun k hk => EN_spec_l7Edge rfl ?_
  unfold Tr.Ok at hk
  by_cases h1 : 0 ≤ t.frm
  case neg => simp -implicitDefEqProofs (disch := first | omega | (simp only [List.length_set, List.length_replicate, List.length_append, List.length_map, List.length_take, List.length_cons, List.length_nil]; omega)) [wrap64, Tr.v, h1]; exact RetK.keep (hk _ _ ⟨rfl, by simp [h1]⟩)
  by_cases h2 : t.frm < n
  case neg => simp -implicitDefEqProofs (disch := first | omega | (simp only [List.length_set, List.length_replicate, List.length_append, List.length_map, List.length_take, List.length_cons, List.length_nil]; omega)) [wrap64, Tr.v, h1, h2]; exact RetK.keep (hk _ _ ⟨rfl, by simp [h2]⟩)
  by_cases h3 : 0 ≤ t.to
  case neg => simp -implicitDefEqProofs (disch := first | omega | (simp only [List.length_set, List.length_replicate, List.length_append, List.length_map, List.length_take, List.length_cons, List.length_nil]; omega)) [wrap64, Tr.v, h1, h2, h3]; exact RetK.keep (hk _ _ ⟨rfl, by simp [h3]⟩)
  by_cases h4 : t.to < n
  case neg => simp -implicitDefEqProofs (disch := first | omega | (simp only [List.length_set, List.length_replicate, List.length_append, List.length_map, List.length_take, List.length_cons, List.length_nil]; omega)) [wrap64, Tr.v, h1, h2, h3, h4]; exact RetK.keep (hk _ _ ⟨rfl, by simp [h4]⟩)
  by_cases h5 : 0 ≤ t.care
  case neg => simp -implicitDefEqProofs (disch := first | omega | (simp only [List.length_set, List.length_replicate, List.length_append, List.length_map, List.length_take, List.length_cons, List.length_nil]; omega)) [wrap64, Tr.v, h1, h2, h3, h4, h5]; exact RetK.keep (hk _ _ ⟨rfl, by simp [h5]⟩)
  by_cases h6 : t.care ≤ 7
  case neg => simp -implicitDefEqProofs (disch := first | omega | (simp only [List.length_set, List.length_replicate, List.length_append, List.length_map, List.length_take, List.length_cons, List.length_nil]; omega)) [wrap64, Tr.v, h1, h2, h3, h4, h5, h6]; exact RetK.keep (hk _ _ ⟨rfl, by simp [h6]⟩)
  by_cases h7 : 0 ≤ t.value
  case neg => simp -implicitDefEqProofs (disch := first | omega | (simp only [List.length_set, List.length_replicate, List.length_append, List.length_map, List.length_take, List.length_cons, List.length_nil]; omega)) [wrap64, Tr.v, h1, h2, h3, h4, h5, h6, h7]; exact RetK.keep (hk _ _ ⟨rfl, by simp [h7]⟩)
  simp -implicitDefEqProofs (disch := first | omega | (simp only [List.length_set, List.length_replicate, List.length_append, List.length_map, List.length_take, List.length_cons, List.length_nil]; omega)) [wrap64, Tr.v, h1, h2, h3, h4, h5, h6, h7]
  exact RetK.keep (hk _ _ ⟨rfl, by simp [h1, h2, h3, h4, h5, h6, h7]⟩)

end Go.Proofs.Ytglnelcmcimljaa

/-
  Which automata are valid, by the program and by the reference.
-/
namespace Go.Proofs.Ytglnelcmcimljaa
open Go
set_option linter.all false
set_option linter.unusedVariables false
set_option linter.unusedSimpArgs false
set_option linter.defProp false
set_option maxRecDepth 1000000

/-- the two ways to say that a number's bits are among another's -/
theorem i64_toInt (x : BitVec 64) : IntKind.i64.wrap (x.toNat : Int) = x.toInt := by
  rw [IntKind.wrap_i64, BitVec.toInt_eq_toNat_bmod, Int.bmod_def]
  have := x.isLt
  split <;> omega
theorem ofInt_toInt {v : Int} (h1 : -9223372036854775808 ≤ v) (h2 : v < 9223372036854775808) : (BitVec.ofInt 64 v).toInt = v := by
  rw [BitVec.toInt_ofInt, Int.bmod_def]; split <;> omega
theorem bits_in {v c : Int} (h1 : -9223372036854775808 ≤ v) (h2 : v < 9223372036854775808) : andNotI .i64 v c = 0 ↔ andI .i64 v c = v := by
  show IntKind.i64.wrap ((BitVec.ofInt 64 v &&& ~~~ BitVec.ofInt 64 c).toNat : Int) = 0 ↔ IntKind.i64.wrap ((BitVec.ofInt 64 v &&& BitVec.ofInt 64 c).toNat : Int) = v
  have hv := ofInt_toInt h1 h2
  rw [i64_toInt, i64_toInt]
  generalize BitVec.ofInt 64 v = x at *
  generalize BitVec.ofInt 64 c = y at *
  subst hv
  rw [BitVec.toInt_inj, show (0 : Int) = (0#64).toInt from rfl, BitVec.toInt_inj]
  constructor
  · intro h
    apply BitVec.eq_of_getLsbD_eq
    intro i hi
    have h3 := congrArg (fun z => z.getLsbD i) h
    simp only [BitVec.getLsbD_and, BitVec.getLsbD_not, hi, decide_true, Bool.true_and, BitVec.getLsbD_zero] at h3
    rw [BitVec.getLsbD_and]
    cases h4 : x.getLsbD i <;> cases h5 : y.getLsbD i <;> simp_all
  · intro h
    apply BitVec.eq_of_getLsbD_eq
    intro i hi
    have h3 := congrArg (fun z => z.getLsbD i) h
    simp only [BitVec.getLsbD_and] at h3
    rw [BitVec.getLsbD_and, BitVec.getLsbD_not, BitVec.getLsbD_zero]
    cases h4 : x.getLsbD i <;> cases h5 : y.getLsbD i <;> simp_all

theorem c_AutomatonValid_1 {h : Heap} {v : Value} {t : Tr} (Rt : Rep h v t) {b : Nat} {n : Int} (hn : 1 ≤ n ∧ n < 4611686018427387904) (hb : hload h (some (.pointer (some ⟨b, 0, none⟩))) none = some (.int .i64 n)) :
    CallE Try.prog fn_impl_AutomatonValid_1 [v, .pointer (some ⟨b, 0, none⟩)] h (fun u h' => h' = h ∧ u = .bool (!decide (t.Ok n))) := by
  have ht := (Rep_Tr.1 Rt).2
  rw [(Rep_Tr.1 Rt).1]
  have e0 := ht.value
  refine CallE.gen fun k hk => EN_impl_AutomatonValid_1 rfl ?_
  simp -implicitDefEqProofs (disch := first | omega | (simp only [List.length_set, List.length_replicate, List.length_append, List.length_map, List.length_take, List.length_cons, List.length_nil]; omega)) [wrap64, Tr.v, hb]
  refine c_in.go ?_
  rintro _ _ ⟨rfl, rfl⟩
  by_cases h1 : 0 ≤ t.frm ∧ t.frm ≤ n - 1
  case neg =>
    simp -implicitDefEqProofs (disch := first | omega | (simp only [List.length_set, List.length_replicate, List.length_append, List.length_map, List.length_take, List.length_cons, List.length_nil]; omega)) [wrap64, h1]
    have hno : ¬ t.Ok n := fun ho => h1 (by unfold Tr.Ok at ho; omega)
    exact RetK.keep (hk _ _ ⟨rfl, by simp [hno]⟩)
  simp -implicitDefEqProofs (disch := first | omega | (simp only [List.length_set, List.length_replicate, List.length_append, List.length_map, List.length_take, List.length_cons, List.length_nil]; omega)) [wrap64, h1, hb]
  refine c_in.go ?_
  rintro _ _ ⟨rfl, rfl⟩
  by_cases h2 : 0 ≤ t.to ∧ t.to ≤ n - 1
  case neg =>
    simp -implicitDefEqProofs (disch := first | omega | (simp only [List.length_set, List.length_replicate, List.length_append, List.length_map, List.length_take, List.length_cons, List.length_nil]; omega)) [wrap64, h2]
    have hno : ¬ t.Ok n := fun ho => h2 (by unfold Tr.Ok at ho; omega)
    exact RetK.keep (hk _ _ ⟨rfl, by simp [hno]⟩)
  simp -implicitDefEqProofs (disch := first | omega | (simp only [List.length_set, List.length_replicate, List.length_append, List.length_map, List.length_take, List.length_cons, List.length_nil]; omega)) [wrap64, h2]
  refine c_in.go ?_
  rintro _ _ ⟨rfl, rfl⟩
  by_cases h3 : 0 ≤ t.care ∧ t.care ≤ 7
  case neg =>
    simp -implicitDefEqProofs (disch := first | omega | (simp only [List.length_set, List.length_replicate, List.length_append, List.length_map, List.length_take, List.length_cons, List.length_nil]; omega)) [wrap64, h3]
    have hno : ¬ t.Ok n := fun ho => h3 (by unfold Tr.Ok at ho; omega)
    exact RetK.keep (hk _ _ ⟨rfl, by simp [hno]⟩)
  by_cases h4 : t.value < 0
  case pos =>
    simp -implicitDefEqProofs (disch := first | omega | (simp only [List.length_set, List.length_replicate, List.length_append, List.length_map, List.length_take, List.length_cons, List.length_nil]; omega)) [wrap64, h3, h4]
    have hno : ¬ t.Ok n := fun ho => by unfold Tr.Ok at ho; omega
    exact RetK.keep (hk _ _ ⟨rfl, by simp [hno]⟩)
  simp -implicitDefEqProofs (disch := first | omega | (simp only [List.length_set, List.length_replicate, List.length_append, List.length_map, List.length_take, List.length_cons, List.length_nil]; omega)) [wrap64, h3, h4]
  refine RetK.keep (hk _ _ ⟨rfl, ?_⟩)
  have h5 := bits_in (c := t.care) e0.1 e0.2
  by_cases h6 : andNotI .i64 t.value t.care = 0
  · have hyes : t.Ok n := ⟨by omega, by omega, by omega, by omega, by omega, by omega, by omega, h5.1 h6⟩
    simp [h6, hyes]
  · have hno : ¬ t.Ok n := fun h => h6 (h5.2 h.2.2.2.2.2.2.2)
    simp [h6, hno]

theorem drop_cons {α : Type} {l : List α} {i : Nat} (hi : i < l.length) : l.drop i = l[i] :: l.drop (i + 1) := List.drop_eq_getElem_cons hi

theorem incr_cons {n lo x : Int} {l : List Int} : incr n lo (x :: l) ↔ lo < x ∧ x < n ∧ incr n x l := Iff.rfl

theorem c_AutomatonValid {h : Heap} {v : Value} {a : Aut} (Ra : Rep h v a) : CallE Try.prog fn_impl_AutomatonValid [v] h (fun u h' => h.le h' ∧ u = .bool (decide a.Ok)) := by
  obtain ⟨v1, v2, v3, rfl, R1, R2, R3⟩ := Rep_Aut.1 Ra
  refine CallE.gen fun k hk => EN_impl_AutomatonValid rfl ?_
  have l1 := R1.lt
  have l2 := R2.lt
  simp -implicitDefEqProofs (disch := first | omega | (simp only [List.length_set, List.length_replicate, List.length_append, List.length_map, List.length_take, List.length_cons, List.length_nil]; omega)) [wrap64, R1.len, R2.len, R3.len]
  refine HS.init.alloc rfl fun b h1 H => ?_
  simp -implicitDefEqProofs (disch := first | omega | (simp only [List.length_set, List.length_replicate, List.length_append, List.length_map, List.length_take, List.length_cons, List.length_nil]; omega)) [wrap64]
  refine H.bxst (u := .int .i64 a.acc.length) rfl rfl rfl rfl (by simp) fun h2 H => ?_
  simp only [setC, cells_int, List.take_zero, List.nil_append] at H
  simp -implicitDefEqProofs (disch := first | omega | (simp only [List.length_set, List.length_replicate, List.length_append, List.length_map, List.length_take, List.length_cons, List.length_nil]; omega)) [wrap64, R1.len, R2.len, R3.len]
  have H : HS h [bx b [.int .i64 a.acc.length]] h2 := H
  refine wp_count a.init.length (fun i e h' => h' = h2 ∧ ∃ last : Int, e = [none, some (.agg #[v1, v2, v3]), none, some (.pointer (some ⟨b, 0, none⟩)), some (.int .i64 last), none, some v1, some (.int .i64 a.init.length), some (.int .i64 i)] ∧
      -1 ≤ last ∧ last < 4611686018427387904 ∧ (incr a.acc.length (-1) a.init ↔ incr a.acc.length last (a.init.drop i))) ⟨rfl, -1, rfl, by omega, by omega, by simp⟩ ?_
  rintro J i _ _ hJ hi ⟨rfl, last, rfl, hl1, hl2, hin⟩
  simp -implicitDefEqProofs (disch := first | omega | (simp only [List.length_set, List.length_replicate, List.length_append, List.length_map, List.length_take, List.length_cons, List.length_nil]; omega)) [wrap64]
  refine IteW.mk (fun hlt => ?_) (fun hge => ?_)
  · have hlx : i < a.init.length := by omega
    simp -implicitDefEqProofs (disch := first | omega | (simp only [List.length_set, List.length_replicate, List.length_append, List.length_map, List.length_take, List.length_cons, List.length_nil]; omega)) [wrap64, (R1.on H).I, H.bxld0]
    refine c_in.go ?_
    rintro _ _ ⟨rfl, rfl⟩
    simp -implicitDefEqProofs (disch := first | omega | (simp only [List.length_set, List.length_replicate, List.length_append, List.length_map, List.length_take, List.length_cons, List.length_nil]; omega)) [wrap64]
    rw [drop_cons hlx, incr_cons] at hin
    refine IteW.mk (fun hn => ?_) (fun hn => ?_)
    · simp -implicitDefEqProofs (disch := first | omega | (simp only [List.length_set, List.length_replicate, List.length_append, List.length_map, List.length_take, List.length_cons, List.length_nil]; omega)) [wrap64]
      refine RetK.keep (hk _ _ ⟨H.base, ?_⟩)
      have : ¬ a.Ok := by
        intro ho
        have := hin.1 ho.i
        omega
      simp [this]
    · simp -implicitDefEqProofs (disch := first | omega | (simp only [List.length_set, List.length_replicate, List.length_append, List.length_map, List.length_take, List.length_cons, List.length_nil]; omega)) [wrap64]
      exact hJ _ _ hlx ⟨rfl, _, rfl, by omega, by omega, hin.trans ⟨fun h => h.2.2, fun h => ⟨by omega, by omega, h⟩⟩⟩
  · simp -implicitDefEqProofs (disch := first | omega | (simp only [List.length_set, List.length_replicate, List.length_append, List.length_map, List.length_take, List.length_cons, List.length_nil]; omega)) [wrap64, H.bxld0]
    have hin : incr a.acc.length (-1) a.init := hin.2 (by rw [List.drop_eq_nil_of_le (by omega)]; trivial)
    refine c_in.go ?_
    rintro _ _ ⟨rfl, rfl⟩
    by_cases hn : 1 ≤ (a.acc.length : Int) ∧ (a.acc.length : Int) ≤ 64
    case neg =>
      simp -implicitDefEqProofs (disch := first | omega | (simp only [List.length_set, List.length_replicate, List.length_append, List.length_map, List.length_take, List.length_cons, List.length_nil]; omega)) [wrap64, hn]
      refine RetK.keep (hk _ _ ⟨H.base, ?_⟩)
      have : ¬ a.Ok := fun ho => hn (by have := ho.n; omega)
      simp [this]
    by_cases he : (a.edges.length : Int) ≤ 2048
    case neg =>
      simp -implicitDefEqProofs (disch := first | omega | (simp only [List.length_set, List.length_replicate, List.length_append, List.length_map, List.length_take, List.length_cons, List.length_nil]; omega)) [wrap64, hn, he, R3.len]
      refine RetK.keep (hk _ _ ⟨H.base, ?_⟩)
      have : ¬ a.Ok := fun ho => he (by have := ho.e; omega)
      simp [this]
    simp -implicitDefEqProofs (disch := first | omega | (simp only [List.length_set, List.length_replicate, List.length_append, List.length_map, List.length_take, List.length_cons, List.length_nil]; omega)) [wrap64, hn, he, R3.len]
    refine (c_ContainsFunc_impl_Transition (R3.on H) (c1 := []) (fnOf_func) (fun t => !decide (t.Ok a.acc.length)) ?_).go ?_
    · intro h3 hl j hj u Ru
      exact (c_AutomatonValid_1 Ru (by omega) (hload_le hl H.bxld0)).to fun _ _ ⟨h4, h5⟩ => ⟨h4 ▸ Heap.le.refl _, h5⟩
    · rintro _ h3 ⟨hl, rfl⟩
      simp -implicitDefEqProofs (disch := first | omega | (simp only [List.length_set, List.length_replicate, List.length_append, List.length_map, List.length_take, List.length_cons, List.length_nil]; omega)) [wrap64]
      refine RetK.keep (hk _ _ ⟨H.base.trans hl, ?_⟩)
      congr 1
      have hnn : 1 ≤ a.acc.length ∧ a.acc.length ≤ 64 := by omega
      have hee : a.edges.length ≤ 2048 := by omega
      simp only [Aut.Ok, hnn, hee, hin, true_and]
      rw [Bool.eq_iff_iff]
      simp

theorem c_spec_AutomatonValid {h : Heap} {v : Value} {a : Aut} (Ra : Rep h v a) : CallE Try.prog fn_spec_AutomatonValid [v] h (fun u h' => h' = h ∧ u = .bool (decide a.Ok)) := by
  obtain ⟨v1, v2, v3, rfl, R1, R2, R3⟩ := Rep_Aut.1 Ra
  refine CallE.gen fun k hk => EN_spec_AutomatonValid rfl ?_
  have l1 := R1.lt
  have l2 := R2.lt
  have l3 := R3.lt
  simp -implicitDefEqProofs (disch := first | omega | (simp only [List.length_set, List.length_replicate, List.length_append, List.length_map, List.length_take, List.length_cons, List.length_nil]; omega)) [wrap64, R1.len, R2.len, R3.len]
  by_cases h1 : (a.acc.length : Int) < 1
  case pos =>
    simp -implicitDefEqProofs (disch := first | omega | (simp only [List.length_set, List.length_replicate, List.length_append, List.length_map, List.length_take, List.length_cons, List.length_nil]; omega)) [wrap64, h1]
    have hno : ¬ a.Ok := fun ho => by have := ho.n; omega
    exact RetK.keep (hk _ _ ⟨rfl, by simp [hno]⟩)
  by_cases h2 : 64 < (a.acc.length : Int)
  case pos =>
    simp -implicitDefEqProofs (disch := first | omega | (simp only [List.length_set, List.length_replicate, List.length_append, List.length_map, List.length_take, List.length_cons, List.length_nil]; omega)) [wrap64, h1, h2]
    have hno : ¬ a.Ok := fun ho => by have := ho.n; omega
    exact RetK.keep (hk _ _ ⟨rfl, by simp [hno]⟩)
  by_cases h3 : (a.acc.length : Int) < a.init.length
  case pos =>
    simp -implicitDefEqProofs (disch := first | omega | (simp only [List.length_set, List.length_replicate, List.length_append, List.length_map, List.length_take, List.length_cons, List.length_nil]; omega)) [wrap64, h1, h2, R1.len, h3]
    have hno : ¬ a.Ok := fun ho => by
      have h1 := incr_len ho.i (by have := ho.n; omega)
      omega
    exact RetK.keep (hk _ _ ⟨rfl, by simp [hno]⟩)
  by_cases h4 : 2048 < (a.edges.length : Int)
  case pos =>
    simp -implicitDefEqProofs (disch := first | omega | (simp only [List.length_set, List.length_replicate, List.length_append, List.length_map, List.length_take, List.length_cons, List.length_nil]; omega)) [wrap64, h1, h2, R1.len, h3, R3.len, h4]
    have hno : ¬ a.Ok := fun ho => by have := ho.e; omega
    exact RetK.keep (hk _ _ ⟨rfl, by simp [hno]⟩)
  simp -implicitDefEqProofs (disch := first | omega | (simp only [List.length_set, List.length_replicate, List.length_append, List.length_map, List.length_take, List.length_cons, List.length_nil]; omega)) [wrap64, h1, h2, R1.len, h3, R3.len, h4]
  refine wp_count a.init.length (fun i e h' => h' = h ∧ e = [none, some (.agg #[v1, v2, v3]), none, some (.int .i64 a.acc.length), some (.int .i64 i), none] ∧
      (incr a.acc.length (-1) a.init ↔ incr a.acc.length (if i = 0 then -1 else a.init.getD (i - 1) 0) (a.init.drop i))) ⟨rfl, rfl, by simp⟩ ?_
  rintro J i _ _ hJ hi ⟨rfl, rfl, hin⟩
  simp -implicitDefEqProofs (disch := first | omega | (simp only [List.length_set, List.length_replicate, List.length_append, List.length_map, List.length_take, List.length_cons, List.length_nil]; omega)) [wrap64, R1.len]
  refine IteW.mk (fun hlt => ?_) (fun hge => ?_)
  · have hlx : i < a.init.length := by omega
    rw [drop_cons hlx, incr_cons] at hin
    have hgd : a.init.getD (i + 1 - 1) 0 = a.init[i] := by simp [hlx]
    by_cases h5 : a.init[i] < 0
    case pos =>
      simp -implicitDefEqProofs (disch := first | omega | (simp only [List.length_set, List.length_replicate, List.length_append, List.length_map, List.length_take, List.length_cons, List.length_nil]; omega)) [wrap64, R1.I, h5]
      have hno : ¬ a.Ok := fun ho => by have := ho.im hlx; omega
      exact RetK.keep (hk _ _ ⟨rfl, by simp [hno]⟩)
    by_cases h6 : (a.acc.length : Int) ≤ a.init[i]
    case pos =>
      simp -implicitDefEqProofs (disch := first | omega | (simp only [List.length_set, List.length_replicate, List.length_append, List.length_map, List.length_take, List.length_cons, List.length_nil]; omega)) [wrap64, R1.I, h5, h6]
      have hno : ¬ a.Ok := fun ho => by have := ho.im hlx; omega
      exact RetK.keep (hk _ _ ⟨rfl, by simp [hno]⟩)
    by_cases h7 : 0 < i
    · have hj : i - 1 < a.init.length := by omega
      have hii : (i : Int) - 1 = ((i - 1 : Nat) : Int) := by omega
      have hw : IntKind.i64.wrap ((i : Int) - 1) = ((i - 1 : Nat) : Int) := by rw [wrap64 (by omega) (by omega), hii]
      have hgd2 : a.init.getD (i - 1) 0 = a.init[i - 1] := by simp [hj]
      rw [if_neg (by omega), hgd2] at hin
      simp -implicitDefEqProofs (disch := first | omega | (simp only [List.length_set, List.length_replicate, List.length_append, List.length_map, List.length_take, List.length_cons, List.length_nil]; omega)) [wrap64, R1.I, h5, h6, h7, hw]
      refine IteW.mk (fun h8 => ?_) (fun h8 => ?_)
      · simp -implicitDefEqProofs (disch := first | omega | (simp only [List.length_set, List.length_replicate, List.length_append, List.length_map, List.length_take, List.length_cons, List.length_nil]; omega)) [wrap64]
        have hno : ¬ a.Ok := fun ho => by have := (hin.1 ho.i).1; omega
        exact RetK.keep (hk _ _ ⟨rfl, by simp [hno]⟩)
      · simp -implicitDefEqProofs (disch := first | omega | (simp only [List.length_set, List.length_replicate, List.length_append, List.length_map, List.length_take, List.length_cons, List.length_nil]; omega)) [wrap64]
        exact hJ _ _ hlx ⟨rfl, rfl, by rw [if_neg (by omega), hgd]; exact hin.trans ⟨fun h => h.2.2, fun h => ⟨by omega, by omega, h⟩⟩⟩
    · have h0 : i = 0 := by omega
      subst h0
      rw [if_pos rfl] at hin
      simp -implicitDefEqProofs (disch := first | omega | (simp only [List.length_set, List.length_replicate, List.length_append, List.length_map, List.length_take, List.length_cons, List.length_nil]; omega)) [wrap64, R1.I, h5, h6]
      exact hJ _ _ hlx ⟨rfl, rfl, by rw [if_neg (by omega), hgd]; exact hin.trans ⟨fun h => h.2.2, fun h => ⟨by omega, by omega, h⟩⟩⟩
  · have hin : incr a.acc.length (-1) a.init := hin.2 (by rw [List.drop_eq_nil_of_le (by omega)]; trivial)
    simp -implicitDefEqProofs (disch := first | omega | (simp only [List.length_set, List.length_replicate, List.length_append, List.length_map, List.length_take, List.length_cons, List.length_nil]; omega)) [wrap64]
    refine wp_count a.edges.length (fun i e h' => h' = _ ∧ e = [none, some (.agg #[v1, v2, v3]), none, some (.int .i64 a.acc.length), none, some (.int .i64 i)] ∧
      ∀ (j : Nat) (hj : j < a.edges.length), j < i → a.edges[j].Ok a.acc.length) ⟨rfl, rfl, fun j _ hj => absurd hj (Nat.not_lt_zero j)⟩ ?_
    rintro J i _ _ hJ hi ⟨rfl, rfl, hn⟩
    simp -implicitDefEqProofs (disch := first | omega | (simp only [List.length_set, List.length_replicate, List.length_append, List.length_map, List.length_take, List.length_cons, List.length_nil]; omega)) [wrap64, R3.len]
    refine IteW.mk (fun hlt => ?_) (fun hge => ?_)
    · have hlx : i < a.edges.length := by omega
      simp -implicitDefEqProofs (disch := first | omega | (simp only [List.length_set, List.length_replicate, List.length_append, List.length_map, List.length_take, List.length_cons, List.length_nil]; omega)) [wrap64, R3.xTr]
      refine (c_l7Edge (Rep_Tr.2 ⟨rfl, R3.okTr hlx⟩)).go ?_
      rintro _ _ ⟨rfl, rfl⟩
      simp -implicitDefEqProofs (disch := first | omega | (simp only [List.length_set, List.length_replicate, List.length_append, List.length_map, List.length_take, List.length_cons, List.length_nil]; omega)) [wrap64]
      refine IteW.mkr (fun h8 => ?_) (fun h8 => ?_)
      · simp -implicitDefEqProofs (disch := first | omega | (simp only [List.length_set, List.length_replicate, List.length_append, List.length_map, List.length_take, List.length_cons, List.length_nil]; omega)) [wrap64]
        have hno : ¬ a.Ok := fun ho => h8 (ho.t hlx)
        exact RetK.keep (hk _ _ ⟨rfl, by simp [hno]⟩)
      · simp -implicitDefEqProofs (disch := first | omega | (simp only [List.length_set, List.length_replicate, List.length_append, List.length_map, List.length_take, List.length_cons, List.length_nil]; omega)) [wrap64]
        refine hJ _ _ hlx ⟨rfl, rfl, fun j hj hji => ?_⟩
        by_cases hji2 : j = i
        · subst hji2; exact h8
        · exact hn j hj (by omega)
    · simp -implicitDefEqProofs (disch := first | omega | (simp only [List.length_set, List.length_replicate, List.length_append, List.length_map, List.length_take, List.length_cons, List.length_nil]; omega)) [wrap64]
      have hyes : a.Ok := ⟨by omega, by omega, hin, fun t ht => by
        obtain ⟨j, hj, rfl⟩ := List.mem_iff_getElem.1 ht
        exact hn j hj (by omega)⟩
      exact RetK.keep (hk _ _ ⟨rfl, by simp [hyes]⟩)
end Go.Proofs.Ytglnelcmcimljaa

/-
  Search in slices; lists of successors; what can be reached.
-/
namespace Go.Proofs.Ytglnelcmcimljaa
open Go
set_option linter.all false
set_option linter.unusedVariables false
set_option linter.unusedSimpArgs false
set_option linter.defProp false
set_option maxRecDepth 1000000

section
variable {α : Type} [Ty α] {g h : Heap} {Γ : List HP} {v u : Value} {l : List α}
/-- the elements behind a place are given up -/
theorem HS.cut (H : HS g (ow v l :: Γ) h) {n esz : Nat} {k : IntKind} (hn : n ≤ l.length) : ∃ v', sliceVV esz v none (some (some (.int k n))) none = some v' ∧ HS g (ow v' (l.take n) :: Γ) h := by
  obtain ⟨g', r, rfl, d, O, H⟩ := H
  rcases Own_list.1 O with ⟨p, rfl, rfl, rfl, hp⟩ | ⟨b, off, cap, cells, el, r', rfl, ⟨h1, hM⟩, h2, rfl, h4, h5⟩
  · have hn0 : n = 0 := by simpa using hn
    subst hn0
    exact ⟨.slice p 0 0, by simp [sliceVV, bndV], g', Heap.nil, rfl, d, Own_list.2 (.inl ⟨p, rfl, by simp, rfl, hp⟩), H⟩
  · rw [← List.take_append_drop n l] at h5
    obtain ⟨r1, r2, rfl, d2, h6, h7⟩ := ownL_split h5
    obtain ⟨d3, d4⟩ := Dj_add.1 d
    obtain ⟨d5, d6⟩ := Dj_add.1 d4
    obtain ⟨n1, n2⟩ : r1 b = none ∧ r2 b = none := by simpa [Heap.add] using h4
    refine ⟨.slice (some ⟨b, off, none⟩) n cap, ?_, g'.add r2, (Heap.one b (.cells cells.toArray el (0, 0))).add r1, by ac_rfl, ?_, ?_, H.le (le_add d6)⟩
    · have : n ≤ cap := by omega
      simp [sliceVV, bndV, add_none, this]
    · exact Dj_add.2 ⟨add_Dj.2 ⟨d3, (Dj_one.2 n2)⟩, add_Dj.2 ⟨d5, d2.symm⟩⟩
    · have hl : (l.take n).length = n := by simp; omega
      exact Own_list.2 (.inr ⟨b, off, cap, cells, el, r1, by rw [hl], ⟨by omega, by omega⟩, h2, rfl, n1, h6⟩)
end

end Go.Proofs.Ytglnelcmcimljaa

/-
  What can be reached, by the program and by the reference; which nodes lie on a cycle, by the reference.
-/
namespace Go.Proofs.Ytglnelcmcimljaa
open Go
set_option linter.all false
set_option linter.unusedVariables false
set_option linter.unusedSimpArgs false
set_option linter.defProp false
set_option maxRecDepth 1000000

end Go.Proofs.Ytglnelcmcimljaa

/-
  Which nodes lie on a cycle, by the reference; from which states a word is accepted, by the reference.
-/
namespace Go.Proofs.Ytglnelcmcimljaa
open Go
set_option linter.all false
set_option linter.unusedVariables false
set_option linter.unusedSimpArgs false
set_option linter.defProp false
set_option maxRecDepth 1000000

/-- where the reference's search for a cycle stands -/
structure LpI (E : Nat → Nat → Prop) (n q : Nat) (B : List Bool) (Q : List Int) (i : Nat) : Prop where
  len : B.length = n
  size : Q.length + 2048 * B.count false ≤ 2048 * (n + 1)
  le : i ≤ Q.length
  snd : ∀ z ∈ Q, ∃ p : Nat, z = p ∧ p < n ∧ ∃ y, E q y ∧ Rch E y p
  start : ∀ y, E q y → (y : Int) ∈ Q
  seen : ∀ x, tru B x → ∀ y, E x y → (y : Int) ∈ Q
  past : ∀ j (hj : j < Q.length), j < i → Q[j] ≠ q ∧ tru B Q[j].toNat
theorem LpI.done {E : Nat → Nat → Prop} {n q : Nat} {B : List Bool} {Q : List Int} {i : Nat} (h : LpI E n q B Q i) (hi : Q.length ≤ i) : ¬ Cyc E q := by
  rintro ⟨y, h1, h2⟩
  have hm : ((q : Nat) : Int) ∈ Q := by
    refine h2.closed (C := fun x => (x : Int) ∈ Q) (fun u v hu huv => ?_) (h.start y h1)
    obtain ⟨j, hj, h3⟩ := List.mem_iff_getElem.1 hu
    have h4 := (h.past j hj (by omega)).2
    rw [h3] at h4
    exact h.seen u h4 v huv
  obtain ⟨j, hj, h3⟩ := List.mem_iff_getElem.1 hm
  exact (h.past j hj (by omega)).1 h3

end Go.Proofs.Ytglnelcmcimljaa

/-
  The program's search for strongly connected components.
-/
namespace Go.Proofs.Ytglnelcmcimljaa
open Go
set_option linter.all false
set_option linter.unusedVariables false
set_option linter.unusedSimpArgs false
set_option linter.defProp false
set_option maxRecDepth 1000000

def gd (l : List Int) : Nat → Int := fun x => l.getD x 0
theorem gd_set {l : List Int} {i : Nat} {v : Int} (hi : i < l.length) : gd (l.set i v) = fput (gd l) i v := by
  funext x
  simp only [gd, fput, List.getD_eq_getElem?_getD, List.getElem?_set]
  by_cases h : i = x
  · subst h; simp [hi]
  · simp [h, Ne.symm h]
/-- so many have not been visited -/
def unv (n : Nat) (f : Nat → Int) : Nat := ((List.range n).filter fun x => decide (x < n ∧ f x = 0)).length
/-- the boxes that are only read -/
@[reducible] def FB (bN bL bQ bG bV : Nat) (vn vl vq w fv : Value) (h : Heap) : Prop := hload h (some (.pointer (some ⟨bN, 0, none⟩))) none = some vn ∧ hload h (some (.pointer (some ⟨bL, 0, none⟩))) none = some vl ∧ hload h (some (.pointer (some ⟨bQ, 0, none⟩))) none = some vq ∧
  hload h (some (.pointer (some ⟨bG, 0, none⟩))) none = some w ∧ hload h (some (.pointer (some ⟨bV, 0, none⟩))) none = some fv
theorem FB.on {bN bL bQ bG bV : Nat} {vn vl vq w fv : Value} {g h : Heap} {Γ : List HP} (F : FB bN bL bQ bG bV vn vl vq w fv g) (H : HS g Γ h) : FB bN bL bQ bG bV vn vl vq w fv h :=
  ⟨hload_le H.base F.1, hload_le H.base F.2.1, hload_le H.base F.2.2.1, hload_le H.base F.2.2.2.1, hload_le H.base F.2.2.2.2⟩

/-- the state of the search lies in the memory -/
@[reducible] def CHs (vn vl vq : Value) (bS bC bP : Nat) (vs : Value) (N L Q : List Int) (s : TS) : List HP :=
  [ow vn N, ow vl L, ow vq Q, ow vs (s.stk.map Int.ofNat), bx bS [vs], bx bC [.int .i64 s.cnt], bx bP [.int .i64 s.prt]]
structure CHl (n : Nat) (N L Q : List Int) (s : TS) : Prop where
  hN : N.length = n
  hL : L.length = n
  hQ : Q.length = n
  num : s.num = gd N
  low : s.low = gd L
  part : s.part = gd Q
  cnt : s.cnt + unv n s.num ≤ n
def CH (g : Heap) (vn vl vq : Value) (bS bC bP n : Nat) (s : TS) (h : Heap) : Prop := ∃ (N L Q : List Int) (vs : Value), CHl n N L Q s ∧ HS g (CHs vn vl vq bS bC bP vs N L Q s) h

theorem TL.mono {n : Nat} {E : Nat → Nat → Prop} {gr sc sc' : Nat → Prop} {s s1 : TS} {a : Nat} (h : TL n E gr s a sc s1) (hs : ∀ y, sc' y → sc y) : TL n E gr s a sc' s1 :=
  ⟨h.inv, h.num, h.part, h.stk, h.na, h.cnt, h.fresh, h.black, h.lowa, h.low, h.min, fun y hy => h.proc y (hs y hy)⟩

/-- the node that is taken off the stack next -/
def topv (C : List Nat) (m : Nat) : Int := if h : m < C.length then (C[m] : Int) else -1

end Go.Proofs.Ytglnelcmcimljaa

/-
  The program's components, which nodes lie on a cycle, and the states from which a word is accepted.
-/
namespace Go.Proofs.Ytglnelcmcimljaa
open Go
set_option linter.all false
set_option linter.unusedVariables false
set_option linter.unusedSimpArgs false
set_option linter.defProp false
set_option maxRecDepth 1000000

/-- one piece is kept -/
theorem HS.only {g h : Heap} {Γ : List HP} {p : HP} (H : HS g (p :: Γ) h) : HS g [p] h := by
  obtain ⟨g', r, e, d, hp, H⟩ := H
  exact ⟨g', r, e, d, hp, H.base⟩

/-- the names of parts, when so many nodes have been named -/
structure NmI (n : Nat) (f : Nat → Int) (i : Nat) (l : List (Int × Int)) (Q : List Int) : Prop where
  len : Q.length = n
  le : l.length ≤ i
  done : ∀ x, x < i → mlk l (f x) = some (gd Q x)
  rest : ∀ x, i ≤ x → x < n → gd Q x = f x
  bnd : ∀ a y, mlk l a = some y → 0 ≤ y ∧ y < l.length
  inj : ∀ a b y, mlk l a = some y → mlk l b = some y → a = b
theorem NmI.old {n : Nat} {f : Nat → Int} {i : Nat} {l : List (Int × Int)} {Q : List Int} {y : Int} (h : NmI n f i l Q) (hi : i < n) (hy : mlk l (f i) = some y) : NmI n f (i + 1) l (Q.set i y) := by
  have hl := h.len
  refine ⟨by simpa using hl, by have := h.le; omega, ?_, ?_, h.bnd, h.inj⟩
  · intro x hx
    rw [gd_set (by omega)]
    by_cases e : x = i
    · subst e; simp [hy]
    · rw [fput_ne e]; exact h.done x (by omega)
  · intro x hx hxn
    rw [gd_set (by omega), fput_ne (by omega)]
    exact h.rest x (by omega) hxn
theorem NmI.new {n : Nat} {f : Nat → Int} {i : Nat} {l : List (Int × Int)} {Q : List Int} (h : NmI n f i l Q) (hi : i < n) (hy : mlk l (f i) = none) : NmI n f (i + 1) (l ++ [(f i, (l.length : Int))]) (Q.set i (l.length : Int)) ∧ mlk (l ++ [(f i, (l.length : Int))]) (f i) = some (l.length : Int) := by
  have hl := h.len
  have hs := fun b => mlk_snoc (y := (l.length : Int)) (b := b) hy
  refine ⟨⟨by simpa using hl, by have := h.le; simp; omega, ?_, ?_, ?_, ?_⟩, by rw [hs, if_pos rfl]⟩
  · intro x hx
    rw [gd_set (by omega), hs]
    by_cases e : x = i
    · subst e; simp
    · rw [fput_ne e]
      have h1 := h.done x (by omega)
      rw [if_neg]
      · exact h1
      · intro e2; rw [← e2, hy] at h1; simp at h1
  · intro x hx hxn
    rw [gd_set (by omega), fput_ne (by omega)]
    exact h.rest x (by omega) hxn
  · intro a y ha
    rw [hs] at ha
    split at ha
    · simp at ha; subst ha; simp; omega
    · have := h.bnd a y ha; simp; omega
  · intro a b y ha hb
    rw [hs] at ha hb
    split at ha
    · simp at ha
      split at hb
      · rename_i e1 e2; rw [← e1, ← e2]
      · have := h.bnd b y hb; omega
    · split at hb
      · simp at hb
        have := h.bnd a y ha; omega
      · exact h.inj a b y ha hb
theorem NmI.result {n : Nat} {f : Nat → Int} {l : List (Int × Int)} {Q : List Int} (h : NmI n f n l Q) : (∀ x, x < n → 0 ≤ gd Q x ∧ gd Q x < n) ∧ ∀ x y, x < n → y < n → (gd Q x = gd Q y ↔ f x = f y) := by
  refine ⟨fun x hx => ?_, fun x y hx hy => ⟨fun e => ?_, fun e => ?_⟩⟩
  · have := h.bnd _ _ (h.done x hx)
    have := h.le
    omega
  · have h1 := h.done x hx
    have h2 := h.done y hy
    rw [e] at h1
    exact h.inj _ _ _ h1 h2
  · have h1 := h.done x hx
    have h2 := h.done y hy
    rw [e, h2] at h1
    simpa using h1.symm

end Go.Proofs.Ytglnelcmcimljaa

/-
  Which nodes lie on a cycle, and from which states a word is accepted, by the program.
-/
namespace Go.Proofs.Ytglnelcmcimljaa
open Go
set_option linter.all false
set_option linter.unusedVariables false
set_option linter.unusedSimpArgs false
set_option linter.defProp false
set_option maxRecDepth 1000000

def cntP (Q : List Int) (i : Nat) (p : Int) : Nat := ((List.range i).filter fun y => decide (gd Q y = p)).length
end Go.Proofs.Ytglnelcmcimljaa

/-
  Bodies of functions in the small language, as a program printed them, and that each is what the translation gives.
-/
namespace Go.Proofs.Ytglnelcmcimljaa
open Go
set_option linter.all false
set_option linter.defProp false
set_option maxRecDepth 1000000

end Go.Proofs.Ytglnelcmcimljaa

/-
  Bodies of functions in the small language, as a program printed them, and that each is what the translation gives.
-/
namespace Go.Proofs.Ytglnelcmcimljaa
open Go
set_option linter.all false
set_option linter.defProp false
set_option maxRecDepth 1000000

end Go.Proofs.Ytglnelcmcimljaa

/-
  Trimming, by the program.
-/
namespace Go.Proofs.Ytglnelcmcimljaa
open Go
set_option linter.all false
set_option linter.unusedVariables false
set_option linter.unusedSimpArgs false
set_option linter.defProp false
set_option maxRecDepth 1000000

/-- accepting marks of the states that are kept, of so many -/
def accK (a : Aut) (K : Nat → Bool) (i : Nat) : List Bool := ((List.range i).filter K).map fun q => a.acc.getD q false
/-- the new numbers: -1 for what is not kept -/
def knum (K : Nat → Bool) (q : Nat) : Int := if K q then (kidx K q : Int) else -1

end Go.Proofs.Ytglnelcmcimljaa

/-
  Trimming, by the reference; both as functions of the package.
-/
namespace Go.Proofs.Ytglnelcmcimljaa
open Go
set_option linter.all false
set_option linter.unusedVariables false
set_option linter.unusedSimpArgs false
set_option linter.defProp false
set_option maxRecDepth 1000000

/-- what a function of a valid automaton gives back -/
def okR (f : Aut → Aut) (h : Heap) (a : Aut) (u : Value) (h' : Heap) : Prop := ∃ v, u = .tuple #[v, .bool (decide a.Ok)] ∧ HS h [ow v (if a.Ok then f a else Aut.empty)] h'
theorem okR.no {f : Aut → Aut} {h h' : Heap} {a : Aut} (hn : ¬ a.Ok) (H : HS h [] h') : okR f h a (.tuple #[.agg #[.slice none 0 0, .slice none 0 0, .slice none 0 0], .bool false]) h' :=
  ⟨_, by rw [decide_eq_false hn], by rw [if_neg hn]; exact empty_ow H⟩
theorem okR.yes {f : Aut → Aut} {h h' : Heap} {a : Aut} {v : Value} (hn : a.Ok) (H : HS h [ow v (f a)] h') : okR f h a (.tuple #[v, .bool true]) h' :=
  ⟨_, by rw [decide_eq_true hn], by rw [if_pos hn]; exact H⟩

end Go.Proofs.Ytglnelcmcimljaa

/-
  How much the arguments and results of the laws hold.
-/
namespace Go.Proofs.Ytglnelcmcimljaa
open Go
set_option linter.all false
set_option linter.unusedVariables false
set_option linter.unusedSimpArgs false
set_option linter.defProp false
set_option maxRecDepth 1000000

end Go.Proofs.Ytglnelcmcimljaa

/-
  Instances of functions over slices: copies, and whether some element meets a condition. Printed by a program.
-/
namespace Go.Proofs.Ytglnelcmcimljaa
open Go
set_option linter.all false
set_option linter.unusedVariables false
set_option linter.unusedSimpArgs false
set_option linter.defProp false
set_option maxRecDepth 1000000

end Go.Proofs.Ytglnelcmcimljaa

/-
  Bodies of functions in the small language, as a program printed them, and that each is what the translation gives.
-/
namespace Go.Proofs.Ytglnelcmcimljaa
open Go
set_option linter.all false
set_option linter.defProp false
set_option maxRecDepth 1000000

def H_spec_l7On : Hint := ⟨[(0, false), (1, false), (2, true), (4, false)], []⟩
def K139_1 : C := .seq (.pl <| .st (.ext 4 7) <|
    .st (.act none (.px (some 4) (.mv (.v 1)))) <|
    .st (.act none (.als 5 none 2)) <|
    .st (.act none (.pget (some 6) (some 5) 2 1 none)) <|
    .st (.act none (.px (some 7) (.bin .and (.v 4) (.v 6)))) <|
    .st (.act none (.als 8 none 2)) <|
    .st (.act none (.pget (some 9) (some 8) 2 2 none)) <|
    .st (.act none (.px (some 10) (.bin .eql (.v 7) (.v 9)))) <|
    .st (.act none (.px (some 3) (.mv (.v 10)))) .done) (.ret)
@[simp] def W139_1 := @C.wpe _ _ K139_1.eq_1
def B_spec_l7On : C := .seq (.pl <| .st (.ext 4 0) <|
    .st (.act none (.pnew 2 (.v 0) [])) <|
    .st (.act none (.px (some 3) (.mv (.c (.bool false))))) .done) K139_1
@[simp] def WB_spec_l7On := @C.wpe _ _ B_spec_l7On.eq_1
def R_spec_l7On : FIR := ⟨B_spec_l7On, 4, [(3, none)]⟩
theorem IR_spec_l7On : cfun Try.prog H_spec_l7On Try.f139 = some R_spec_l7On := by kernel_rfl
theorem EN_spec_l7On {args : List Value} {h : Heap} {k : Value → Heap → Prop} (hargs : args.length = 2) (hw : B_spec_l7On.wp Try.prog (retQ [(3, none)] k) (env0 args 4) h) : CallE Try.prog fn_spec_l7On args h k := enter Try.func139 rfl IR_spec_l7On hargs hw


end Go.Proofs.Ytglnelcmcimljaa

/-
  Whether an edge takes a letter, by the program and by the reference.
-/
namespace Go.Proofs.Ytglnelcmcimljaa
open Go
set_option linter.all false
set_option linter.unusedVariables false
set_option linter.unusedSimpArgs false
set_option linter.defProp false
set_option maxRecDepth 1000000

theorem c_takes {h : Heap} {v : Value} {t : Tr} (Rt : Rep h v t) {n : Int} : CallE Try.prog fn_impl_Transition_takes [v, .int .i64 n] h (fun u h' => h' = h ∧ u = .bool (t.on n)) := by
  rw [(Rep_Tr.1 Rt).1]
  refine CallE.gen fun k hk => EN_impl_Transition_takes rfl ?_
  simp -implicitDefEqProofs (disch := first | omega | (simp only [List.length_set, List.length_replicate, List.length_append, List.length_map, List.length_take, List.length_cons, List.length_nil]; omega)) [wrap64, Tr.v]
  exact RetK.keep (hk _ _ ⟨rfl, rfl⟩)
theorem c_l7On {h : Heap} {v : Value} {t : Tr} (Rt : Rep h v t) {n : Int} : CallE Try.prog fn_spec_l7On [v, .int .i64 n] h (fun u h' => h' = h ∧ u = .bool (t.on n)) := by
  rw [(Rep_Tr.1 Rt).1]
  refine CallE.gen fun k hk => EN_spec_l7On rfl ?_
  simp -implicitDefEqProofs (disch := first | omega | (simp only [List.length_set, List.length_replicate, List.length_append, List.length_map, List.length_take, List.length_cons, List.length_nil]; omega)) [wrap64, Tr.v]
  exact RetK.keep (hk _ _ ⟨rfl, rfl⟩)

end Go.Proofs.Ytglnelcmcimljaa

/-
  The live states behind a word, by the program and by the reference.
-/
namespace Go.Proofs.Ytglnelcmcimljaa
open Go
set_option linter.all false
set_option linter.unusedVariables false
set_option linter.unusedSimpArgs false
set_option linter.defProp false
set_option maxRecDepth 1000000

end Go.Proofs.Ytglnelcmcimljaa

/-
  Appending zeros; a slice written out with two elements that are only read; concatenation of two lists of numbers.
-/
namespace Go.Proofs.Ytglnelcmcimljaa
open Go
set_option linter.all false
set_option linter.unusedVariables false
set_option linter.unusedSimpArgs false
set_option linter.defProp false
set_option maxRecDepth 1000000

section
variable {P : Program} {k : Env → Heap → Prop} {e : Env} {g h : Heap} {Γ : List HP} {v : Value} {α : Type}
end
end Go.Proofs.Ytglnelcmcimljaa

/-
  Plain laws of acceptance: lassos and their words, runs, and the search in the product.
-/
namespace Go.Proofs.Ytglnelcmcimljaa
open Go
set_option linter.all false
set_option linter.unusedVariables false
set_option linter.unusedSimpArgs false
set_option linter.defProp false
set_option maxRecDepth 1000000

/-- a valid lasso -/
def Las.Ok (l : Las) : Prop := ((∀ x ∈ l.stem, 0 ≤ x ∧ x ≤ 7) ∧ ∀ x ∈ l.loop, 0 ≤ x ∧ x ≤ 7) ∧ l.stem.length ≤ 80 ∧ 1 ≤ l.loop.length ∧ l.loop.length ≤ 80
instance instDecLasOk (l : Las) : Decidable l.Ok := by unfold Las.Ok; infer_instance
def Las.size (l : Las) : Nat := l.stem.length + l.loop.length
def Las.all (l : Las) : List Int := l.stem ++ l.loop
/-- the position behind a position -/
def Las.nx (l : Las) (i : Nat) : Nat := if i + 1 = l.size then l.stem.length else i + 1
/-- the position at a time -/
def Las.pos (l : Las) : Nat → Nat
  | 0 => 0
  | t + 1 => l.nx (l.pos t)
def Las.word (l : Las) (t : Nat) : Int := l.all.getD (l.pos t) 0
theorem Las.nx_lt {l : Las} (h : 1 ≤ l.loop.length) {i : Nat} (hi : i < l.size) : l.nx i < l.size := by
  unfold Las.nx Las.size at *
  split <;> omega
theorem Las.pos_lt {l : Las} (h : 1 ≤ l.loop.length) : ∀ t, l.pos t < l.size
  | 0 => by unfold Las.pos Las.size; omega
  | t + 1 => Las.nx_lt h (Las.pos_lt h t)
/-- a step at a time -/
def StE (E : List Tr) (w : Nat → Int) (t p q : Nat) : Prop := ∃ e ∈ E, e.frm = p ∧ e.to = q ∧ e.on (w t) = true
/-- a finite run, from a time and a state to a time and a state -/
inductive FR (E : List Tr) (w : Nat → Int) : Nat → Nat → Nat → Nat → Prop
  | refl (t p : Nat) : FR E w t p t p
  | step {t p q u r : Nat} (h : StE E w t p q) (k : FR E w (t + 1) q u r) : FR E w t p u r
section
variable {E : List Tr} {w : Nat → Int} {A : List Bool} {t p u q v r : Nat}
theorem FR.trans (h : FR E w t p u q) (k : FR E w u q v r) : FR E w t p v r := by
  induction h with
  | refl => exact k
  | step h _ ih => exact .step h (ih k)
theorem FR.le (h : FR E w t p u q) : t ≤ u := by
  induction h with
  | refl => exact Nat.le_refl _
  | step h _ ih => omega
theorem FR.one (h : StE E w t p q) : FR E w t p (t + 1) q := .step h (.refl _ _)
end
/-- from these one always comes, later, to an accepting one of them -/
def Goes (A : List Bool) (E : List Tr) (w : Nat → Int) (C : Nat → Nat → Prop) : Prop := ∀ t p, C t p → ∃ u q, t < u ∧ FR E w t p u q ∧ tru A q ∧ C u q
/-- there is an accepting run from a time and a state -/
def Run (A : List Bool) (E : List Tr) (w : Nat → Int) (t p : Nat) : Prop := ∃ C, C t p ∧ Goes A E w C
def Aut.Lang (a : Aut) (w : Nat → Int) : Prop := ∃ s : Nat, (s : Int) ∈ a.init ∧ Run a.acc a.edges w 0 s
theorem Run.before {A : List Bool} {E : List Tr} {w : Nat → Int} {t p u q : Nat} (h : FR E w t p u q) (k : Run A E w u q) : Run A E w t p := by
  obtain ⟨C, hC, hG⟩ := k
  refine ⟨fun t' p' => (t' = t ∧ p' = p) ∨ C t' p', .inl ⟨rfl, rfl⟩, ?_⟩
  rintro t' p' (⟨rfl, rfl⟩ | h1)
  · obtain ⟨v, r, h2, h3, h4, h5⟩ := hG u q hC
    have := h.le
    exact ⟨v, r, by omega, h.trans h3, h4, .inr h5⟩
  · obtain ⟨v, r, h2, h3, h4, h5⟩ := hG t' p' h1
    exact ⟨v, r, h2, h3, h4, .inr h5⟩
/-- runs are carried over by a relation of states -/
theorem Run.sim {A A' : List Bool} {E E' : List Tr} {w : Nat → Int} (M : Nat → Nat → Prop)
    (hs : ∀ t p q p', M p p' → StE E w t p q → Run A E w (t + 1) q → ∃ q', StE E' w t p' q' ∧ M q q') (ha : ∀ p p', M p p' → tru A p → tru A' p') {t p p' : Nat} (h : Run A E w t p) (hm : M p p') : Run A' E' w t p' := by
  have fr : ∀ {t p u r : Nat}, FR E w t p u r → Run A E w u r → ∀ p', M p p' → ∃ r', FR E' w t p' u r' ∧ M r r' := by
    intro t p u r h
    induction h with
    | refl => intro _ p' hm; exact ⟨p', .refl _ _, hm⟩
    | step h k ih =>
      intro hr p' hm
      obtain ⟨q', h1, h2⟩ := hs _ _ _ _ hm h (hr.before k)
      obtain ⟨r', h3, h4⟩ := ih hr q' h2
      exact ⟨r', .step h1 h3, h4⟩
  obtain ⟨C, hC, hG⟩ := h
  refine ⟨fun t p' => ∃ p, C t p ∧ M p p', ⟨p, hC, hm⟩, ?_⟩
  rintro t p' ⟨p, hC, hm⟩
  obtain ⟨u, q, h2, h3, h4, h5⟩ := hG t p hC
  obtain ⟨q', h6, h7⟩ := fr h3 ⟨C, h5, hG⟩ p' hm
  exact ⟨u, q', h2, h6, ha _ _ h7 h4, q, h5, h7⟩

/- in a finite graph one that can always go on comes back -/
theorem fin_cyc {T : Nat → Nat → Prop} (tr : ∀ x y z, T x y → T y z → T x z) (N : Nat) : ∀ (m : Nat) (D : Nat → Prop), (((List.range N).filter fun x => @decide (D x) (Classical.propDecidable _)).length ≤ m) → (∀ x, D x → x < N) → (∃ x, D x) → (∀ x, D x → ∃ y, D y ∧ T x y) → ∃ x, D x ∧ T x x := by
  intro m
  induction m with
  | zero =>
    rintro D hm hN ⟨x, hx⟩ _
    exfalso
    have : x ∈ (List.range N).filter fun x => @decide (D x) (Classical.propDecidable _) := by
      rw [List.mem_filter]
      exact ⟨List.mem_range.2 (hN x hx), by simpa using hx⟩
    have := List.length_pos_of_mem this
    omega
  | succ m ih =>
    rintro D hm hN ⟨x, hx⟩ hT
    by_cases hxx : T x x
    · exact ⟨x, hx, hxx⟩
    obtain ⟨y, hy, hxy⟩ := hT x hx
    obtain ⟨z, ⟨hz, _⟩, hzz⟩ := ih (fun y => D y ∧ T x y) (by
      have := filter_lt_of (p := fun y => @decide (D y ∧ T x y) (Classical.propDecidable _)) (q := fun y => @decide (D y) (Classical.propDecidable _)) (fun y hy => by
        simp only [decide_eq_true_eq] at hy ⊢
        exact hy.1) (l := List.range N) ⟨x, List.mem_range.2 (hN x hx), by simp [hxx], by simpa using hx⟩
      omega) (fun y hy => hN y hy.1) ⟨y, hy, hxy⟩ (fun z hz => by
        obtain ⟨v, h1, h2⟩ := hT z hz.1
        exact ⟨v, ⟨h1, tr _ _ _ hz.2 h2⟩, h2⟩)
    exact ⟨z, hz, hzz⟩
def Rch1 (E : Nat → Nat → Prop) (x y : Nat) : Prop := ∃ z, E x z ∧ Rch E z y
theorem Rch1.trans {E : Nat → Nat → Prop} {x y z : Nat} (h : Rch1 E x y) (k : Rch1 E y z) : Rch1 E x z := by
  obtain ⟨u, h1, h2⟩ := h
  obtain ⟨v, h3, h4⟩ := k
  exact ⟨u, h1, h2.trans (.step h3 h4)⟩
theorem Rch1.rch {E : Nat → Nat → Prop} {x y : Nat} (h : Rch1 E x y) : Rch E x y := by
  obtain ⟨u, h1, h2⟩ := h
  exact .step h1 h2
theorem fin_rch {E : Nat → Nat → Prop} {N : Nat} {D : Nat → Prop} (hN : ∀ x, D x → x < N) (h0 : ∃ x, D x) (hT : ∀ x, D x → ∃ y, D y ∧ Rch1 E x y) : ∃ x, D x ∧ Cyc E x :=
  fin_cyc (T := Rch1 E) (fun _ _ _ h k => Rch1.trans h k) N _ D (Nat.le_refl _) hN h0 hT

/- the product -/
/-- the edges of the product of an automaton and a lasso -/
def Aut.PE (a : Aut) (l : Las) (x y : Nat) : Prop := ∃ e ∈ a.edges, ∃ i, i < l.size ∧ x = i * a.acc.length + e.frm.toNat ∧ y = l.nx i * a.acc.length + e.to.toNat ∧ e.on (l.all.getD i 0) = true
/-- acceptance, by a search in the product -/
def Aut.Acc (a : Aut) (l : Las) : Prop := ∃ s : Nat, (s : Int) ∈ a.init ∧ ∃ x, Rch (a.PE l) s x ∧ Cyc (a.PE l) x ∧ tru a.acc (x % a.acc.length)
section
variable {a : Aut} {l : Las}
theorem Aut.Ok.tr (ha : a.Ok) {e : Tr} (he : e ∈ a.edges) : ∃ f g : Nat, e.frm = f ∧ e.to = g ∧ f < a.acc.length ∧ g < a.acc.length := by
  have := ha.2.2.2 e he
  unfold Tr.Ok at this
  exact ⟨e.frm.toNat, e.to.toNat, by omega, by omega, by omega, by omega⟩
theorem Aut.Ok.st (ha : a.Ok) {w : Nat → Int} {t p q : Nat} (h : StE a.edges w t p q) : p < a.acc.length ∧ q < a.acc.length := by
  obtain ⟨e, he, h1, h2, _⟩ := h
  obtain ⟨f, g, h3, h4, h5, h6⟩ := ha.tr he
  exact ⟨by omega, by omega⟩
theorem Aut.Ok.ini (ha : a.Ok) {s : Nat} (hs : (s : Int) ∈ a.init) : s < a.acc.length := by
  have := incr_mem ha.i _ hs
  omega
theorem PE.of (hl : 1 ≤ l.loop.length) {t p q : Nat} (h : StE a.edges l.word t p q) : a.PE l (l.pos t * a.acc.length + p) (l.pos (t + 1) * a.acc.length + q) := by
  obtain ⟨e, he, h1, h2, h3⟩ := h
  exact ⟨e, he, l.pos t, Las.pos_lt hl t, by rw [h1]; rfl, by rw [h2]; rfl, h3⟩
theorem PE.rch (hl : 1 ≤ l.loop.length) {t p u q : Nat} (h : FR a.edges l.word t p u q) : Rch (a.PE l) (l.pos t * a.acc.length + p) (l.pos u * a.acc.length + q) := by
  induction h with
  | refl => exact .refl _
  | step h _ ih => exact .step (PE.of hl h) ih
theorem PE.rch1 (hl : 1 ≤ l.loop.length) {t p u q : Nat} (h : FR a.edges l.word t p u q) (htu : t < u) : Rch1 (a.PE l) (l.pos t * a.acc.length + p) (l.pos u * a.acc.length + q) := by
  cases h with
  | refl => omega
  | step h k => exact ⟨_, PE.of hl h, PE.rch hl k⟩
theorem FR.lt (ha : a.Ok) {w : Nat → Int} {t p u q : Nat} (h : FR a.edges w t p u q) (hp : p < a.acc.length) : q < a.acc.length := by
  induction h with
  | refl => exact hp
  | step h _ ih => exact ih (ha.st h).2
end
/-- a state from which there is a run is live -/
theorem Run.live {a : Aut} (ha : a.Ok) {w : Nat → Int} {t p : Nat} (hp : p < a.acc.length) (h : Run a.acc a.edges w t p) : a.Live p := by
  have rch : ∀ {t p u q : Nat}, FR a.edges w t p u q → Rch a.E p q := by
    intro t p u q h
    induction h with
    | refl => exact .refl _
    | step h _ ih =>
      obtain ⟨e, he, h1, h2, _⟩ := h
      exact .step ⟨e, he, h1, h2⟩ ih
  have rch1 : ∀ {t p u q : Nat}, FR a.edges w t p u q → t < u → Rch1 a.E p q := by
    intro t p u q h hlt
    cases h with
    | refl => omega
    | step h k =>
      obtain ⟨e, he, h1, h2, _⟩ := h
      exact ⟨_, ⟨e, he, h1, h2⟩, rch k⟩
  obtain ⟨C, hC, hG⟩ := h
  obtain ⟨x, ⟨t, g1, g2, g3, g4⟩, hx⟩ := fin_rch (E := a.E) (N := a.acc.length) (D := fun x => ∃ t, C t x ∧ x < a.acc.length ∧ tru a.acc x ∧ Rch a.E p x)
    (by rintro x ⟨t, g1, g2, _⟩; exact g2)
    (by
      obtain ⟨u, q, h1, h2, h3, h4⟩ := hG t p hC
      exact ⟨q, u, h4, h2.lt ha hp, h3, rch h2⟩)
    (by
      rintro x ⟨t, g1, g2, g3, g4⟩
      obtain ⟨u, q, h1, h2, h3, h4⟩ := hG t x g1
      exact ⟨q, ⟨u, h4, h2.lt ha g2, h3, g4.trans (rch h2)⟩, rch1 h2 h1⟩)
  exact ⟨x, g4, hx, g3⟩
end Go.Proofs.Ytglnelcmcimljaa

/-
  Lassos and acceptance, by the program.
-/
namespace Go.Proofs.Ytglnelcmcimljaa
open Go
set_option linter.all false
set_option linter.unusedVariables false
set_option linter.unusedSimpArgs false
set_option linter.defProp false
set_option maxRecDepth 1000000

/-- rows of a graph, while edges are put in -/
structure GI (N B : Nat) (E : Nat → Nat → Prop) (G : List (List Int)) : Prop where
  len : G.length = N
  mem : ∀ x (hx : x < G.length) z, z ∈ G[x] ↔ ∃ y : Nat, z = y ∧ E x y
  row : ∀ x (hx : x < G.length), G[x].length ≤ B
theorem GI.zero {N : Nat} : GI N 0 (fun _ _ => False) (List.replicate N []) := ⟨by simp, by simp, by simp⟩
theorem GI.add {N B : Nat} {E : Nat → Nat → Prop} {G : List (List Int)} (h : GI N B E G) {f t : Nat} (hf : f < G.length) : GI N (B + 1) (fun x y => E x y ∨ (x = f ∧ y = t)) (G.set f (G[f] ++ [(t : Int)])) := by
  refine ⟨by simp [h.len], fun x hx z => ?_, fun x hx => ?_⟩
  · simp only [List.length_set] at hx
    rw [List.getElem_set]
    split
    · rename_i e
      subst e
      rw [List.mem_append, h.mem f hf z, List.mem_singleton]
      constructor
      · rintro (⟨y, h1, h2⟩ | h1)
        · exact ⟨y, h1, .inl h2⟩
        · exact ⟨t, h1, .inr ⟨rfl, rfl⟩⟩
      · rintro ⟨y, h1, h2 | ⟨_, h2⟩⟩
        · exact .inl ⟨y, h1, h2⟩
        · subst h2; exact .inr h1
    · rename_i e
      rw [h.mem x hx z]
      constructor
      · rintro ⟨y, h1, h2⟩; exact ⟨y, h1, .inl h2⟩
      · rintro ⟨y, h1, h2 | ⟨h2, _⟩⟩
        · exact ⟨y, h1, h2⟩
        · exact absurd h2.symm e
  · simp only [List.length_set] at hx
    rw [List.getElem_set]
    have h1 := h.row f hf
    have h2 := h.row x hx
    split
    · simp; omega
    · omega
theorem GI.congr {N B B' : Nat} {E E' : Nat → Nat → Prop} {G : List (List Int)} (h : GI N B E G) (hB : B ≤ B') (he : ∀ x y, E x y ↔ E' x y) : GI N B' E' G :=
  ⟨h.len, fun x hx z => by rw [h.mem x hx z]; exact ⟨fun ⟨y, h1, h2⟩ => ⟨y, h1, (he x y).1 h2⟩, fun ⟨y, h1, h2⟩ => ⟨y, h1, (he x y).2 h2⟩⟩, fun x hx => Nat.le_trans (h.row x hx) hB⟩
/-- the product, while edges are put in: all edges at the first positions, and the first edges at this one -/
def Aut.PK (a : Aut) (l : Las) (i k : Nat) (x y : Nat) : Prop := ∃ (m : Nat) (hm : m < a.edges.length) (j : Nat), j < l.size ∧ (j < i ∨ (j = i ∧ m < k)) ∧ x = j * a.acc.length + a.edges[m].frm.toNat ∧ y = l.nx j * a.acc.length + a.edges[m].to.toNat ∧ a.edges[m].on (l.all.getD j 0) = true
end Go.Proofs.Ytglnelcmcimljaa

/-
  Acceptance, by the program.
-/
namespace Go.Proofs.Ytglnelcmcimljaa
open Go
set_option linter.all false
set_option linter.unusedVariables false
set_option linter.unusedSimpArgs false
set_option linter.defProp false
set_option maxRecDepth 1000000

/-- what Accepts answers -/
noncomputable def Aut.accB (a : Aut) (l : Las) : Bool := @decide (a.Ok ∧ l.Ok ∧ a.Acc l) (Classical.propDecidable _)
end Go.Proofs.Ytglnelcmcimljaa

/-
  Plain laws: what simulations, unions, trimming and merging do to the language.
-/
namespace Go.Proofs.Ytglnelcmcimljaa
open Go
set_option linter.all false
set_option linter.unusedVariables false
set_option linter.unusedSimpArgs false
set_option linter.defProp false
set_option maxRecDepth 1000000

/- the greatest simulation is a preorder -/
theorem Great.refl {a : Aut} {R : Rl} (h : Great a R) {i : Nat} (hi : i < a.acc.length) : R i i = true := by
  refine h.upper (fun x y => decide (x = y)) ⟨?_, ?_⟩ i i hi hi (by simp)
  · intro x y _ _ hxy hx
    simp only [decide_eq_true_eq] at hxy
    subst hxy; exact hx
  · intro x y _ _ hxy l _ e he hx ho
    simp only [decide_eq_true_eq] at hxy
    subst hxy
    exact ⟨e, he, hx, ho, by simp⟩
theorem Great.trans {a : Aut} (ha : a.Ok) {R : Rl} (h : Great a R) {i j k : Nat} (hi : i < a.acc.length) (hj : j < a.acc.length) (hk : k < a.acc.length) (h1 : R i j = true) (h2 : R j k = true) : R i k = true := by
  refine h.upper (fun x z => @decide (∃ y, y < a.acc.length ∧ R x y = true ∧ R y z = true) (Classical.propDecidable _)) ⟨?_, ?_⟩ i k hi hk (by simpa using ⟨j, hj, h1, h2⟩)
  · intro x z hx hz hxz h3
    simp only [decide_eq_true_eq] at hxz
    obtain ⟨y, hy, h4, h5⟩ := hxz
    exact h.simu.1 y z hy hz h5 (h.simu.1 x y hx hy h4 h3)
  · intro x z hx hz hxz l hl e he h6 ho
    simp only [decide_eq_true_eq] at hxz
    obtain ⟨y, hy, h4, h5⟩ := hxz
    obtain ⟨f, hf, g1, g2, g3⟩ := h.simu.2 x y hx hy h4 l hl e he h6 ho
    obtain ⟨f', hf', k1, k2, k3⟩ := h.simu.2 y z hy hz h5 l hl f hf g1 g2
    obtain ⟨_, q, _, h8, _, h10⟩ := ha.tr hf
    refine ⟨f', hf', k1, k2, ?_⟩
    simp only [decide_eq_true_eq]
    exact ⟨f.to.toNat, by rw [h8]; simpa using h10, g3, k3⟩

def Letters (w : Nat → Int) : Prop := ∀ t, 0 ≤ w t ∧ w t ≤ 7
/-- a simulating state has all runs of a simulated one -/
theorem Simu.run {a : Aut} (ha : a.Ok) {R : Rl} (hR : Simu a R) {w : Nat → Int} (hw : Letters w) {t i j : Nat} (hi : i < a.acc.length) (hj : j < a.acc.length) (h : R i j = true) (k : Run a.acc a.edges w t i) : Run a.acc a.edges w t j := by
  refine Run.sim (fun x y => x < a.acc.length ∧ y < a.acc.length ∧ R x y = true) ?_ ?_ k ⟨hi, hj, h⟩
  · rintro t p q p' ⟨h1, h2, h3⟩ ⟨e, he, h4, h5, h6⟩ _
    have h7 := hw t
    obtain ⟨n, hn⟩ : ∃ n : Nat, w t = n := ⟨(w t).toNat, by omega⟩
    rw [hn] at h6 h7
    obtain ⟨f, hf, g1, g2, g3⟩ := hR.2 p p' h1 h2 h3 n (by omega) e he h4 h6
    obtain ⟨x, y, k1, k2, k3, k4⟩ := ha.tr he
    obtain ⟨x', y', k1', k2', k3', k4'⟩ := ha.tr hf
    refine ⟨y', ⟨f, hf, g1, k2', by rw [hn]; exact g2⟩, by omega, k4', ?_⟩
    rw [h5, k2'] at g3
    simpa using g3
  · rintro p p' ⟨h1, h2, h3⟩ h4
    exact hR.1 p p' h1 h2 h3 h4

/- unions -/
section
variable {a b : Aut}
end

/- trimming -/
theorem kidx_inj {K : Nat → Bool} {p q : Nat} (hp : K p = true) (hq : K q = true) (h : kidx K p = kidx K q) : p = q := by
  have lt : ∀ {p q : Nat}, K p = true → p < q → kidx K p < kidx K q := by
    intro p q hp hlt
    have h1 := kidx_succ (K := K) (q := p)
    rw [hp, if_pos rfl] at h1
    have h2 := kidx_mono (K := K) (show p + 1 ≤ q by omega)
    omega
  by_cases h1 : p < q
  · have := lt hp h1; omega
  by_cases h2 : q < p
  · have := lt hq h2; omega
  omega
theorem kept_at {K : Nat → Bool} {A : List Bool} : ∀ {n p : Nat}, p < n → K p = true → (((List.range n).filter K).map fun q => A.getD q false)[kidx K p]? = some (A.getD p false)
  | 0, p, h, _ => absurd h (Nat.not_lt_zero p)
  | n + 1, p, h, hK => by
    rw [List.range_succ, List.filter_append, List.map_append]
    by_cases hp : p = n
    · subst hp
      rw [List.getElem?_append_right (by simp [kidx])]
      simp [kidx, hK]
    · have h1 := kept_at (A := A) (show p < n by omega) hK
      rw [List.getElem?_append_left]
      · exact h1
      · obtain ⟨h2, _⟩ := List.getElem?_eq_some_iff.1 h1
        exact h2
section
variable {a : Aut} {K : Nat → Bool}
theorem kidx_pos {n p : Nat} (hp : p < n) (hK : K p = true) : kidx K n ≠ 0 := by
  have h1 := kidx_succ (K := K) (q := p)
  rw [hK, if_pos rfl] at h1
  have h2 := kidx_mono (K := K) (show p + 1 ≤ n by omega)
  omega
theorem keep_ini {s : Nat} (hs : s < a.acc.length) (hK : K s = true) (h : (s : Int) ∈ a.init) : ((kidx K s : Nat) : Int) ∈ (a.keep K).init := by
  rw [Aut.keep, if_neg (kidx_pos hs hK)]
  exact List.mem_map.2 ⟨s, List.mem_filter.2 ⟨h, by simpa using hK⟩, by simp [kout]⟩
theorem keep_ini' (ha : a.Ok) {x : Nat} (h : (x : Int) ∈ (a.keep K).init) : ∃ s : Nat, (s : Int) ∈ a.init ∧ K s = true ∧ x = kidx K s := by
  unfold Aut.keep at h
  split at h
  · simp at h
  · obtain ⟨i, hi, he⟩ := List.mem_map.1 h
    obtain ⟨h1, h2⟩ := List.mem_filter.1 hi
    have h3 := incr_mem ha.i _ h1
    exact ⟨i.toNat, by rw [Int.toNat_of_nonneg (by omega)]; exact h1, h2, by simp only [kout] at he; omega⟩
theorem keep_st {w : Nat → Int} {t p q : Nat} (hp : K p = true) (hq : K q = true) (hpn : p < a.acc.length) (h : StE a.edges w t p q) : StE (a.keep K).edges w t (kidx K p) (kidx K q) := by
  obtain ⟨e, he, h1, h2, h3⟩ := h
  rw [Aut.keep, if_neg (kidx_pos hpn hp)]
  exact ⟨_, List.mem_map.2 ⟨e, List.mem_filter.2 ⟨he, by simp [h1, h2, hp, hq]⟩, rfl⟩, by simp [Tr.ren, kout, h1], by simp [Tr.ren, kout, h2], h3⟩
theorem keep_st' (ha : a.Ok) {w : Nat → Int} {t p y : Nat} (hp : K p = true) (h : StE (a.keep K).edges w t (kidx K p) y) : ∃ q, K q = true ∧ q < a.acc.length ∧ y = kidx K q ∧ StE a.edges w t p q := by
  obtain ⟨e, he, h1, h2, h3⟩ := h
  unfold Aut.keep at he
  split at he
  · simp at he
  · obtain ⟨f, hf, rfl⟩ := List.mem_map.1 he
    obtain ⟨g1, g2⟩ := List.mem_filter.1 hf
    obtain ⟨x, z, k1, k2, k3, k4⟩ := ha.tr g1
    simp only [Tr.ren, kout, k1, k2, Int.toNat_natCast, Bool.and_eq_true] at h1 h2 g2
    have := kidx_inj g2.1 hp (by omega)
    subst this
    exact ⟨z, g2.2, k4, by omega, f, g1, k1, k2, h3⟩
theorem keep_tru {p : Nat} (hp : p < a.acc.length) (hK : K p = true) : tru (a.keep K).acc (kidx K p) ↔ tru a.acc p := by
  rw [Aut.keep, if_neg (kidx_pos hp hK)]
  unfold tru
  rw [List.getD_eq_getElem?_getD, kept_at hp hK]
  rfl
/-- trimming keeps the language -/
theorem trim_lang (ha : a.Ok) {w : Nat → Int} : a.trim.Lang w ↔ a.Lang w := by
  constructor
  · rintro ⟨x, hx, h⟩
    obtain ⟨s, h1, h2, rfl⟩ := keep_ini' ha hx
    refine ⟨s, h1, Run.sim (fun x p => a.tkeep p = true ∧ p < a.acc.length ∧ x = kidx a.tkeep p) ?_ ?_ h ⟨h2, ha.ini h1, rfl⟩⟩
    · rintro t x y p ⟨g1, g2, rfl⟩ g3 _
      obtain ⟨q, k1, k2, k3, k4⟩ := keep_st' ha g1 g3
      exact ⟨q, k4, k1, k2, k3⟩
    · rintro x p ⟨g1, g2, rfl⟩ g3
      exact (keep_tru g2 g1).1 g3
  · rintro ⟨s, hs, h⟩
    have hs' := ha.ini hs
    have hK : a.tkeep s = true := Aut.tkeep_iff.2 ⟨⟨s, hs, .refl _⟩, Run.live ha hs' h⟩
    refine ⟨_, keep_ini hs' hK hs, Run.sim (fun p x => a.tkeep p = true ∧ p < a.acc.length ∧ x = kidx a.tkeep p) ?_ ?_ h ⟨hK, hs', rfl⟩⟩
    · rintro t p q x ⟨g1, g2, rfl⟩ g3 g4
      have hq := (ha.st g3).2
      have hKq : a.tkeep q = true := by
        obtain ⟨⟨s', h1, h2⟩, _⟩ := Aut.tkeep_iff.1 g1
        obtain ⟨e, he, k1, k2, _⟩ := g3
        exact Aut.tkeep_iff.2 ⟨⟨s', h1, h2.snoc ⟨e, he, k1, k2⟩⟩, Run.live ha hq g4⟩
      exact ⟨_, keep_st g1 hKq g2 g3, hKq, hq, rfl⟩
    · rintro p x ⟨g1, g2, rfl⟩ g3
      exact (keep_tru g2 g1).2 g3
end
end Go.Proofs.Ytglnelcmcimljaa

/-
  Bodies of functions in the small language, as a program printed them, and that each is what the translation gives.
-/
namespace Go.Proofs.Ytglnelcmcimljaa
open Go
set_option linter.all false
set_option linter.defProp false
set_option maxRecDepth 1000000

def H_impl_SimulationRelation : Hint := ⟨[(0, false), (1, true), (2, false), (3, false), (4, false), (5, false), (6, false), (7, false), (16, false), (17, false), (18, false), (34, false), (35, false)], [[0, 2, 3, 5, 6, 7, 11, 12], [0, 2, 3, 7]]⟩
def K12_1 : C := .seq (.pl <| .st (.ext 13 1) <|
    .st (.act none (.px (some 13) (.mv (.v 4)))) <|
    .st (.act none (.px (some 2) (.mv (.v 13)))) <|
    .st (.act none (.px (some 3) (.mv (.c (.bool true))))) .done) (.ret)
@[simp] def W12_1 := @C.wpe _ _ K12_1.eq_1
def K12_2 : C := .pl <| .st (.ext 13 1) <|
    .st (.act none (.px (some 13) (.bin .add (.v 10) (.c (.int .i64 1))))) <|
    .st (.act none (.px (some 10) (.mv (.v 13)))) .done
@[simp] def W12_2 := @C.wpe _ _ K12_2.eq_1
def K12_3 : C := .pl <| .st (.ext 13 1) <|
    .st (.act none (.px (some 13) (.bin .add (.v 12) (.c (.int .i64 1))))) <|
    .st (.act none (.px (some 12) (.mv (.v 13)))) .done
@[simp] def W12_3 := @C.wpe _ _ K12_3.eq_1
def K12_4 : C := .pl <| .st (.ext 13 11) <|
    .st (.act none (.px (some 13) (.mv (.v 4)))) <|
    .st (.act none (.px (some 14) (.mv (.v 5)))) <|
    .st (.act none (.px (some 15) (.ia 1 (.v 13) (.v 14)))) <|
    .st (.act none (.ld (some 16) (.v 15) none)) <|
    .st (.act none (.px (some 17) (.mv (.v 7)))) <|
    .st (.act none (.px (some 18) (.mv (.v 6)))) <|
    .st (.act none (.px (some 19) (.mv (.v 7)))) <|
    .st (.act none (.px (some 20) (.bin .shr (.v 18) (.v 19)))) <|
    .st (.act none (.px (some 21) (.bin .and (.v 20) (.c (.int .u64 1))))) <|
    .st (.act none (.px (some 22) (.bin .eql (.v 21) (.c (.int .u64 1))))) <|
    .st (.act none (.px (some 23) (.ia 1 (.v 16) (.v 17)))) <|
    .st (.act none (.ex none (.store 1 (.v 23) (.v 22)))) .done
@[simp] def W12_4 := @C.wpe _ _ K12_4.eq_1
def K12_5 : C := .seq (.block 3 (.seq (.pl <| .st (.ext 13 1) <|
    .st (.act none (.px (some 13) (.mv (.v 12)))) <|
    .st (.act none (.px (some 7) (.mv (.v 13)))) .done) K12_4)) K12_3
@[simp] def W12_5 := @C.wpe _ _ K12_5.eq_1
def K12_6 : C := .seq (.cond 13 (.v 13) (.skip) (.exit 2)) K12_5
@[simp] def W12_6 := @C.wpe _ _ K12_6.eq_1
def K12_7 : C := .seq (.pl <| .st (.ext 13 1) <|
    .st (.act none (.px (some 13) (.bin .lss (.v 12) (.v 11)))) .done) K12_6
@[simp] def W12_7 := @C.wpe _ _ K12_7.eq_1
def K12_8 : C := .block 2 (.loop 13 [0, 2, 3, 7] K12_7)
@[simp] def W12_8 := @C.wpe _ _ K12_8.eq_1
def K12_9 : C := .seq (.pl <| .st (.ext 13 4) <|
    .st (.act none (.px (some 13) (.mv (.v 4)))) <|
    .st (.act none (.px (some 14) (.mv (.v 5)))) <|
    .st (.act none (.px (some 15) (.ia 1 (.v 13) (.v 14)))) <|
    .st (.act none (.ld (some 16) (.v 15) none)) <|
    .st (.act none (.px (some 11) (.lenV (.v 16)))) <|
    .st (.act none (.px (some 12) (.mv (.c (.int .i64 0))))) .done) K12_8
@[simp] def W12_9 := @C.wpe _ _ K12_9.eq_1
def K12_10 : Pl := .st (.act none (.px (some 19) (.ia 1 (.v 13) (.v 14)))) <|
    .st (.act none (.ex none (.store 1 (.v 19) (.v 18)))) .done
@[simp] def W12_10 := @Pl.wpe _ _ K12_10.eq_1
def K12_11 : C := .seq (.pl <| .st (.ext 13 7) <|
    .st (.act none (.px (some 13) (.mv (.v 4)))) <|
    .st (.act none (.px (some 14) (.mv (.v 5)))) <|
    .st (.act none (.als 15 none 1)) <|
    .st (.act none (.pget (some 16) (some 15) 1 1 none)) <|
    .st (.act none (.px (some 17) (.lenV (.v 16)))) <|
    .st (.act none (.ex (some 18) (.mks 1 1 [.bool false] (.v 17) (.v 17)))) K12_10) K12_9
@[simp] def W12_11 := @C.wpe _ _ K12_11.eq_1
def K12_12 : C := .seq (.block 1 (.seq (.pl <| .st (.ext 13 3) <|
    .st (.act none (.px (some 13) (.mv (.v 10)))) <|
    .st (.act none (.px (some 14) (.ia 1 (.v 8) (.v 10)))) <|
    .st (.act none (.ld (some 15) (.v 14) none)) <|
    .st (.act none (.px (some 5) (.mv (.v 13)))) <|
    .st (.act none (.px (some 6) (.mv (.v 15)))) .done) K12_11)) K12_2
@[simp] def W12_12 := @C.wpe _ _ K12_12.eq_1
def K12_13 : C := .seq (.cond 13 (.v 13) (.skip) (.exit 0)) K12_12
@[simp] def W12_13 := @C.wpe _ _ K12_13.eq_1
def K12_14 : C := .seq (.pl <| .st (.ext 13 1) <|
    .st (.act none (.px (some 13) (.bin .lss (.v 10) (.v 9)))) .done) K12_13
@[simp] def W12_14 := @C.wpe _ _ K12_14.eq_1
def K12_15 : C := .block 0 (.loop 13 [0, 2, 3, 5, 6, 7, 11, 12] K12_14)
@[simp] def W12_15 := @C.wpe _ _ K12_15.eq_1
def K12_16 : Pl := .st (.act none (.px (some 9) (.lenV (.v 8)))) <|
    .st (.act none (.px (some 10) (.mv (.c (.int .i64 0))))) .done
@[simp] def W12_16 := @Pl.wpe _ _ K12_16.eq_1
def K12_17 : C := .seq (.seq (.pl <| .st (.ext 13 1) <|
    .st (.act none (.pget (some 13) none 1 0 (some 3))) <|
    .st (.act none (.ex (some 8) (.call fn_impl_Automaton_simulation [.v 13]))) K12_16) K12_15) K12_1
@[simp] def W12_17 := @C.wpe _ _ K12_17.eq_1
def K12_18 : Pl := .st (.act none (.px (some 4) (.mv (.v 16)))) .done
@[simp] def W12_18 := @Pl.wpe _ _ K12_18.eq_1
def K12_19 : C := .seq (.pl <| .st (.ext 13 4) <|
    .st (.act none (.als 13 none 1)) <|
    .st (.act none (.pget (some 14) (some 13) 1 1 none)) <|
    .st (.act none (.px (some 15) (.lenV (.v 14)))) <|
    .st (.act none (.ex (some 16) (.mks 24 1 [.slice none 0 0] (.v 15) (.v 15)))) K12_18) K12_17
@[simp] def W12_19 := @C.wpe _ _ K12_19.eq_1
def K12_20 : C := .seq (.pl <| .st (.ext 13 0) <|
    .st (.act none (.px (some 2) (.mv (.c (.slice none 0 0))))) <|
    .st (.act none (.px (some 3) (.mv (.c (.bool false))))) .done) (.ret)
@[simp] def W12_20 := @C.wpe _ _ K12_20.eq_1
def K12_21 : C := .cond 13 (.v 15) K12_20 (.skip)
@[simp] def W12_21 := @C.wpe _ _ K12_21.eq_1
def K12_22 : Pl := .st (.act none (.px (some 15) (.un .not (.v 14)))) .done
@[simp] def W12_22 := @Pl.wpe _ _ K12_22.eq_1
def K12_23 : C := .seq (.seq (.pl <| .st (.ext 13 3) <|
    .st (.act none (.pget (some 13) none 1 0 (some 3))) <|
    .st (.act none (.ex (some 14) (.call fn_impl_AutomatonValid [.v 13]))) K12_22) K12_21) K12_19
@[simp] def W12_23 := @C.wpe _ _ K12_23.eq_1
def B_impl_SimulationRelation : C := .seq (.pl <| .st (.ext 13 0) <|
    .st (.act none (.pnew 1 (.v 0) [])) <|
    .st (.act none (.px (some 2) (.mv (.c (.slice none 0 0))))) <|
    .st (.act none (.px (some 3) (.mv (.c (.bool false))))) .done) K12_23
@[simp] def WB_impl_SimulationRelation := @C.wpe _ _ B_impl_SimulationRelation.eq_1
def R_impl_SimulationRelation : FIR := ⟨B_impl_SimulationRelation, 13, [(2, none), (3, none)]⟩
theorem IR_impl_SimulationRelation : cfun Try.prog H_impl_SimulationRelation Try.f12 = some R_impl_SimulationRelation := by kernel_rfl
theorem EN_impl_SimulationRelation {args : List Value} {h : Heap} {k : Value → Heap → Prop} (hargs : args.length = 1) (hw : B_impl_SimulationRelation.wp Try.prog (retQ [(2, none), (3, none)] k) (env0 args 13) h) : CallE Try.prog fn_impl_SimulationRelation args h k := enter Try.func12 rfl IR_impl_SimulationRelation hargs hw


end Go.Proofs.Ytglnelcmcimljaa

/-
  Bodies of functions in the small language, as a program printed them, and that each is what the translation gives.
-/
namespace Go.Proofs.Ytglnelcmcimljaa
open Go
set_option linter.all false
set_option linter.defProp false
set_option maxRecDepth 1000000

def H_impl_Automaton_simulation : Hint := ⟨[(0, false), (1, true), (2, false), (3, false), (4, false), (6, true), (7, false), (8, false), (9, false), (10, false), (11, false), (12, false), (13, false), (14, false), (21, false), (22, false), (23, false), (27, false), (51, false), (52, false), (55, false), (56, false), (84, false), (85, false), (88, false), (89, false)], [[0, 2, 5, 6, 7, 8, 9, 10, 11, 12, 13, 17, 18, 19, 20, 21, 22, 23, 24, 25], [0, 2, 6, 7, 8, 9, 10, 11, 12, 13, 18, 19, 20, 21, 22, 23, 24, 25], [0, 2, 5, 6, 8, 9, 10, 11, 12, 13, 14, 15, 16, 17, 20, 21, 22, 23, 24, 25], [0, 2, 5, 6, 9, 10, 11, 12, 13, 14, 15, 16, 17, 22, 23, 24, 25], [0, 1, 2, 4, 5, 6, 8, 9, 12, 13, 14, 15, 16, 17, 18, 19, 20, 21, 22, 23, 24, 25], [0, 1, 2, 4, 5, 6, 8, 9, 12, 13, 14, 15, 16, 17, 18, 19, 20, 21, 24, 25], [0, 1, 2, 4, 5, 6, 8, 9, 13, 14, 15, 16, 17, 18, 19, 20, 21]]⟩
def K47_1 : C := .seq (.pl <| .st (.ext 26 1) <|
    .st (.act none (.ld (some 26) (.v 7) none)) <|
    .st (.act none (.px (some 2) (.mv (.v 26)))) .done) (.ret)
@[simp] def W47_1 := @C.wpe _ _ K47_1.eq_1
def K47_2 : C := .pl <| .st (.ext 26 1) <|
    .st (.act none (.px (some 26) (.bin .add (.v 23) (.c (.int .i64 1))))) <|
    .st (.act none (.px (some 23) (.mv (.v 26)))) .done
@[simp] def W47_2 := @C.wpe _ _ K47_2.eq_1
def K47_3 : C := .pl <| .st (.ext 26 1) <|
    .st (.act none (.px (some 26) (.bin .add (.v 25) (.c (.int .i64 1))))) <|
    .st (.act none (.px (some 25) (.mv (.v 26)))) .done
@[simp] def W47_3 := @C.wpe _ _ K47_3.eq_1
def K47_4 : C := .pl <| .st (.ext 26 0) <|
    .st (.act none (.px (some 11) (.mv (.c (.bool true))))) .done
@[simp] def W47_4 := @C.wpe _ _ K47_4.eq_1
def K47_5 : C := .seq (.pl <| .st (.ext 26 8) <|
    .st (.act none (.ld (some 26) (.v 7) none)) <|
    .st (.act none (.px (some 27) (.mv (.v 12)))) <|
    .st (.act none (.px (some 28) (.ia 1 (.v 26) (.v 27)))) <|
    .st (.act none (.ld (some 29) (.v 28) none)) <|
    .st (.act none (.px (some 30) (.mv (.v 13)))) <|
    .st (.act none (.px (some 31) (.bin .shl (.c (.int .u64 1)) (.v 30)))) <|
    .st (.act none (.px (some 32) (.bin .andNot (.v 29) (.v 31)))) <|
    .st (.act none (.px (some 33) (.ia 1 (.v 26) (.v 27)))) <|
    .st (.act none (.ex none (.store 1 (.v 33) (.v 32)))) .done) K47_4
@[simp] def W47_5 := @C.wpe _ _ K47_5.eq_1
def K47_6 : C := .cond 26 (.v 40) K47_5 (.skip)
@[simp] def W47_6 := @C.wpe _ _ K47_6.eq_1
def K47_7 : Pl := .st (.act (some (.v 34, true)) (.px (some 39) (.un .not (.v 38)))) <|
    .st (.act none (.px (some 40) (.pick (.v 34) (.v 39) (.c (.bool false))))) .done
@[simp] def W47_7 := @Pl.wpe _ _ K47_7.eq_1
def K47_8 : C := .seq (.pl <| .st (.ext 26 15) <|
    .st (.act none (.ld (some 26) (.v 7) none)) <|
    .st (.act none (.px (some 27) (.mv (.v 12)))) <|
    .st (.act none (.px (some 28) (.ia 1 (.v 26) (.v 27)))) <|
    .st (.act none (.ld (some 29) (.v 28) none)) <|
    .st (.act none (.px (some 30) (.mv (.v 13)))) <|
    .st (.act none (.px (some 31) (.bin .shr (.v 29) (.v 30)))) <|
    .st (.act none (.px (some 32) (.bin .and (.v 31) (.c (.int .u64 1))))) <|
    .st (.act none (.px (some 33) (.bin .eql (.v 32) (.c (.int .u64 1))))) <|
    .st (.act none (.px (some 34) (.mv (.v 33)))) <|
    .st (.act (some (.v 34, true)) (.px (some 35) (.mv (.v 10)))) <|
    .st (.act (some (.v 34, true)) (.px (some 36) (.mv (.v 13)))) <|
    .st (.act (some (.v 34, true)) (.px (some 37) (.mv (.v 12)))) <|
    .st (.act (some (.v 34, true)) (.ex (some 38) (.callv (.v 35) [.v 36, .v 37]))) K47_7) K47_6
@[simp] def W47_8 := @C.wpe _ _ K47_8.eq_1
def K47_9 : C := .seq (.block 13 (.seq (.pl <| .st (.ext 26 1) <|
    .st (.act none (.px (some 26) (.mv (.v 25)))) <|
    .st (.act none (.px (some 13) (.mv (.v 26)))) .done) K47_8)) K47_3
@[simp] def W47_9 := @C.wpe _ _ K47_9.eq_1
def K47_10 : C := .seq (.cond 26 (.v 26) (.skip) (.exit 12)) K47_9
@[simp] def W47_10 := @C.wpe _ _ K47_10.eq_1
def K47_11 : C := .seq (.pl <| .st (.ext 26 1) <|
    .st (.act none (.px (some 26) (.bin .lss (.v 25) (.v 24)))) .done) K47_10
@[simp] def W47_11 := @C.wpe _ _ K47_11.eq_1
def K47_12 : C := .block 12 (.loop 26 [0, 1, 2, 4, 5, 6, 8, 9, 13, 14, 15, 16, 17, 18, 19, 20, 21] K47_11)
@[simp] def W47_12 := @C.wpe _ _ K47_12.eq_1
def K47_13 : C := .seq (.pl <| .st (.ext 26 0) <|
    .st (.act none (.ld (some 24) (.v 3) none)) <|
    .st (.act none (.px (some 25) (.mv (.c (.int .i64 0))))) .done) K47_12
@[simp] def W47_13 := @C.wpe _ _ K47_13.eq_1
def K47_14 : C := .seq (.block 11 (.seq (.pl <| .st (.ext 26 1) <|
    .st (.act none (.px (some 26) (.mv (.v 23)))) <|
    .st (.act none (.px (some 12) (.mv (.v 26)))) .done) K47_13)) K47_2
@[simp] def W47_14 := @C.wpe _ _ K47_14.eq_1
def K47_15 : C := .seq (.cond 26 (.v 26) (.skip) (.exit 10)) K47_14
@[simp] def W47_15 := @C.wpe _ _ K47_15.eq_1
def K47_16 : C := .seq (.pl <| .st (.ext 26 1) <|
    .st (.act none (.px (some 26) (.bin .lss (.v 23) (.v 22)))) .done) K47_15
@[simp] def W47_16 := @C.wpe _ _ K47_16.eq_1
def K47_17 : C := .block 10 (.loop 26 [0, 1, 2, 4, 5, 6, 8, 9, 12, 13, 14, 15, 16, 17, 18, 19, 20, 21, 24, 25] K47_16)
@[simp] def W47_17 := @C.wpe _ _ K47_17.eq_1
def K47_18 : C := .seq (.pl <| .st (.ext 26 0) <|
    .st (.act none (.ld (some 22) (.v 3) none)) <|
    .st (.act none (.px (some 23) (.mv (.c (.int .i64 0))))) .done) K47_17
@[simp] def W47_18 := @C.wpe _ _ K47_18.eq_1
def K47_19 : C := .block 9 (.seq (.pl <| .st (.ext 26 0) <|
    .st (.act none (.px (some 11) (.mv (.c (.bool false))))) .done) K47_18)
@[simp] def W47_19 := @C.wpe _ _ K47_19.eq_1
def K47_20 : C := .cond 26 (.v 26) (.skip) (.exit 8)
@[simp] def W47_20 := @C.wpe _ _ K47_20.eq_1
def K47_21 : C := .seq (.seq (.pl <| .st (.ext 26 1) <|
    .st (.act none (.px (some 26) (.mv (.v 11)))) .done) K47_20) K47_19
@[simp] def W47_21 := @C.wpe _ _ K47_21.eq_1
def K47_22 : C := .block 8 (.loop 26 [0, 1, 2, 4, 5, 6, 8, 9, 12, 13, 14, 15, 16, 17, 18, 19, 20, 21, 22, 23, 24, 25] K47_21)
@[simp] def W47_22 := @C.wpe _ _ K47_22.eq_1
def K47_23 : C := .seq (.seq (.pl <| .st (.ext 26 0) <|
    .st (.act none (.px (some 11) (.mv (.c (.bool true))))) .done) K47_22) K47_1
@[simp] def W47_23 := @C.wpe _ _ K47_23.eq_1
def K47_24 : C := .seq (.pl <| .st (.ext 26 1) <|
    .st (.act none (.px (some 26) (.mkf (.func fn_impl_Automaton_simulation_1) [] [.v 3, .v 4, .v 7]))) <|
    .st (.act none (.px (some 10) (.mv (.v 26)))) .done) K47_23
@[simp] def W47_24 := @C.wpe _ _ K47_24.eq_1
def K47_25 : C := .pl <| .st (.ext 26 1) <|
    .st (.act none (.px (some 26) (.bin .add (.v 19) (.c (.int .i64 1))))) <|
    .st (.act none (.px (some 19) (.mv (.v 26)))) .done
@[simp] def W47_25 := @C.wpe _ _ K47_25.eq_1
def K47_26 : C := .pl <| .st (.ext 26 1) <|
    .st (.act none (.px (some 26) (.bin .add (.v 21) (.c (.int .i64 1))))) <|
    .st (.act none (.px (some 21) (.mv (.v 26)))) .done
@[simp] def W47_26 := @C.wpe _ _ K47_26.eq_1
def K47_27 : C := .pl <| .st (.ext 26 8) <|
    .st (.act none (.ld (some 26) (.v 7) none)) <|
    .st (.act none (.px (some 27) (.mv (.v 8)))) <|
    .st (.act none (.px (some 28) (.ia 1 (.v 26) (.v 27)))) <|
    .st (.act none (.ld (some 29) (.v 28) none)) <|
    .st (.act none (.px (some 30) (.mv (.v 9)))) <|
    .st (.act none (.px (some 31) (.bin .shl (.c (.int .u64 1)) (.v 30)))) <|
    .st (.act none (.px (some 32) (.bin .or (.v 29) (.v 31)))) <|
    .st (.act none (.px (some 33) (.ia 1 (.v 26) (.v 27)))) <|
    .st (.act none (.ex none (.store 1 (.v 33) (.v 32)))) .done
@[simp] def W47_27 := @C.wpe _ _ K47_27.eq_1
def K47_28 : C := .cond 26 (.v 38) K47_27 (.skip)
@[simp] def W47_28 := @C.wpe _ _ K47_28.eq_1
def K47_29 : C := .seq (.pl <| .st (.ext 26 13) <|
    .st (.act none (.als 26 none 1)) <|
    .st (.act none (.pget (some 27) (some 26) 1 1 none)) <|
    .st (.act none (.px (some 28) (.mv (.v 9)))) <|
    .st (.act none (.px (some 29) (.ia 1 (.v 27) (.v 28)))) <|
    .st (.act none (.ld (some 30) (.v 29) none)) <|
    .st (.act none (.px (some 31) (.mv (.v 30)))) <|
    .st (.act (some (.v 31, false)) (.als 32 none 1)) <|
    .st (.act (some (.v 31, false)) (.pget (some 33) (some 32) 1 1 none)) <|
    .st (.act (some (.v 31, false)) (.px (some 34) (.mv (.v 8)))) <|
    .st (.act (some (.v 31, false)) (.px (some 35) (.ia 1 (.v 33) (.v 34)))) <|
    .st (.act (some (.v 31, false)) (.ld (some 36) (.v 35) none)) <|
    .st (.act (some (.v 31, false)) (.px (some 37) (.un .not (.v 36)))) <|
    .st (.act none (.px (some 38) (.pick (.v 31) (.c (.bool true)) (.v 37)))) .done) K47_28
@[simp] def W47_29 := @C.wpe _ _ K47_29.eq_1
def K47_30 : C := .seq (.block 7 (.seq (.pl <| .st (.ext 26 1) <|
    .st (.act none (.px (some 26) (.mv (.v 21)))) <|
    .st (.act none (.px (some 9) (.mv (.v 26)))) .done) K47_29)) K47_26
@[simp] def W47_30 := @C.wpe _ _ K47_30.eq_1
def K47_31 : C := .seq (.cond 26 (.v 26) (.skip) (.exit 6)) K47_30
@[simp] def W47_31 := @C.wpe _ _ K47_31.eq_1
def K47_32 : C := .seq (.pl <| .st (.ext 26 1) <|
    .st (.act none (.px (some 26) (.bin .lss (.v 21) (.v 20)))) .done) K47_31
@[simp] def W47_32 := @C.wpe _ _ K47_32.eq_1
def K47_33 : C := .block 6 (.loop 26 [0, 2, 5, 6, 9, 10, 11, 12, 13, 14, 15, 16, 17, 22, 23, 24, 25] K47_32)
@[simp] def W47_33 := @C.wpe _ _ K47_33.eq_1
def K47_34 : C := .seq (.pl <| .st (.ext 26 0) <|
    .st (.act none (.ld (some 20) (.v 3) none)) <|
    .st (.act none (.px (some 21) (.mv (.c (.int .i64 0))))) .done) K47_33
@[simp] def W47_34 := @C.wpe _ _ K47_34.eq_1
def K47_35 : C := .seq (.block 5 (.seq (.pl <| .st (.ext 26 1) <|
    .st (.act none (.px (some 26) (.mv (.v 19)))) <|
    .st (.act none (.px (some 8) (.mv (.v 26)))) .done) K47_34)) K47_25
@[simp] def W47_35 := @C.wpe _ _ K47_35.eq_1
def K47_36 : C := .seq (.cond 26 (.v 26) (.skip) (.exit 4)) K47_35
@[simp] def W47_36 := @C.wpe _ _ K47_36.eq_1
def K47_37 : C := .seq (.pl <| .st (.ext 26 1) <|
    .st (.act none (.px (some 26) (.bin .lss (.v 19) (.v 18)))) .done) K47_36
@[simp] def W47_37 := @C.wpe _ _ K47_37.eq_1
def K47_38 : C := .block 4 (.loop 26 [0, 2, 5, 6, 8, 9, 10, 11, 12, 13, 14, 15, 16, 17, 20, 21, 22, 23, 24, 25] K47_37)
@[simp] def W47_38 := @C.wpe _ _ K47_38.eq_1
def K47_39 : C := .seq (.seq (.pl <| .st (.ext 26 1) <|
    .st (.act none (.ld (some 26) (.v 7) none)) <|
    .st (.act none (.px (some 18) (.lenV (.v 26)))) <|
    .st (.act none (.px (some 19) (.mv (.c (.int .i64 0))))) .done) K47_38) K47_24
@[simp] def W47_39 := @C.wpe _ _ K47_39.eq_1
def K47_40 : Pl := .st (.act none (.ex none (.store 1 (.v 7) (.v 27)))) .done
@[simp] def W47_40 := @Pl.wpe _ _ K47_40.eq_1
def K47_41 : Pl := .st (.act none (.ex (some 7) (.alloc (.c (.slice none 0 0))))) K47_40
@[simp] def W47_41 := @Pl.wpe _ _ K47_41.eq_1
def K47_42 : C := .seq (.pl <| .st (.ext 26 2) <|
    .st (.act none (.ld (some 26) (.v 3) none)) <|
    .st (.act none (.ex (some 27) (.mks 8 1 [.int .u64 0] (.v 26) (.v 26)))) K47_41) K47_39
@[simp] def W47_42 := @C.wpe _ _ K47_42.eq_1
def K47_43 : C := .pl <| .st (.ext 26 1) <|
    .st (.act none (.px (some 26) (.bin .add (.v 16) (.c (.int .i64 1))))) <|
    .st (.act none (.px (some 16) (.mv (.v 26)))) .done
@[simp] def W47_43 := @C.wpe _ _ K47_43.eq_1
def K47_44 : C := .pl <| .st (.ext 26 1) <|
    .st (.act none (.px (some 26) (.bin .add (.v 17) (.c (.int .i64 1))))) <|
    .st (.act none (.px (some 17) (.mv (.v 26)))) .done
@[simp] def W47_44 := @C.wpe _ _ K47_44.eq_1
def K47_45 : C := .pl <| .st (.ext 26 13) <|
    .st (.act none (.ld (some 26) (.v 4) none)) <|
    .st (.act none (.als 27 none 5)) <|
    .st (.act none (.pget (some 28) (some 27) 5 0 none)) <|
    .st (.act none (.px (some 29) (.mv (.v 6)))) <|
    .st (.act none (.px (some 30) (.ia 8 (.v 26) (.v 28)))) <|
    .st (.act none (.px (some 31) (.iaA 8 1 (.v 30) (.v 29)))) <|
    .st (.act none (.ld (some 32) (.v 31) none)) <|
    .st (.act none (.als 33 none 5)) <|
    .st (.act none (.pget (some 34) (some 33) 5 3 none)) <|
    .st (.act none (.px (some 35) (.bin .shl (.c (.int .u64 1)) (.v 34)))) <|
    .st (.act none (.px (some 36) (.bin .or (.v 32) (.v 35)))) <|
    .st (.act none (.px (some 37) (.ia 8 (.v 26) (.v 28)))) <|
    .st (.act none (.px (some 38) (.iaA 8 1 (.v 37) (.v 29)))) <|
    .st (.act none (.ex none (.store 1 (.v 38) (.v 36)))) .done
@[simp] def W47_45 := @C.wpe _ _ K47_45.eq_1
def K47_46 : C := .cond 26 (.v 28) K47_45 (.skip)
@[simp] def W47_46 := @C.wpe _ _ K47_46.eq_1
def K47_47 : C := .seq (.pl <| .st (.ext 26 3) <|
    .st (.act none (.pget (some 26) none 5 0 (some 4))) <|
    .st (.act none (.px (some 27) (.mv (.v 6)))) <|
    .st (.act none (.ex (some 28) (.call fn_impl_Transition_takes [.v 26, .v 27]))) .done) K47_46
@[simp] def W47_47 := @C.wpe _ _ K47_47.eq_1
def K47_48 : C := .seq (.block 3 (.seq (.pl <| .st (.ext 26 1) <|
    .st (.act none (.px (some 26) (.mv (.v 17)))) <|
    .st (.act none (.px (some 6) (.mv (.v 26)))) .done) K47_47)) K47_44
@[simp] def W47_48 := @C.wpe _ _ K47_48.eq_1
def K47_49 : C := .seq (.cond 26 (.v 26) (.skip) (.exit 2)) K47_48
@[simp] def W47_49 := @C.wpe _ _ K47_49.eq_1
def K47_50 : C := .seq (.pl <| .st (.ext 26 1) <|
    .st (.act none (.px (some 26) (.bin .lss (.v 17) (.c (.int .i64 8))))) .done) K47_49
@[simp] def W47_50 := @C.wpe _ _ K47_50.eq_1
def K47_51 : C := .block 2 (.loop 26 [0, 2, 6, 7, 8, 9, 10, 11, 12, 13, 18, 19, 20, 21, 22, 23, 24, 25] K47_50)
@[simp] def W47_51 := @C.wpe _ _ K47_51.eq_1
def K47_52 : C := .seq (.pl <| .st (.ext 26 0) <|
    .st (.act none (.px (some 17) (.mv (.c (.int .i64 0))))) .done) K47_51
@[simp] def W47_52 := @C.wpe _ _ K47_52.eq_1
def K47_53 : C := .seq (.block 1 (.seq (.pl <| .st (.ext 26 2) <|
    .st (.act none (.px (some 26) (.ia 4 (.v 14) (.v 16)))) <|
    .st (.act none (.ld (some 27) (.v 26) (some 4))) <|
    .st (.act none (.pnew 5 (.c (.agg #[.int .i64 0, .int .i64 0, .int .i64 0, .int .i64 0])) [])) <|
    .st (.act none (.pset none 5 0 4 (.v 27))) .done) K47_52)) K47_43
@[simp] def W47_53 := @C.wpe _ _ K47_53.eq_1
def K47_54 : C := .seq (.cond 26 (.v 26) (.skip) (.exit 0)) K47_53
@[simp] def W47_54 := @C.wpe _ _ K47_54.eq_1
def K47_55 : C := .seq (.pl <| .st (.ext 26 1) <|
    .st (.act none (.px (some 26) (.bin .lss (.v 16) (.v 15)))) .done) K47_54
@[simp] def W47_55 := @C.wpe _ _ K47_55.eq_1
def K47_56 : C := .block 0 (.loop 26 [0, 2, 5, 6, 7, 8, 9, 10, 11, 12, 13, 17, 18, 19, 20, 21, 22, 23, 24, 25] K47_55)
@[simp] def W47_56 := @C.wpe _ _ K47_56.eq_1
def K47_57 : C := .seq (.seq (.pl <| .st (.ext 26 1) <|
    .st (.act none (.als 26 none 1)) <|
    .st (.act none (.pget (some 14) (some 26) 1 2 none)) <|
    .st (.act none (.px (some 15) (.lenV (.v 14)))) <|
    .st (.act none (.px (some 16) (.mv (.c (.int .i64 0))))) .done) K47_56) K47_42
@[simp] def W47_57 := @C.wpe _ _ K47_57.eq_1
def K47_58 : Pl := .st (.act none (.ex none (.store 1 (.v 4) (.v 27)))) .done
@[simp] def W47_58 := @Pl.wpe _ _ K47_58.eq_1
def K47_59 : Pl := .st (.act none (.ex (some 4) (.alloc (.c (.slice none 0 0))))) K47_58
@[simp] def W47_59 := @Pl.wpe _ _ K47_59.eq_1
def K47_60 : C := .seq (.pl <| .st (.ext 26 2) <|
    .st (.act none (.ld (some 26) (.v 3) none)) <|
    .st (.act none (.ex (some 27) (.mks 64 8 [.int .u64 0, .int .u64 0, .int .u64 0, .int .u64 0, .int .u64 0, .int .u64 0, .int .u64 0, .int .u64 0] (.v 26) (.v 26)))) K47_59) K47_57
@[simp] def W47_60 := @C.wpe _ _ K47_60.eq_1
def K47_61 : Pl := .st (.act none (.ex none (.store 1 (.v 3) (.v 28)))) .done
@[simp] def W47_61 := @Pl.wpe _ _ K47_61.eq_1
def K47_62 : C := .seq (.pl <| .st (.ext 26 3) <|
    .st (.act none (.als 26 none 1)) <|
    .st (.act none (.pget (some 27) (some 26) 1 1 none)) <|
    .st (.act none (.px (some 28) (.lenV (.v 27)))) <|
    .st (.act none (.ex (some 3) (.alloc (.c (.int .i64 0))))) K47_61) K47_60
@[simp] def W47_62 := @C.wpe _ _ K47_62.eq_1
def B_impl_Automaton_simulation : C := .seq (.pl <| .st (.ext 26 0) <|
    .st (.act none (.pnew 1 (.v 0) [])) <|
    .st (.act none (.px (some 2) (.mv (.c (.slice none 0 0))))) .done) K47_62
@[simp] def WB_impl_Automaton_simulation := @C.wpe _ _ B_impl_Automaton_simulation.eq_1
def R_impl_Automaton_simulation : FIR := ⟨B_impl_Automaton_simulation, 26, [(2, none)]⟩
theorem IR_impl_Automaton_simulation : cfun Try.prog H_impl_Automaton_simulation Try.f47 = some R_impl_Automaton_simulation := by kernel_rfl
theorem EN_impl_Automaton_simulation {args : List Value} {h : Heap} {k : Value → Heap → Prop} (hargs : args.length = 1) (hw : B_impl_Automaton_simulation.wp Try.prog (retQ [(2, none)] k) (env0 args 26) h) : CallE Try.prog fn_impl_Automaton_simulation args h k := enter Try.func47 rfl IR_impl_Automaton_simulation hargs hw

def H_impl_Automaton_simulation_1 : Hint := ⟨[(0, false), (1, false), (2, false), (3, false), (4, false), (7, false), (8, false), (9, false), (10, false), (13, false), (14, false)], [[5, 6, 7, 9, 10], [5, 7]]⟩
def K96_1 : C := .seq (.pl <| .st (.ext 11 0) <|
    .st (.act none (.px (some 5) (.mv (.c (.bool true))))) .done) (.ret)
@[simp] def W96_1 := @C.wpe _ _ K96_1.eq_1
def K96_2 : C := .pl <| .st (.ext 11 1) <|
    .st (.act none (.px (some 11) (.bin .add (.v 8) (.c (.int .i64 1))))) <|
    .st (.act none (.px (some 8) (.mv (.v 11)))) .done
@[simp] def W96_2 := @C.wpe _ _ K96_2.eq_1
def K96_3 : C := .pl <| .st (.ext 11 1) <|
    .st (.act none (.px (some 11) (.bin .add (.v 10) (.c (.int .i64 1))))) <|
    .st (.act none (.px (some 10) (.mv (.v 11)))) .done
@[simp] def W96_3 := @C.wpe _ _ K96_3.eq_1
def K96_4 : C := .seq (.pl <| .st (.ext 11 0) <|
    .st (.act none (.px (some 5) (.mv (.c (.bool false))))) .done) (.ret)
@[simp] def W96_4 := @C.wpe _ _ K96_4.eq_1
def K96_5 : C := .cond 11 (.v 34) K96_4 (.skip)
@[simp] def W96_5 := @C.wpe _ _ K96_5.eq_1
def K96_6 : C := .seq (.pl <| .st (.ext 11 24) <|
    .st (.act none (.ld (some 11) (.v 3) none)) <|
    .st (.act none (.px (some 12) (.mv (.v 1)))) <|
    .st (.act none (.px (some 13) (.mv (.v 6)))) <|
    .st (.act none (.px (some 14) (.ia 8 (.v 11) (.v 12)))) <|
    .st (.act none (.px (some 15) (.iaA 8 1 (.v 14) (.v 13)))) <|
    .st (.act none (.ld (some 16) (.v 15) none)) <|
    .st (.act none (.px (some 17) (.mv (.v 7)))) <|
    .st (.act none (.px (some 18) (.bin .shr (.v 16) (.v 17)))) <|
    .st (.act none (.px (some 19) (.bin .and (.v 18) (.c (.int .u64 1))))) <|
    .st (.act none (.px (some 20) (.bin .eql (.v 19) (.c (.int .u64 1))))) <|
    .st (.act none (.px (some 21) (.mv (.v 20)))) <|
    .st (.act (some (.v 21, true)) (.ld (some 22) (.v 3) none)) <|
    .st (.act (some (.v 21, true)) (.px (some 23) (.mv (.v 0)))) <|
    .st (.act (some (.v 21, true)) (.px (some 24) (.mv (.v 6)))) <|
    .st (.act (some (.v 21, true)) (.px (some 25) (.ia 8 (.v 22) (.v 23)))) <|
    .st (.act (some (.v 21, true)) (.px (some 26) (.iaA 8 1 (.v 25) (.v 24)))) <|
    .st (.act (some (.v 21, true)) (.ld (some 27) (.v 26) none)) <|
    .st (.act (some (.v 21, true)) (.ld (some 28) (.v 4) none)) <|
    .st (.act (some (.v 21, true)) (.px (some 29) (.mv (.v 7)))) <|
    .st (.act (some (.v 21, true)) (.px (some 30) (.ia 1 (.v 28) (.v 29)))) <|
    .st (.act (some (.v 21, true)) (.ld (some 31) (.v 30) none)) <|
    .st (.act (some (.v 21, true)) (.px (some 32) (.bin .and (.v 27) (.v 31)))) <|
    .st (.act (some (.v 21, true)) (.px (some 33) (.bin .eql (.v 32) (.c (.int .u64 0))))) <|
    .st (.act none (.px (some 34) (.pick (.v 21) (.v 33) (.c (.bool false))))) .done) K96_5
@[simp] def W96_6 := @C.wpe _ _ K96_6.eq_1
def K96_7 : C := .seq (.block 3 (.seq (.pl <| .st (.ext 11 1) <|
    .st (.act none (.px (some 11) (.mv (.v 10)))) <|
    .st (.act none (.px (some 7) (.mv (.v 11)))) .done) K96_6)) K96_3
@[simp] def W96_7 := @C.wpe _ _ K96_7.eq_1
def K96_8 : C := .seq (.cond 11 (.v 11) (.skip) (.exit 2)) K96_7
@[simp] def W96_8 := @C.wpe _ _ K96_8.eq_1
def K96_9 : C := .seq (.pl <| .st (.ext 11 1) <|
    .st (.act none (.px (some 11) (.bin .lss (.v 10) (.v 9)))) .done) K96_8
@[simp] def W96_9 := @C.wpe _ _ K96_9.eq_1
def K96_10 : C := .block 2 (.loop 11 [5, 7] K96_9)
@[simp] def W96_10 := @C.wpe _ _ K96_10.eq_1
def K96_11 : C := .seq (.pl <| .st (.ext 11 0) <|
    .st (.act none (.ld (some 9) (.v 2) none)) <|
    .st (.act none (.px (some 10) (.mv (.c (.int .i64 0))))) .done) K96_10
@[simp] def W96_11 := @C.wpe _ _ K96_11.eq_1
def K96_12 : C := .seq (.block 1 (.seq (.pl <| .st (.ext 11 1) <|
    .st (.act none (.px (some 11) (.mv (.v 8)))) <|
    .st (.act none (.px (some 6) (.mv (.v 11)))) .done) K96_11)) K96_2
@[simp] def W96_12 := @C.wpe _ _ K96_12.eq_1
def K96_13 : C := .seq (.cond 11 (.v 11) (.skip) (.exit 0)) K96_12
@[simp] def W96_13 := @C.wpe _ _ K96_13.eq_1
def K96_14 : C := .seq (.pl <| .st (.ext 11 1) <|
    .st (.act none (.px (some 11) (.bin .lss (.v 8) (.c (.int .i64 8))))) .done) K96_13
@[simp] def W96_14 := @C.wpe _ _ K96_14.eq_1
def K96_15 : C := .block 0 (.loop 11 [5, 6, 7, 9, 10] K96_14)
@[simp] def W96_15 := @C.wpe _ _ K96_15.eq_1
def K96_16 : C := .seq (.seq (.pl <| .st (.ext 11 0) <|
    .st (.act none (.px (some 8) (.mv (.c (.int .i64 0))))) .done) K96_15) K96_1
@[simp] def W96_16 := @C.wpe _ _ K96_16.eq_1
def B_impl_Automaton_simulation_1 : C := .seq (.pl <| .st (.ext 11 0) <|
    .st (.act none (.px (some 5) (.mv (.c (.bool false))))) .done) K96_16
@[simp] def WB_impl_Automaton_simulation_1 := @C.wpe _ _ B_impl_Automaton_simulation_1.eq_1
def R_impl_Automaton_simulation_1 : FIR := ⟨B_impl_Automaton_simulation_1, 11, [(5, none)]⟩
theorem IR_impl_Automaton_simulation_1 : cfun Try.prog H_impl_Automaton_simulation_1 Try.f96 = some R_impl_Automaton_simulation_1 := by kernel_rfl
theorem EN_impl_Automaton_simulation_1 {args : List Value} {h : Heap} {k : Value → Heap → Prop} (hargs : args.length = 5) (hw : B_impl_Automaton_simulation_1.wp Try.prog (retQ [(5, none)] k) (env0 args 11) h) : CallE Try.prog fn_impl_Automaton_simulation_1 args h k := enter Try.func96 rfl IR_impl_Automaton_simulation_1 hargs hw

def H_spec_l13Answers : Hint := ⟨[(0, false), (1, false), (2, false), (6, false), (7, false), (8, false), (9, false), (10, false)], [[3, 5, 6, 7], [3, 6, 7], [3]]⟩
def K99_1 : C := .seq (.pl <| .st (.ext 8 0) <|
    .st (.act none (.px (some 3) (.mv (.c (.bool true))))) .done) (.ret)
@[simp] def W99_1 := @C.wpe _ _ K99_1.eq_1
def K99_2 : C := .pl <| .st (.ext 8 2) <|
    .st (.act none (.px (some 8) (.mv (.v 4)))) <|
    .st (.act none (.px (some 9) (.bin .add (.v 8) (.c (.int .i64 1))))) <|
    .st (.act none (.px (some 4) (.mv (.v 9)))) .done
@[simp] def W99_2 := @C.wpe _ _ K99_2.eq_1
def K99_3 : C := .pl <| .st (.ext 8 2) <|
    .st (.act none (.px (some 8) (.mv (.v 5)))) <|
    .st (.act none (.px (some 9) (.bin .add (.v 8) (.c (.int .i64 1))))) <|
    .st (.act none (.px (some 5) (.mv (.v 9)))) .done
@[simp] def W99_3 := @C.wpe _ _ K99_3.eq_1
def K99_4 : C := .seq (.pl <| .st (.ext 8 0) <|
    .st (.act none (.px (some 3) (.mv (.c (.bool false))))) .done) (.ret)
@[simp] def W99_4 := @C.wpe _ _ K99_4.eq_1
def K99_5 : C := .cond 8 (.v 9) K99_4 (.skip)
@[simp] def W99_5 := @C.wpe _ _ K99_5.eq_1
def K99_6 : C := .seq (.pl <| .st (.ext 8 2) <|
    .st (.act none (.px (some 8) (.mv (.v 6)))) <|
    .st (.act none (.px (some 9) (.un .not (.v 8)))) .done) K99_5
@[simp] def W99_6 := @C.wpe _ _ K99_6.eq_1
def K99_7 : C := .pl <| .st (.ext 8 2) <|
    .st (.act none (.px (some 8) (.mv (.v 7)))) <|
    .st (.act none (.px (some 9) (.bin .add (.v 8) (.c (.int .i64 1))))) <|
    .st (.act none (.px (some 7) (.mv (.v 9)))) .done
@[simp] def W99_7 := @C.wpe _ _ K99_7.eq_1
def K99_8 : Pl := .st (.act none (.px (some 14) (.mv (.v 13)))) <|
    .st (.act (some (.v 14, true)) (.px (some 15) (.mv (.v 2)))) <|
    .st (.act (some (.v 14, true)) (.px (some 16) (.mv (.v 0)))) <|
    .st (.act (some (.v 14, true)) (.px (some 17) (.mv (.v 5)))) <|
    .st (.act (some (.v 14, true)) (.px (some 18) (.ia 4 (.v 16) (.v 17)))) <|
    .st (.act (some (.v 14, true)) (.px (some 19) (.fa 3 (.v 18)))) <|
    .st (.act (some (.v 14, true)) (.ld (some 20) (.v 19) none)) <|
    .st (.act (some (.v 14, true)) (.px (some 21) (.ia 1 (.v 15) (.v 20)))) <|
    .st (.act (some (.v 14, true)) (.ld (some 22) (.v 21) none)) <|
    .st (.act (some (.v 14, true)) (.px (some 23) (.mv (.v 1)))) <|
    .st (.act (some (.v 14, true)) (.px (some 24) (.mv (.v 7)))) <|
    .st (.act (some (.v 14, true)) (.px (some 25) (.ia 4 (.v 23) (.v 24)))) <|
    .st (.act (some (.v 14, true)) (.px (some 26) (.fa 3 (.v 25)))) <|
    .st (.act (some (.v 14, true)) (.ld (some 27) (.v 26) none)) <|
    .st (.act (some (.v 14, true)) (.px (some 28) (.ia 1 (.v 22) (.v 27)))) <|
    .st (.act (some (.v 14, true)) (.ld (some 29) (.v 28) none)) <|
    .st (.act none (.px (some 30) (.pick (.v 14) (.v 29) (.c (.bool false))))) <|
    .st (.act none (.px (some 6) (.mv (.v 30)))) .done
@[simp] def W99_8 := @Pl.wpe _ _ K99_8.eq_1
def K99_9 : C := .seq (.block 5 (.pl <| .st (.ext 8 23) <|
    .st (.act none (.px (some 8) (.mv (.v 1)))) <|
    .st (.act none (.px (some 9) (.mv (.v 7)))) <|
    .st (.act none (.px (some 10) (.ia 4 (.v 8) (.v 9)))) <|
    .st (.act none (.ld (some 11) (.v 10) (some 4))) <|
    .st (.act none (.px (some 12) (.mv (.v 4)))) <|
    .st (.act none (.ex (some 13) (.call fn_spec_l7On [.v 11, .v 12]))) K99_8)) K99_7
@[simp] def W99_9 := @C.wpe _ _ K99_9.eq_1
def K99_10 : C := .cond 8 (.v 15) (.skip) (.exit 4)
@[simp] def W99_10 := @C.wpe _ _ K99_10.eq_1
def K99_11 : C := .seq (.seq (.pl <| .st (.ext 8 8) <|
    .st (.act none (.px (some 8) (.mv (.v 7)))) <|
    .st (.act none (.px (some 9) (.mv (.v 1)))) <|
    .st (.act none (.px (some 10) (.lenV (.v 9)))) <|
    .st (.act none (.px (some 11) (.bin .lss (.v 8) (.v 10)))) <|
    .st (.act none (.px (some 12) (.mv (.v 11)))) <|
    .st (.act (some (.v 12, true)) (.px (some 13) (.mv (.v 6)))) <|
    .st (.act (some (.v 12, true)) (.px (some 14) (.un .not (.v 13)))) <|
    .st (.act none (.px (some 15) (.pick (.v 12) (.v 14) (.c (.bool false))))) .done) K99_10) K99_9
@[simp] def W99_11 := @C.wpe _ _ K99_11.eq_1
def K99_12 : C := .block 4 (.loop 8 [3] K99_11)
@[simp] def W99_12 := @C.wpe _ _ K99_12.eq_1
def K99_13 : C := .seq (.seq (.pl <| .st (.ext 8 0) <|
    .st (.act none (.px (some 7) (.mv (.c (.int .i64 0))))) .done) K99_12) K99_6
@[simp] def W99_13 := @C.wpe _ _ K99_13.eq_1
def K99_14 : C := .seq (.pl <| .st (.ext 8 0) <|
    .st (.act none (.px (some 6) (.mv (.c (.bool false))))) .done) K99_13
@[simp] def W99_14 := @C.wpe _ _ K99_14.eq_1
def K99_15 : C := .cond 8 (.v 14) (.exit 3) (.skip)
@[simp] def W99_15 := @C.wpe _ _ K99_15.eq_1
def K99_16 : Pl := .st (.act none (.px (some 14) (.un .not (.v 13)))) .done
@[simp] def W99_16 := @Pl.wpe _ _ K99_16.eq_1
def K99_17 : C := .seq (.block 3 (.seq (.seq (.pl <| .st (.ext 8 7) <|
    .st (.act none (.px (some 8) (.mv (.v 0)))) <|
    .st (.act none (.px (some 9) (.mv (.v 5)))) <|
    .st (.act none (.px (some 10) (.ia 4 (.v 8) (.v 9)))) <|
    .st (.act none (.ld (some 11) (.v 10) (some 4))) <|
    .st (.act none (.px (some 12) (.mv (.v 4)))) <|
    .st (.act none (.ex (some 13) (.call fn_spec_l7On [.v 11, .v 12]))) K99_16) K99_15) K99_14)) K99_3
@[simp] def W99_17 := @C.wpe _ _ K99_17.eq_1
def K99_18 : C := .cond 8 (.v 11) (.skip) (.exit 2)
@[simp] def W99_18 := @C.wpe _ _ K99_18.eq_1
def K99_19 : C := .seq (.seq (.pl <| .st (.ext 8 4) <|
    .st (.act none (.px (some 8) (.mv (.v 5)))) <|
    .st (.act none (.px (some 9) (.mv (.v 0)))) <|
    .st (.act none (.px (some 10) (.lenV (.v 9)))) <|
    .st (.act none (.px (some 11) (.bin .lss (.v 8) (.v 10)))) .done) K99_18) K99_17
@[simp] def W99_19 := @C.wpe _ _ K99_19.eq_1
def K99_20 : C := .block 2 (.loop 8 [3, 6, 7] K99_19)
@[simp] def W99_20 := @C.wpe _ _ K99_20.eq_1
def K99_21 : C := .seq (.block 1 (.seq (.pl <| .st (.ext 8 0) <|
    .st (.act none (.px (some 5) (.mv (.c (.int .i64 0))))) .done) K99_20)) K99_2
@[simp] def W99_21 := @C.wpe _ _ K99_21.eq_1
def K99_22 : C := .cond 8 (.v 9) (.skip) (.exit 0)
@[simp] def W99_22 := @C.wpe _ _ K99_22.eq_1
def K99_23 : C := .seq (.seq (.pl <| .st (.ext 8 2) <|
    .st (.act none (.px (some 8) (.mv (.v 4)))) <|
    .st (.act none (.px (some 9) (.bin .leq (.v 8) (.c (.int .i64 7))))) .done) K99_22) K99_21
@[simp] def W99_23 := @C.wpe _ _ K99_23.eq_1
def K99_24 : C := .block 0 (.loop 8 [3, 5, 6, 7] K99_23)
@[simp] def W99_24 := @C.wpe _ _ K99_24.eq_1
def K99_25 : C := .seq (.seq (.pl <| .st (.ext 8 0) <|
    .st (.act none (.px (some 4) (.mv (.c (.int .i64 0))))) .done) K99_24) K99_1
@[simp] def W99_25 := @C.wpe _ _ K99_25.eq_1
def B_spec_l13Answers : C := .seq (.pl <| .st (.ext 8 0) <|
    .st (.act none (.px (some 3) (.mv (.c (.bool false))))) .done) K99_25
@[simp] def WB_spec_l13Answers := @C.wpe _ _ B_spec_l13Answers.eq_1
def R_spec_l13Answers : FIR := ⟨B_spec_l13Answers, 8, [(3, none)]⟩
theorem IR_spec_l13Answers : cfun Try.prog H_spec_l13Answers Try.f99 = some R_spec_l13Answers := by kernel_rfl
theorem EN_spec_l13Answers {args : List Value} {h : Heap} {k : Value → Heap → Prop} (hargs : args.length = 3) (hw : B_spec_l13Answers.wp Try.prog (retQ [(3, none)] k) (env0 args 8) h) : CallE Try.prog fn_spec_l13Answers args h k := enter Try.func99 rfl IR_spec_l13Answers hargs hw

def H_spec_l13Leaving : Hint := ⟨[(0, false), (1, true), (2, false), (3, false), (4, false)], [[0, 2]]⟩
def K98_1 : C := .seq (.pl <| .st (.ext 5 1) <|
    .st (.act none (.px (some 5) (.mv (.v 3)))) <|
    .st (.act none (.px (some 2) (.mv (.v 5)))) .done) (.ret)
@[simp] def W98_1 := @C.wpe _ _ K98_1.eq_1
def K98_2 : C := .pl <| .st (.ext 5 2) <|
    .st (.act none (.px (some 5) (.mv (.v 4)))) <|
    .st (.act none (.px (some 6) (.bin .add (.v 5) (.c (.int .i64 1))))) <|
    .st (.act none (.px (some 4) (.mv (.v 6)))) .done
@[simp] def W98_2 := @C.wpe _ _ K98_2.eq_1
def K98_3 : Pl := .st (.re 11 (.v 10) none none) <|
    .st (.act none (.px (some 28) (.ia 1 (.v 5) (.v 11)))) <|
    .st (.act none (.ex none (.store 1 (.v 28) (.v 27)))) .done
@[simp] def W98_3 := @Pl.wpe _ _ K98_3.eq_1
def K98_4 : C := .seq (.block 1 (.pl <| .st (.ext 5 24) <|
    .st (.act none (.px (some 5) (.mv (.v 3)))) <|
    .st (.act none (.als 6 none 1)) <|
    .st (.act none (.pget (some 7) (some 6) 1 2 none)) <|
    .st (.act none (.px (some 8) (.mv (.v 4)))) <|
    .st (.act none (.px (some 9) (.ia 4 (.v 7) (.v 8)))) <|
    .st (.act none (.px (some 10) (.fa 0 (.v 9)))) <|
    .st (.act none (.ld (some 11) (.v 10) none)) <|
    .st (.act none (.px (some 12) (.mv (.v 3)))) <|
    .st (.act none (.als 13 none 1)) <|
    .st (.act none (.pget (some 14) (some 13) 1 2 none)) <|
    .st (.act none (.px (some 15) (.mv (.v 4)))) <|
    .st (.act none (.px (some 16) (.ia 4 (.v 14) (.v 15)))) <|
    .st (.act none (.px (some 17) (.fa 0 (.v 16)))) <|
    .st (.act none (.ld (some 18) (.v 17) none)) <|
    .st (.act none (.px (some 19) (.ia 1 (.v 12) (.v 18)))) <|
    .st (.act none (.ld (some 20) (.v 19) none)) <|
    .st (.act none (.als 21 none 1)) <|
    .st (.act none (.pget (some 22) (some 21) 1 2 none)) <|
    .st (.act none (.px (some 23) (.mv (.v 4)))) <|
    .st (.act none (.px (some 24) (.ia 4 (.v 22) (.v 23)))) <|
    .st (.act none (.ld (some 25) (.v 24) (some 4))) <|
    .st (.act none (.psl 26 [.int .i64 0, .int .i64 0, .int .i64 0, .int .i64 0] [(0, 4, .v 25)])) <|
    .st (.act none (.ex (some 27) (.app 32 4 [.int .i64 0, .int .i64 0, .int .i64 0, .int .i64 0] (.o (.v 20)) (.p 1 26)))) K98_3)) K98_2
@[simp] def W98_4 := @C.wpe _ _ K98_4.eq_1
def K98_5 : C := .cond 5 (.v 9) (.skip) (.exit 0)
@[simp] def W98_5 := @C.wpe _ _ K98_5.eq_1
def K98_6 : C := .seq (.seq (.pl <| .st (.ext 5 5) <|
    .st (.act none (.px (some 5) (.mv (.v 4)))) <|
    .st (.act none (.als 6 none 1)) <|
    .st (.act none (.pget (some 7) (some 6) 1 2 none)) <|
    .st (.act none (.px (some 8) (.lenV (.v 7)))) <|
    .st (.act none (.px (some 9) (.bin .lss (.v 5) (.v 8)))) .done) K98_5) K98_4
@[simp] def W98_6 := @C.wpe _ _ K98_6.eq_1
def K98_7 : C := .block 0 (.loop 5 [0, 2] K98_6)
@[simp] def W98_7 := @C.wpe _ _ K98_7.eq_1
def K98_8 : C := .seq (.seq (.pl <| .st (.ext 5 0) <|
    .st (.act none (.px (some 4) (.mv (.c (.int .i64 0))))) .done) K98_7) K98_1
@[simp] def W98_8 := @C.wpe _ _ K98_8.eq_1
def K98_9 : Pl := .st (.act none (.px (some 3) (.mv (.v 8)))) .done
@[simp] def W98_9 := @Pl.wpe _ _ K98_9.eq_1
def K98_10 : C := .seq (.pl <| .st (.ext 5 4) <|
    .st (.act none (.als 5 none 1)) <|
    .st (.act none (.pget (some 6) (some 5) 1 1 none)) <|
    .st (.act none (.px (some 7) (.lenV (.v 6)))) <|
    .st (.act none (.ex (some 8) (.mks 24 1 [.slice none 0 0] (.v 7) (.v 7)))) K98_9) K98_8
@[simp] def W98_10 := @C.wpe _ _ K98_10.eq_1
def B_spec_l13Leaving : C := .seq (.pl <| .st (.ext 5 0) <|
    .st (.act none (.pnew 1 (.v 0) [])) <|
    .st (.act none (.px (some 2) (.mv (.c (.slice none 0 0))))) .done) K98_10
@[simp] def WB_spec_l13Leaving := @C.wpe _ _ B_spec_l13Leaving.eq_1
def R_spec_l13Leaving : FIR := ⟨B_spec_l13Leaving, 5, [(2, none)]⟩
theorem IR_spec_l13Leaving : cfun Try.prog H_spec_l13Leaving Try.f98 = some R_spec_l13Leaving := by kernel_rfl
theorem EN_spec_l13Leaving {args : List Value} {h : Heap} {k : Value → Heap → Prop} (hargs : args.length = 1) (hw : B_spec_l13Leaving.wp Try.prog (retQ [(2, none)] k) (env0 args 5) h) : CallE Try.prog fn_spec_l13Leaving args h k := enter Try.func98 rfl IR_spec_l13Leaving hargs hw

def H_spec_l13Relation : Hint := ⟨[(0, false), (1, true), (2, false), (3, false), (4, false), (5, false), (6, false), (7, false), (8, false), (9, false), (10, false), (11, false)], [[0, 2, 6, 7, 8, 9, 10, 11], [0, 2, 8, 9, 10, 11], [0, 1, 2, 5, 6, 7, 10, 11], [0, 1, 2, 5, 6, 7, 11], [0, 1, 2, 5, 6, 7]]⟩
def K49_1 : C := .seq (.pl <| .st (.ext 12 1) <|
    .st (.act none (.px (some 12) (.mv (.v 4)))) <|
    .st (.act none (.px (some 2) (.mv (.v 12)))) .done) (.ret)
@[simp] def W49_1 := @C.wpe _ _ K49_1.eq_1
def K49_2 : C := .pl <| .st (.ext 12 2) <|
    .st (.act none (.px (some 12) (.mv (.v 10)))) <|
    .st (.act none (.px (some 13) (.bin .add (.v 12) (.c (.int .i64 1))))) <|
    .st (.act none (.px (some 10) (.mv (.v 13)))) .done
@[simp] def W49_2 := @C.wpe _ _ K49_2.eq_1
def K49_3 : C := .pl <| .st (.ext 12 2) <|
    .st (.act none (.px (some 12) (.mv (.v 11)))) <|
    .st (.act none (.px (some 13) (.bin .add (.v 12) (.c (.int .i64 1))))) <|
    .st (.act none (.px (some 11) (.mv (.v 13)))) .done
@[simp] def W49_3 := @C.wpe _ _ K49_3.eq_1
def K49_4 : C := .pl <| .st (.ext 12 0) <|
    .st (.act none (.px (some 9) (.mv (.c (.bool true))))) .done
@[simp] def W49_4 := @C.wpe _ _ K49_4.eq_1
def K49_5 : C := .seq (.pl <| .st (.ext 12 6) <|
    .st (.act none (.px (some 12) (.mv (.v 4)))) <|
    .st (.act none (.px (some 13) (.mv (.v 10)))) <|
    .st (.act none (.px (some 14) (.ia 1 (.v 12) (.v 13)))) <|
    .st (.act none (.ld (some 15) (.v 14) none)) <|
    .st (.act none (.px (some 16) (.mv (.v 11)))) <|
    .st (.act none (.px (some 17) (.ia 1 (.v 15) (.v 16)))) <|
    .st (.act none (.ex none (.store 1 (.v 17) (.c (.bool false))))) .done) K49_4
@[simp] def W49_5 := @C.wpe _ _ K49_5.eq_1
def K49_6 : C := .cond 12 (.v 31) K49_5 (.skip)
@[simp] def W49_6 := @C.wpe _ _ K49_6.eq_1
def K49_7 : Pl := .st (.act (some (.v 19, true)) (.px (some 30) (.un .not (.v 29)))) <|
    .st (.act none (.px (some 31) (.pick (.v 19) (.v 30) (.c (.bool false))))) .done
@[simp] def W49_7 := @Pl.wpe _ _ K49_7.eq_1
def K49_8 : C := .seq (.block 9 (.seq (.pl <| .st (.ext 12 20) <|
    .st (.act none (.px (some 12) (.mv (.v 4)))) <|
    .st (.act none (.px (some 13) (.mv (.v 10)))) <|
    .st (.act none (.px (some 14) (.ia 1 (.v 12) (.v 13)))) <|
    .st (.act none (.ld (some 15) (.v 14) none)) <|
    .st (.act none (.px (some 16) (.mv (.v 11)))) <|
    .st (.act none (.px (some 17) (.ia 1 (.v 15) (.v 16)))) <|
    .st (.act none (.ld (some 18) (.v 17) none)) <|
    .st (.act none (.px (some 19) (.mv (.v 18)))) <|
    .st (.act (some (.v 19, true)) (.px (some 20) (.mv (.v 8)))) <|
    .st (.act (some (.v 19, true)) (.px (some 21) (.mv (.v 10)))) <|
    .st (.act (some (.v 19, true)) (.px (some 22) (.ia 1 (.v 20) (.v 21)))) <|
    .st (.act (some (.v 19, true)) (.ld (some 23) (.v 22) none)) <|
    .st (.act (some (.v 19, true)) (.px (some 24) (.mv (.v 8)))) <|
    .st (.act (some (.v 19, true)) (.px (some 25) (.mv (.v 11)))) <|
    .st (.act (some (.v 19, true)) (.px (some 26) (.ia 1 (.v 24) (.v 25)))) <|
    .st (.act (some (.v 19, true)) (.ld (some 27) (.v 26) none)) <|
    .st (.act (some (.v 19, true)) (.px (some 28) (.mv (.v 4)))) <|
    .st (.act (some (.v 19, true)) (.ex (some 29) (.call fn_spec_l13Answers [.v 23, .v 27, .v 28]))) K49_7) K49_6)) K49_3
@[simp] def W49_8 := @C.wpe _ _ K49_8.eq_1
def K49_9 : C := .cond 12 (.v 14) (.skip) (.exit 8)
@[simp] def W49_9 := @C.wpe _ _ K49_9.eq_1
def K49_10 : C := .seq (.seq (.pl <| .st (.ext 12 3) <|
    .st (.act none (.px (some 12) (.mv (.v 11)))) <|
    .st (.act none (.px (some 13) (.mv (.v 3)))) <|
    .st (.act none (.px (some 14) (.bin .lss (.v 12) (.v 13)))) .done) K49_9) K49_8
@[simp] def W49_10 := @C.wpe _ _ K49_10.eq_1
def K49_11 : C := .block 8 (.loop 12 [0, 1, 2, 5, 6, 7] K49_10)
@[simp] def W49_11 := @C.wpe _ _ K49_11.eq_1
def K49_12 : C := .seq (.block 7 (.seq (.pl <| .st (.ext 12 0) <|
    .st (.act none (.px (some 11) (.mv (.c (.int .i64 0))))) .done) K49_11)) K49_2
@[simp] def W49_12 := @C.wpe _ _ K49_12.eq_1
def K49_13 : C := .cond 12 (.v 14) (.skip) (.exit 6)
@[simp] def W49_13 := @C.wpe _ _ K49_13.eq_1
def K49_14 : C := .seq (.seq (.pl <| .st (.ext 12 3) <|
    .st (.act none (.px (some 12) (.mv (.v 10)))) <|
    .st (.act none (.px (some 13) (.mv (.v 3)))) <|
    .st (.act none (.px (some 14) (.bin .lss (.v 12) (.v 13)))) .done) K49_13) K49_12
@[simp] def W49_14 := @C.wpe _ _ K49_14.eq_1
def K49_15 : C := .block 6 (.loop 12 [0, 1, 2, 5, 6, 7, 11] K49_14)
@[simp] def W49_15 := @C.wpe _ _ K49_15.eq_1
def K49_16 : C := .seq (.pl <| .st (.ext 12 0) <|
    .st (.act none (.px (some 10) (.mv (.c (.int .i64 0))))) .done) K49_15
@[simp] def W49_16 := @C.wpe _ _ K49_16.eq_1
def K49_17 : C := .block 5 (.seq (.pl <| .st (.ext 12 0) <|
    .st (.act none (.px (some 9) (.mv (.c (.bool false))))) .done) K49_16)
@[simp] def W49_17 := @C.wpe _ _ K49_17.eq_1
def K49_18 : C := .cond 12 (.v 12) (.skip) (.exit 4)
@[simp] def W49_18 := @C.wpe _ _ K49_18.eq_1
def K49_19 : C := .seq (.seq (.pl <| .st (.ext 12 1) <|
    .st (.act none (.px (some 12) (.mv (.v 9)))) .done) K49_18) K49_17
@[simp] def W49_19 := @C.wpe _ _ K49_19.eq_1
def K49_20 : C := .block 4 (.loop 12 [0, 1, 2, 5, 6, 7, 10, 11] K49_19)
@[simp] def W49_20 := @C.wpe _ _ K49_20.eq_1
def K49_21 : C := .seq (.seq (.pl <| .st (.ext 12 0) <|
    .st (.act none (.px (some 9) (.mv (.c (.bool true))))) .done) K49_20) K49_1
@[simp] def W49_21 := @C.wpe _ _ K49_21.eq_1
def K49_22 : Pl := .st (.act none (.px (some 8) (.mv (.v 13)))) .done
@[simp] def W49_22 := @Pl.wpe _ _ K49_22.eq_1
def K49_23 : C := .seq (.pl <| .st (.ext 12 2) <|
    .st (.act none (.pget (some 12) none 1 0 (some 3))) <|
    .st (.act none (.ex (some 13) (.call fn_spec_l13Leaving [.v 12]))) K49_22) K49_21
@[simp] def W49_23 := @C.wpe _ _ K49_23.eq_1
def K49_24 : C := .pl <| .st (.ext 12 2) <|
    .st (.act none (.px (some 12) (.mv (.v 5)))) <|
    .st (.act none (.px (some 13) (.bin .add (.v 12) (.c (.int .i64 1))))) <|
    .st (.act none (.px (some 5) (.mv (.v 13)))) .done
@[simp] def W49_24 := @C.wpe _ _ K49_24.eq_1
def K49_25 : Pl := .st (.act none (.px (some 4) (.mv (.v 15)))) .done
@[simp] def W49_25 := @Pl.wpe _ _ K49_25.eq_1
def K49_26 : C := .pl <| .st (.ext 12 4) <|
    .st (.act none (.px (some 12) (.mv (.v 4)))) <|
    .st (.act none (.px (some 13) (.mv (.v 6)))) <|
    .st (.act none (.psl 14 [.slice none 0 0] [(0, 1, .v 13)])) <|
    .st (.act none (.ex (some 15) (.app 24 1 [.slice none 0 0] (.o (.v 12)) (.p 1 14)))) K49_25
@[simp] def W49_26 := @C.wpe _ _ K49_26.eq_1
def K49_27 : C := .pl <| .st (.ext 12 2) <|
    .st (.act none (.px (some 12) (.mv (.v 7)))) <|
    .st (.act none (.px (some 13) (.bin .add (.v 12) (.c (.int .i64 1))))) <|
    .st (.act none (.px (some 7) (.mv (.v 13)))) .done
@[simp] def W49_27 := @C.wpe _ _ K49_27.eq_1
def K49_28 : Pl := .st (.act none (.px (some 6) (.mv (.v 27)))) .done
@[simp] def W49_28 := @Pl.wpe _ _ K49_28.eq_1
def K49_29 : C := .seq (.block 3 (.pl <| .st (.ext 12 16) <|
    .st (.act none (.px (some 12) (.mv (.v 6)))) <|
    .st (.act none (.als 13 none 1)) <|
    .st (.act none (.pget (some 14) (some 13) 1 1 none)) <|
    .st (.act none (.px (some 15) (.mv (.v 5)))) <|
    .st (.act none (.px (some 16) (.ia 1 (.v 14) (.v 15)))) <|
    .st (.act none (.ld (some 17) (.v 16) none)) <|
    .st (.act none (.px (some 18) (.un .not (.v 17)))) <|
    .st (.act none (.px (some 19) (.mv (.v 18)))) <|
    .st (.act (some (.v 19, false)) (.als 20 none 1)) <|
    .st (.act (some (.v 19, false)) (.pget (some 21) (some 20) 1 1 none)) <|
    .st (.act (some (.v 19, false)) (.px (some 22) (.mv (.v 7)))) <|
    .st (.act (some (.v 19, false)) (.px (some 23) (.ia 1 (.v 21) (.v 22)))) <|
    .st (.act (some (.v 19, false)) (.ld (some 24) (.v 23) none)) <|
    .st (.act none (.px (some 25) (.pick (.v 19) (.c (.bool true)) (.v 24)))) <|
    .st (.act none (.psl 26 [.bool false] [(0, 1, .v 25)])) <|
    .st (.act none (.ex (some 27) (.app 1 1 [.bool false] (.o (.v 12)) (.p 1 26)))) K49_28)) K49_27
@[simp] def W49_29 := @C.wpe _ _ K49_29.eq_1
def K49_30 : C := .cond 12 (.v 14) (.skip) (.exit 2)
@[simp] def W49_30 := @C.wpe _ _ K49_30.eq_1
def K49_31 : C := .seq (.seq (.pl <| .st (.ext 12 3) <|
    .st (.act none (.px (some 12) (.mv (.v 7)))) <|
    .st (.act none (.px (some 13) (.mv (.v 3)))) <|
    .st (.act none (.px (some 14) (.bin .lss (.v 12) (.v 13)))) .done) K49_30) K49_29
@[simp] def W49_31 := @C.wpe _ _ K49_31.eq_1
def K49_32 : C := .block 2 (.loop 12 [0, 2, 8, 9, 10, 11] K49_31)
@[simp] def W49_32 := @C.wpe _ _ K49_32.eq_1
def K49_33 : C := .seq (.seq (.pl <| .st (.ext 12 0) <|
    .st (.act none (.px (some 7) (.mv (.c (.int .i64 0))))) .done) K49_32) K49_26
@[simp] def W49_33 := @C.wpe _ _ K49_33.eq_1
def K49_34 : Pl := .st (.act none (.px (some 6) (.mv (.v 12)))) .done
@[simp] def W49_34 := @Pl.wpe _ _ K49_34.eq_1
def K49_35 : C := .seq (.block 1 (.seq (.pl <| .st (.ext 12 1) <|
    .st (.act none (.ex (some 12) (.bls 1 0 [.bool false] []))) K49_34) K49_33)) K49_24
@[simp] def W49_35 := @C.wpe _ _ K49_35.eq_1
def K49_36 : C := .cond 12 (.v 14) (.skip) (.exit 0)
@[simp] def W49_36 := @C.wpe _ _ K49_36.eq_1
def K49_37 : C := .seq (.seq (.pl <| .st (.ext 12 3) <|
    .st (.act none (.px (some 12) (.mv (.v 5)))) <|
    .st (.act none (.px (some 13) (.mv (.v 3)))) <|
    .st (.act none (.px (some 14) (.bin .lss (.v 12) (.v 13)))) .done) K49_36) K49_35
@[simp] def W49_37 := @C.wpe _ _ K49_37.eq_1
def K49_38 : C := .block 0 (.loop 12 [0, 2, 6, 7, 8, 9, 10, 11] K49_37)
@[simp] def W49_38 := @C.wpe _ _ K49_38.eq_1
def K49_39 : C := .seq (.seq (.pl <| .st (.ext 12 0) <|
    .st (.act none (.px (some 5) (.mv (.c (.int .i64 0))))) .done) K49_38) K49_23
@[simp] def W49_39 := @C.wpe _ _ K49_39.eq_1
def K49_40 : Pl := .st (.act none (.px (some 4) (.mv (.v 12)))) .done
@[simp] def W49_40 := @Pl.wpe _ _ K49_40.eq_1
def K49_41 : C := .seq (.pl <| .st (.ext 12 1) <|
    .st (.act none (.ex (some 12) (.bls 1 0 [.slice none 0 0] []))) K49_40) K49_39
@[simp] def W49_41 := @C.wpe _ _ K49_41.eq_1
def K49_42 : C := .seq (.pl <| .st (.ext 12 3) <|
    .st (.act none (.als 12 none 1)) <|
    .st (.act none (.pget (some 13) (some 12) 1 1 none)) <|
    .st (.act none (.px (some 14) (.lenV (.v 13)))) <|
    .st (.act none (.px (some 3) (.mv (.v 14)))) .done) K49_41
@[simp] def W49_42 := @C.wpe _ _ K49_42.eq_1
def B_spec_l13Relation : C := .seq (.pl <| .st (.ext 12 0) <|
    .st (.act none (.pnew 1 (.v 0) [])) <|
    .st (.act none (.px (some 2) (.mv (.c (.slice none 0 0))))) .done) K49_42
@[simp] def WB_spec_l13Relation := @C.wpe _ _ B_spec_l13Relation.eq_1
def R_spec_l13Relation : FIR := ⟨B_spec_l13Relation, 12, [(2, none)]⟩
theorem IR_spec_l13Relation : cfun Try.prog H_spec_l13Relation Try.f49 = some R_spec_l13Relation := by kernel_rfl
theorem EN_spec_l13Relation {args : List Value} {h : Heap} {k : Value → Heap → Prop} (hargs : args.length = 1) (hw : B_spec_l13Relation.wp Try.prog (retQ [(2, none)] k) (env0 args 12) h) : CallE Try.prog fn_spec_l13Relation args h k := enter Try.func49 rfl IR_spec_l13Relation hargs hw


end Go.Proofs.Ytglnelcmcimljaa

/-
  The program's search for the greatest simulation.
-/
namespace Go.Proofs.Ytglnelcmcimljaa
open Go
set_option linter.all false
set_option linter.unusedVariables false
set_option linter.unusedSimpArgs false
set_option linter.defProp false
set_option maxRecDepth 1000000

/-- does j simulate i, under what is left: the program's function value -/
theorem c_simulates {h : Heap} {a : Aut} (ha : a.Ok) {b3 b4 b7 : Nat} {vn vb : Value} {T : List W8} {B : List (BitVec 64)} (h3 : hload h (some (.pointer (some ⟨b3, 0, none⟩))) none = some (.int .i64 a.acc.length))
    (h4 : hload h (some (.pointer (some ⟨b4, 0, none⟩))) none = some vn) (h7 : hload h (some (.pointer (some ⟨b7, 0, none⟩))) none = some vb) (Rn : Rep h vn T) (Rb : Rep h vb B)
    (hT : Tab a.edges a.acc.length T) (hB : B.length = a.acc.length) {i j : Nat} (hi : i < a.acc.length) (hj : j < a.acc.length) :
    CallE Try.prog fn_impl_Automaton_simulation_1 [.int .i64 j, .int .i64 i, .pointer (some ⟨b3, 0, none⟩), .pointer (some ⟨b4, 0, none⟩), .pointer (some ⟨b7, 0, none⟩)] h
      (fun u h' => h' = h ∧ ∃ r : Bool, u = .bool r ∧ (r = true ↔ Ans a (bitR B) i j)) := by
  refine CallE.gen fun k hk => EN_impl_Automaton_simulation_1 rfl ?_
  have hn := ha.n
  have hTl := hT.1
  rw [ans_iff ha] at hk
  simp -implicitDefEqProofs (disch := first | omega | (simp only [List.length_set, List.length_replicate, List.length_append, List.length_map, List.length_take, List.length_cons, List.length_nil]; omega)) [wrap64]
  refine wp_count 8 (fun l e h' => h' = h ∧ e = [some (.int .i64 j), some (.int .i64 i), some (.pointer (some ⟨b3, 0, none⟩)), some (.pointer (some ⟨b4, 0, none⟩)), some (.pointer (some ⟨b7, 0, none⟩)), none, none, none, some (.int .i64 l), none, none] ∧
    ∀ l' < l, ∀ t < a.acc.length, EdgeB a.edges i l' t → ∃ k < a.acc.length, EdgeB a.edges j l' k ∧ bitR B t k = true) ⟨rfl, rfl, fun l' hl' => absurd hl' (Nat.not_lt_zero l')⟩ ?_
  rintro J l _ h hJ hl ⟨rfl, rfl, hA⟩
  simp -implicitDefEqProofs (disch := first | omega | (simp only [List.length_set, List.length_replicate, List.length_append, List.length_map, List.length_take, List.length_cons, List.length_nil]; omega)) [wrap64]
  refine IteW.mk (fun hlt => ?_) (fun hge => ?_)
  · have hl8 : l < 8 := by omega
    simp -implicitDefEqProofs (disch := first | omega | (simp only [List.length_set, List.length_replicate, List.length_append, List.length_map, List.length_take, List.length_cons, List.length_nil]; omega)) [wrap64, h3]
    refine wp_count a.acc.length (fun t e h' => h' = _ ∧ e = [some (.int .i64 j), some (.int .i64 i), some (.pointer (some ⟨b3, 0, none⟩)), some (.pointer (some ⟨b4, 0, none⟩)), some (.pointer (some ⟨b7, 0, none⟩)), none, some (.int .i64 l), none, some (.int .i64 l), some (.int .i64 a.acc.length), some (.int .i64 t)] ∧
      ∀ t' < t, EdgeB a.edges i l t' → ∃ k < a.acc.length, EdgeB a.edges j l k ∧ bitR B t' k = true) ⟨rfl, rfl, fun t' ht' => absurd ht' (Nat.not_lt_zero t')⟩ ?_
    rintro J2 t _ h hJ2 ht ⟨rfl, rfl, hA2⟩
    simp -implicitDefEqProofs (disch := first | omega | (simp only [List.length_set, List.length_replicate, List.length_append, List.length_map, List.length_take, List.length_cons, List.length_nil]; omega)) [wrap64]
    refine IteW.mk (fun hlt2 => ?_) (fun hge2 => ?_)
    · have htn : t < a.acc.length := by omega
      have hbit := hT.2 i l t hi hl8 (by omega)
      have hgi : T.getD i W8.zero = T[i]'(by omega) := by simp [show i < T.length by omega]
      have hgj : T.getD j W8.zero = T[j]'(by omega) := by simp [show j < T.length by omega]
      rw [hgi] at hbit
      by_cases hb : ((T[i]'(by omega)).at l).getLsbD t = true
      · have hmeet := u64_meet (a := (T[j]'(by omega)).at l) (b := B[t]'(by omega))
        by_cases hm : andI .u64 ((T[j]'(by omega)).at l).toNat (B[t]'(by omega)).toNat = 0
        · simp -implicitDefEqProofs (disch := first | omega | (simp only [List.length_set, List.length_replicate, List.length_append, List.length_map, List.length_take, List.length_cons, List.length_nil]; omega)) [wrap64, -BitVec.getLsbD_eq_getElem, h4, Rn.W, u64_bit, hb, h7, Rb.U, hm]
          refine RetK.keep (hk _ _ ⟨rfl, false, rfl, ?_⟩)
          simp only [Bool.false_eq_true, false_iff]
          intro h
          obtain ⟨k', hk', hE, hr⟩ := h l hl8 t htn (hbit.1 hb)
          rw [bitR_get (by omega)] at hr
          have := (hT.2 j l k' hj hl8 (by omega)).2 hE
          rw [hgj] at this
          exact (hmeet.1 hm) k' (by omega) ⟨this, hr⟩
        · simp -implicitDefEqProofs (disch := first | omega | (simp only [List.length_set, List.length_replicate, List.length_append, List.length_map, List.length_take, List.length_cons, List.length_nil]; omega)) [wrap64, -BitVec.getLsbD_eq_getElem, h4, Rn.W, u64_bit, hb, h7, Rb.U, hm]
          refine hJ2 _ _ htn ⟨rfl, rfl, fun t' ht' hE => ?_⟩
          by_cases htt : t' = t
          · subst htt
            rw [hmeet] at hm
            simp only [Classical.not_forall, Classical.not_not] at hm
            obtain ⟨k', hk64, h1, h2⟩ := hm
            have h5 := hT.2 j l k' hj hl8 hk64
            rw [hgj] at h5
            have h6 := h5.1 h1
            obtain ⟨e, he, _, h8, _⟩ := h6
            have hq := ha.2.2.2 e he
            unfold Tr.Ok at hq
            exact ⟨k', by omega, h5.1 h1, by rw [bitR_get (by omega)]; exact h2⟩
          · exact hA2 t' (by omega) hE
      · simp -implicitDefEqProofs (disch := first | omega | (simp only [List.length_set, List.length_replicate, List.length_append, List.length_map, List.length_take, List.length_cons, List.length_nil]; omega)) [wrap64, -BitVec.getLsbD_eq_getElem, h4, Rn.W, u64_bit, hb]
        refine hJ2 _ _ htn ⟨rfl, rfl, fun t' ht' hE => ?_⟩
        by_cases htt : t' = t
        · subst htt; exact absurd (hbit.2 hE) hb
        · exact hA2 t' (by omega) hE
    · simp -implicitDefEqProofs (disch := first | omega | (simp only [List.length_set, List.length_replicate, List.length_append, List.length_map, List.length_take, List.length_cons, List.length_nil]; omega)) [wrap64]
      refine hJ _ _ hl8 ⟨rfl, rfl, fun l' hl' t' ht' hE => ?_⟩
      by_cases hll : l' = l
      · subst hll; exact hA2 t' (by omega) hE
      · exact hA l' (by omega) t' ht' hE
  · simp -implicitDefEqProofs (disch := first | omega | (simp only [List.length_set, List.length_replicate, List.length_append, List.length_map, List.length_take, List.length_cons, List.length_nil]; omega)) [wrap64]
    refine RetK.keep (hk _ _ ⟨rfl, true, rfl, ?_⟩)
    simp only [true_iff]
    intro l' hl' t' ht' hE
    exact hA l' (by omega) t' ht' hE

theorem cond_acc0 {a : Aut} {i j : Nat} (hi : i < a.acc.length) (hj : j < a.acc.length) : acc0 a i j = (a.acc[j] || !a.acc[i]) := by
  simp [acc0, hi, hj, Bool.or_comm]

set_option maxHeartbeats 2000000 in
theorem c_simulation {h : Heap} {v : Value} {a : Aut} (Ra : Rep h v a) (ha : a.Ok) : CallE Try.prog fn_impl_Automaton_simulation [v] h (fun u h' => ∃ B : List (BitVec 64), HS h [ow u B] h' ∧ B.length = a.acc.length ∧ Great a (bitR B)) := by
  obtain ⟨v1, v2, v3, rfl, R1, R2, R3⟩ := Rep_Aut.1 Ra
  refine CallE.gen fun k hk => EN_impl_Automaton_simulation rfl ?_
  have hn := ha.n
  have he := ha.e
  simp -implicitDefEqProofs (disch := first | omega | (simp only [List.length_set, List.length_replicate, List.length_append, List.length_map, List.length_take, List.length_cons, List.length_nil]; omega)) [wrap64, R2.len]
  refine HS.init.alloc rfl fun b3 h1 H => ?_
  simp -implicitDefEqProofs (disch := first | omega | (simp only [List.length_set, List.length_replicate, List.length_append, List.length_map, List.length_take, List.length_cons, List.length_nil]; omega)) [wrap64]
  refine H.bxst (u := .int .i64 a.acc.length) rfl rfl rfl rfl (by simp) fun h2 H => ?_
  simp only [setC, cells_int, List.take_zero, List.nil_append] at H
  have H : HS h [bx b3 [.int .i64 a.acc.length]] h2 := H
  simp -implicitDefEqProofs (disch := first | omega | (simp only [List.length_set, List.length_replicate, List.length_append, List.length_map, List.length_take, List.length_cons, List.length_nil]; omega)) [wrap64, H.bxld0]
  refine H.mks (α := W8) (z := W8.zero) rfl rfl (Flat.own_iff.2 ⟨rfl, rfl, trivial⟩) (Nat.le_refl _) (by omega) (by omega) fun vn h3 H => ?_
  simp -implicitDefEqProofs (disch := first | omega | (simp only [List.length_set, List.length_replicate, List.length_append, List.length_map, List.length_take, List.length_cons, List.length_nil]; omega)) [wrap64]
  refine H.alloc rfl fun b4 h4 H => ?_
  simp -implicitDefEqProofs (disch := first | omega | (simp only [List.length_set, List.length_replicate, List.length_append, List.length_map, List.length_take, List.length_cons, List.length_nil]; omega)) [wrap64]
  refine H.bxst (u := vn) rfl rfl (by rw [H.sw1.rep.cells]; rfl) (by rw [H.sw1.rep.cells]; simp [H.sw1.rep.one]) (by simp [H.sw1.rep.cells]) fun h5 H => ?_
  have H : HS h [bx b4 [vn], ow vn (List.replicate a.acc.length W8.zero), bx b3 [.int .i64 a.acc.length]] h5 := by
    simpa [setC, H.sw1.rep.cells] using H
  simp -implicitDefEqProofs (disch := first | omega | (simp only [List.length_set, List.length_replicate, List.length_append, List.length_map, List.length_take, List.length_cons, List.length_nil]; omega)) [wrap64, (R3.on H).len]
  refine wp_count a.edges.length (fun i e h' => e = [none, some (.agg #[v1, v2, v3]), none, some (.pointer (some ⟨b3, 0, none⟩)), some (.pointer (some ⟨b4, 0, none⟩)), none, none, none, none, none, none, none, none, none, some v3, some (.int .i64 a.edges.length), some (.int .i64 i), none, none, none, none, none, none, none, none, none] ∧
    ∃ T, HS h [ow vn T, bx b4 [vn], bx b3 [.int .i64 a.acc.length]] h' ∧ Tab (a.edges.take i) a.acc.length T) ⟨by simp, _, H.sw1, Tab.zero _⟩ ?_
  rintro J i _ h6 hJ hi ⟨rfl, T, H, hT⟩
  simp -implicitDefEqProofs (disch := first | omega | (simp only [List.length_set, List.length_replicate, List.length_append, List.length_map, List.length_take, List.length_cons, List.length_nil]; omega)) [wrap64]
  refine IteW.mk (fun hlt => ?_) (fun hge => ?_)
  · have hlx : i < a.edges.length := by omega
    have hx := ha.t hlx
    have hv := R3.okTr hlx
    unfold Tr.Ok at hx
    simp -implicitDefEqProofs (disch := first | omega | (simp only [List.length_set, List.length_replicate, List.length_append, List.length_map, List.length_take, List.length_cons, List.length_nil]; omega)) [wrap64, (R3.on H).xTr, Tr.v, setC]
    refine wp_count 8 (fun l e h' => e = [none, some (.agg #[v1, v2, v3]), none, some (.pointer (some ⟨b3, 0, none⟩)), some (.pointer (some ⟨b4, 0, none⟩)), some a.edges[i].v, none, none, none, none, none, none, none, none, some v3, some (.int .i64 a.edges.length), some (.int .i64 i), some (.int .i64 l), none, none, none, none, none, none, none, none] ∧
      ∃ T, HS h [ow vn T, bx b4 [vn], bx b3 [.int .i64 a.acc.length]] h' ∧ Tab2 (a.edges.take i) a.edges[i] l a.acc.length T) ⟨by simp [Tr.v], _, H, hT.start _⟩ ?_
    rintro J2 l _ h7 hJ2 hl ⟨rfl, T, H, hT⟩
    simp -implicitDefEqProofs (disch := first | omega | (simp only [List.length_set, List.length_replicate, List.length_append, List.length_map, List.length_take, List.length_cons, List.length_nil]; omega)) [wrap64]
    refine IteW.mk (fun hlt2 => ?_) (fun hge2 => ?_)
    · have hl8 : l < 8 := by omega
      simp -implicitDefEqProofs (disch := first | omega | (simp only [List.length_set, List.length_replicate, List.length_append, List.length_map, List.length_take, List.length_cons, List.length_nil]; omega)) [wrap64, Tr.v]
      refine (c_takes (t := a.edges[i]) (Rep_Tr.2 ⟨rfl, hv⟩)).go ?_
      rintro _ _ ⟨rfl, rfl⟩
      by_cases ho : a.edges[i].on l = true
      · obtain ⟨f, hf⟩ : ∃ f : Nat, a.edges[i].frm = f := ⟨a.edges[i].frm.toNat, by omega⟩
        obtain ⟨t, ht⟩ : ∃ t : Nat, a.edges[i].to = t := ⟨a.edges[i].to.toNat, by omega⟩
        have hfT : f < T.length := by rw [hT.1]; omega
        simp -implicitDefEqProofs (disch := first | omega | (simp only [List.length_set, List.length_replicate, List.length_append, List.length_map, List.length_take, List.length_cons, List.length_nil]; omega)) [wrap64, ho, H.sw1.bxld0, hf, ht, H.rep.W, u64_setB]
        refine H.storeFld (α := W8) (T[f].put l (setB (T[f].at l) t)) (i := f) (fo := l) hfT rfl rfl rfl rfl (by show l < 8; omega) (W8.enc_put _) trivial fun h8 H => ?_
        simp -implicitDefEqProofs (disch := first | omega | (simp only [List.length_set, List.length_replicate, List.length_append, List.length_map, List.length_take, List.length_cons, List.length_nil]; omega)) [wrap64]
        exact hJ2 _ _ hl8 ⟨by simp [Tr.v, hf, ht], _, H, hT.put ho hl8 hf ht (by omega) (by omega)⟩
      · simp -implicitDefEqProofs (disch := first | omega | (simp only [List.length_set, List.length_replicate, List.length_append, List.length_map, List.length_take, List.length_cons, List.length_nil]; omega)) [wrap64, ho]
        exact hJ2 _ _ hl8 ⟨by simp [Tr.v], _, H, hT.skip (by simpa using ho)⟩
    · simp -implicitDefEqProofs (disch := first | omega | (simp only [List.length_set, List.length_replicate, List.length_append, List.length_map, List.length_take, List.length_cons, List.length_nil]; omega)) [wrap64]
      have hl8 : l = 8 := by omega
      subst hl8
      exact hJ _ _ hlx ⟨rfl, _, H, hT.done hlx⟩
  rw [List.take_of_length_le (by omega)] at hT
  simp -implicitDefEqProofs (disch := first | omega | (simp only [List.length_set, List.length_replicate, List.length_append, List.length_map, List.length_take, List.length_cons, List.length_nil]; omega)) [wrap64, H.sw2.bxld0]
  refine H.mks (α := BitVec 64) (z := 0) rfl rfl (show Ty.own (α := BitVec 64) Heap.nil [.int .u64 0] 0 from ⟨rfl, rfl⟩) (Nat.le_refl _) (by omega) (by omega) fun vb h7 H => ?_
  simp -implicitDefEqProofs (disch := first | omega | (simp only [List.length_set, List.length_replicate, List.length_append, List.length_map, List.length_take, List.length_cons, List.length_nil]; omega)) [wrap64]
  refine H.alloc rfl fun b7 h8 H => ?_
  simp -implicitDefEqProofs (disch := first | omega | (simp only [List.length_set, List.length_replicate, List.length_append, List.length_map, List.length_take, List.length_cons, List.length_nil]; omega)) [wrap64]
  refine H.bxst (u := vb) rfl rfl (by rw [H.sw1.rep.cells]; rfl) (by rw [H.sw1.rep.cells]; simp [H.sw1.rep.one]) (by simp [H.sw1.rep.cells]) fun h9 H => ?_
  have H : HS h [ow vb (List.replicate a.acc.length (0 : BitVec 64)), bx b7 [vb], ow vn T, bx b4 [vn], bx b3 [.int .i64 a.acc.length]] h9 := by
    simpa [setC, H.sw1.rep.cells] using H.sw1
  simp -implicitDefEqProofs (disch := first | omega | (simp only [List.length_set, List.length_replicate, List.length_append, List.length_map, List.length_take, List.length_cons, List.length_nil]; omega)) [wrap64, H.sw1.bxld0, H.rep.len]
  refine wp_count a.acc.length (fun i e h' => e = [none, some (.agg #[v1, v2, v3]), none, some (.pointer (some ⟨b3, 0, none⟩)), some (.pointer (some ⟨b4, 0, none⟩)), none, none, some (.pointer (some ⟨b7, 0, none⟩)), none, none, none, none, none, none, none, none, none, none, some (.int .i64 a.acc.length), some (.int .i64 i), none, none, none, none, none, none] ∧
    ∃ B, HS h [ow vb B, bx b7 [vb], ow vn T, bx b4 [vn], bx b3 [.int .i64 a.acc.length]] h' ∧ B.length = a.acc.length ∧ ∀ x y, x < a.acc.length → y < a.acc.length → bitR B x y = (decide (x < i) && acc0 a x y)) ⟨by simp, _, H, by simp, fun x y hx hy => by simp [bitR, hx]⟩ ?_
  rintro J i _ h10 hJ hi ⟨rfl, B, H, hBl, hB⟩
  simp -implicitDefEqProofs (disch := first | omega | (simp only [List.length_set, List.length_replicate, List.length_append, List.length_map, List.length_take, List.length_cons, List.length_nil]; omega)) [wrap64]
  refine IteW.mk (fun hlt2 => ?_) (fun hge2 => ?_)
  · have hin : i < a.acc.length := by omega
    simp -implicitDefEqProofs (disch := first | omega | (simp only [List.length_set, List.length_replicate, List.length_append, List.length_map, List.length_take, List.length_cons, List.length_nil]; omega)) [wrap64, H.sw4.bxld0]
    refine wp_count a.acc.length (fun j e h' => e = [none, some (.agg #[v1, v2, v3]), none, some (.pointer (some ⟨b3, 0, none⟩)), some (.pointer (some ⟨b4, 0, none⟩)), none, none, some (.pointer (some ⟨b7, 0, none⟩)), some (.int .i64 i), none, none, none, none, none, none, none, none, none, some (.int .i64 a.acc.length), some (.int .i64 i), some (.int .i64 a.acc.length), some (.int .i64 j), none, none, none, none] ∧
      ∃ B, HS h [ow vb B, bx b7 [vb], ow vn T, bx b4 [vn], bx b3 [.int .i64 a.acc.length]] h' ∧ B.length = a.acc.length ∧ ∀ x y, x < a.acc.length → y < a.acc.length → bitR B x y = (decide (x < i ∨ (x = i ∧ y < j)) && acc0 a x y)) ⟨by simp, _, H, hBl, fun x y hx hy => by simp [hB x y hx hy]⟩ ?_
    rintro J2 j _ h11 hJ2 hj ⟨rfl, B, H, hBl, hB⟩
    simp -implicitDefEqProofs (disch := first | omega | (simp only [List.length_set, List.length_replicate, List.length_append, List.length_map, List.length_take, List.length_cons, List.length_nil]; omega)) [wrap64]
    refine IteW.mk (fun hlt3 => ?_) (fun hge3 => ?_)
    · have hjn : j < a.acc.length := by omega
      have hc := cond_acc0 hin hjn
      have hstep : ∀ B' : List (BitVec 64), (∀ x y, x < a.acc.length → y < a.acc.length → bitR B' x y = (bitR B x y || (acc0 a i j && (decide (x = i) && decide (y = j))))) → ∀ x y, x < a.acc.length → y < a.acc.length → bitR B' x y = (decide (x < i ∨ (x = i ∧ y < j + 1)) && acc0 a x y) := by
        intro B' hB' x y hx hy
        rw [hB' x y hx hy, hB x y hx hy, Bool.eq_iff_iff]
        simp only [Bool.or_eq_true, Bool.and_eq_true, decide_eq_true_eq]
        constructor
        · rintro (⟨h1, h2⟩ | ⟨h1, rfl, rfl⟩)
          · exact ⟨by omega, h2⟩
          · exact ⟨by omega, h1⟩
        · rintro ⟨h1, h2⟩
          by_cases hxy : x = i ∧ y = j
          · obtain ⟨rfl, rfl⟩ := hxy; exact .inr ⟨h2, rfl, rfl⟩
          · exact .inl ⟨by omega, h2⟩
      by_cases h1 : a.acc[j] = true
      · simp -implicitDefEqProofs (disch := first | omega | (simp only [List.length_set, List.length_replicate, List.length_append, List.length_map, List.length_take, List.length_cons, List.length_nil]; omega)) [wrap64, (R2.on H).B, h1, H.sw1.bxld0, H.rep.U, u64_setB]
        refine H.storeF (setB (B[i]'(by omega)) j) (i := i) (by omega) rfl rfl trivial rfl fun h12 H => ?_
        simp -implicitDefEqProofs (disch := first | omega | (simp only [List.length_set, List.length_replicate, List.length_append, List.length_map, List.length_take, List.length_cons, List.length_nil]; omega)) [wrap64]
        exact hJ2 _ _ hjn ⟨rfl, _, H, by simpa using hBl, hstep _ fun x y hx hy => by rw [bitR_set (by omega) (by omega), hc, h1]; simp⟩
      · by_cases h2 : a.acc[i] = true
        · simp -implicitDefEqProofs (disch := first | omega | (simp only [List.length_set, List.length_replicate, List.length_append, List.length_map, List.length_take, List.length_cons, List.length_nil]; omega)) [wrap64, (R2.on H).B, h1, h2]
          exact hJ2 _ _ hjn ⟨rfl, _, H, hBl, hstep _ fun x y hx hy => by rw [hc, h2]; simp [h1]⟩
        · simp -implicitDefEqProofs (disch := first | omega | (simp only [List.length_set, List.length_replicate, List.length_append, List.length_map, List.length_take, List.length_cons, List.length_nil]; omega)) [wrap64, (R2.on H).B, h1, h2, H.sw1.bxld0, H.rep.U, u64_setB]
          refine H.storeF (setB (B[i]'(by omega)) j) (i := i) (by omega) rfl rfl trivial rfl fun h12 H => ?_
          simp -implicitDefEqProofs (disch := first | omega | (simp only [List.length_set, List.length_replicate, List.length_append, List.length_map, List.length_take, List.length_cons, List.length_nil]; omega)) [wrap64]
          exact hJ2 _ _ hjn ⟨rfl, _, H, by simpa using hBl, hstep _ fun x y hx hy => by rw [bitR_set (by omega) (by omega), hc]; simp [h1, h2]⟩
    · simp -implicitDefEqProofs (disch := first | omega | (simp only [List.length_set, List.length_replicate, List.length_append, List.length_map, List.length_take, List.length_cons, List.length_nil]; omega)) [wrap64]
      exact hJ _ _ hin ⟨rfl, _, H, hBl, fun x y hx hy => by
        rw [hB x y hx hy]
        congr 1
        exact decide_eq_decide.2 (by omega)⟩
  have hB2 : ∀ x y, x < a.acc.length → y < a.acc.length → bitR B x y = acc0 a x y := fun x y hx hy => by rw [hB x y hx hy]; simp [show x < i by omega]
  have hA : AccR a (bitR B) := fun x y hx hy hr => acc0_acc a x y hx hy (by rw [← hB2 x y hx hy]; exact hr)
  have hU : Upper a (bitR B) := fun S hS x y hx hy hr => by rw [hB2 x y hx hy]; exact acc0_upper a S hS x y hx hy hr
  simp -implicitDefEqProofs (disch := first | omega | (simp only [List.length_set, List.length_replicate, List.length_append, List.length_map, List.length_take, List.length_cons, List.length_nil]; omega)) [wrap64]
  obtain ⟨fv, hfv⟩ : ∃ fv, fv = Value.func (.func fn_impl_Automaton_simulation_1) #[] #[.pointer (some ⟨b3, 0, none⟩), .pointer (some ⟨b4, 0, none⟩), .pointer (some ⟨b7, 0, none⟩)] := ⟨_, rfl⟩
  have hfn : fnOf fv = some (fn_impl_Automaton_simulation_1, [], [.pointer (some ⟨b3, 0, none⟩), .pointer (some ⟨b4, 0, none⟩), .pointer (some ⟨b7, 0, none⟩)]) := by subst hfv; rfl
  rw [← hfv]
  refine wp_while (σ := List (BitVec 64) × Bool) (fun s e h' => e = [none, none, none, some (.pointer (some ⟨b3, 0, none⟩)), none, none, none, some (.pointer (some ⟨b7, 0, none⟩)), none, none, some fv, some (.bool s.2), none, none, none, none, none, none, none, none, none, none, none, none, none, none] ∧
    HS h [ow vb s.1, bx b7 [vb], ow vn T, bx b4 [vn], bx b3 [.int .i64 a.acc.length]] h' ∧ s.1.length = a.acc.length ∧ AccR a (bitR s.1) ∧ Upper a (bitR s.1) ∧ (s.2 = false → Great a (bitR s.1)))
    (fun s => 2 * cnt2 a.acc.length (bitR s.1) + (if s.2 then 1 else 0)) (B, true) ⟨by simp, H, hBl, hA, hU, by simp⟩ ?_
  rintro J ⟨B, c⟩ _ h11 hJ ⟨rfl, H, hBl, hA, hU, hG⟩
  dsimp only at H hBl hA hU hG
  simp -implicitDefEqProofs (disch := first | omega | (simp only [List.length_set, List.length_replicate, List.length_append, List.length_map, List.length_take, List.length_cons, List.length_nil]; omega)) [wrap64]
  cases c with
  | false =>
    simp -implicitDefEqProofs (disch := first | omega | (simp only [List.length_set, List.length_replicate, List.length_append, List.length_map, List.length_take, List.length_cons, List.length_nil]; omega)) [wrap64, H.sw1.bxld0]
    exact RetK.keep (hk _ _ ⟨B, H.sw1.drop.sw1.drop.sw1.drop.sw1.drop, hBl, hG rfl⟩)
  | true =>
  simp -implicitDefEqProofs (disch := first | omega | (simp only [List.length_set, List.length_replicate, List.length_append, List.length_map, List.length_take, List.length_cons, List.length_nil]; omega)) [wrap64, H.sw4.bxld0]
  refine wp_count a.acc.length (fun i e h' => ∃ c', e = [none, none, none, some (.pointer (some ⟨b3, 0, none⟩)), none, none, none, some (.pointer (some ⟨b7, 0, none⟩)), none, none, some fv, some (.bool c'), none, none, none, none, none, none, none, none, none, none, some (.int .i64 a.acc.length), some (.int .i64 i), none, none] ∧
    ∃ B', HS h [ow vb B', bx b7 [vb], ow vn T, bx b4 [vn], bx b3 [.int .i64 a.acc.length]] h' ∧ B'.length = a.acc.length ∧ Pass a (bitR B) (bitR B') c' i 0) ⟨false, by simp, B, H, hBl, Pass.start hA hU⟩ ?_
  rintro J1 i _ h12 hJ1 hi ⟨c', rfl, B', H, hBl', hP⟩
  simp -implicitDefEqProofs (disch := first | omega | (simp only [List.length_set, List.length_replicate, List.length_append, List.length_map, List.length_take, List.length_cons, List.length_nil]; omega)) [wrap64]
  refine IteW.mk (fun hlt4 => ?_) (fun hge4 => ?_)
  · have hin : i < a.acc.length := by omega
    simp -implicitDefEqProofs (disch := first | omega | (simp only [List.length_set, List.length_replicate, List.length_append, List.length_map, List.length_take, List.length_cons, List.length_nil]; omega)) [wrap64, H.sw4.bxld0]
    refine wp_count a.acc.length (fun j e h' => ∃ c', e = [none, none, none, some (.pointer (some ⟨b3, 0, none⟩)), none, none, none, some (.pointer (some ⟨b7, 0, none⟩)), none, none, some fv, some (.bool c'), some (.int .i64 i), none, none, none, none, none, none, none, none, none, some (.int .i64 a.acc.length), some (.int .i64 i), some (.int .i64 a.acc.length), some (.int .i64 j)] ∧
      ∃ B', HS h [ow vb B', bx b7 [vb], ow vn T, bx b4 [vn], bx b3 [.int .i64 a.acc.length]] h' ∧ B'.length = a.acc.length ∧ Pass a (bitR B) (bitR B') c' i j) ⟨c', by simp, B', H, hBl', hP⟩ ?_
    rintro J2 j _ h13 hJ2 hj ⟨c', rfl, B', H, hBl', hP⟩
    simp -implicitDefEqProofs (disch := first | omega | (simp only [List.length_set, List.length_replicate, List.length_append, List.length_map, List.length_take, List.length_cons, List.length_nil]; omega)) [wrap64]
    refine IteW.mk (fun hlt5 => ?_) (fun hge5 => ?_)
    · have hjn : j < a.acc.length := by omega
      have hbg := bitR_get (B := B') (i := i) (j := j) (by omega)
      cases hb : (B'[i]'(by omega)).getLsbD j with
      | false =>
        simp -implicitDefEqProofs (disch := first | omega | (simp only [List.length_set, List.length_replicate, List.length_append, List.length_map, List.length_take, List.length_cons, List.length_nil]; omega)) [wrap64, -BitVec.getLsbD_eq_getElem, H.sw1.bxld0, H.rep.U, u64_bit, hb]
        exact hJ2 _ _ hjn ⟨c', rfl, B', H, hBl', hP.keep fun hr => by rw [hbg, hb] at hr; simp at hr⟩
      | true =>
        simp -implicitDefEqProofs (disch := first | omega | (simp only [List.length_set, List.length_replicate, List.length_append, List.length_map, List.length_take, List.length_cons, List.length_nil]; omega)) [wrap64, -BitVec.getLsbD_eq_getElem, H.sw1.bxld0, H.rep.U, u64_bit, hb, hfn]
        refine (c_simulates (i := i) (j := j) ha H.sw4.bxld0 H.sw3.bxld0 H.sw1.bxld0 H.sw2.rep H.rep hT hBl' hin hjn).go ?_
        rintro _ _ ⟨rfl, r, rfl, hr⟩
        cases r with
        | true =>
          simp -implicitDefEqProofs (disch := first | omega | (simp only [List.length_set, List.length_replicate, List.length_append, List.length_map, List.length_take, List.length_cons, List.length_nil]; omega)) [wrap64]
          exact hJ2 _ _ hjn ⟨c', rfl, B', H, hBl', hP.keep fun _ => hr.1 rfl⟩
        | false =>
          simp -implicitDefEqProofs (disch := first | omega | (simp only [List.length_set, List.length_replicate, List.length_append, List.length_map, List.length_take, List.length_cons, List.length_nil]; omega)) [wrap64, H.sw1.bxld0, H.rep.U, u64_clrB]
          refine H.storeF (clrB (B'[i]'(by omega)) j) (i := i) (by omega) rfl rfl trivial rfl fun h14 H => ?_
          simp -implicitDefEqProofs (disch := first | omega | (simp only [List.length_set, List.length_replicate, List.length_append, List.length_map, List.length_take, List.length_cons, List.length_nil]; omega)) [wrap64]
          refine hJ2 _ _ hjn ⟨true, rfl, _, H, by simpa using hBl', ?_⟩
          rw [bitR_clr (by omega) (by omega)]
          exact hP.rem ha hin hjn (by rw [hbg, hb]) (fun hA => by have := hr.2 hA; simp at this)
    · simp -implicitDefEqProofs (disch := first | omega | (simp only [List.length_set, List.length_replicate, List.length_append, List.length_map, List.length_take, List.length_cons, List.length_nil]; omega)) [wrap64]
      exact hJ1 _ _ hin ⟨c', rfl, B', H, hBl', hP.next (by omega)⟩
  · simp -implicitDefEqProofs (disch := first | omega | (simp only [List.length_set, List.length_replicate, List.length_append, List.length_map, List.length_take, List.length_cons, List.length_nil]; omega)) [wrap64]
    refine hJ (B', c') _ _ ?_ ⟨rfl, H, hBl', hP.acc, hP.upper, fun hc => by dsimp only at hc; subst hc; exact hP.done (by omega)⟩
    cases c' with
    | true => have := hP.less rfl; simp; omega
    | false => simp [(hP.same rfl).1]
end Go.Proofs.Ytglnelcmcimljaa

/-
  The union of two automata, by the program and by the reference.
-/
namespace Go.Proofs.Ytglnelcmcimljaa
open Go
set_option linter.all false
set_option linter.unusedVariables false
set_option linter.unusedSimpArgs false
set_option linter.defProp false
set_option maxRecDepth 1000000

/-- what a union gives back -/
def unitR (h : Heap) (a b : Aut) (u : Value) (h' : Heap) : Prop := ∃ v, u = .tuple #[v, .bool (decide (a.Ok ∧ b.Ok ∧ (a.unite b).Ok))] ∧ HS h [ow v (if a.Ok ∧ b.Ok ∧ (a.unite b).Ok then a.unite b else Aut.empty)] h'
theorem unitR.no {h h' : Heap} {a b : Aut} (hn : ¬ (a.Ok ∧ b.Ok ∧ (a.unite b).Ok)) (H : HS h [] h') : unitR h a b (.tuple #[.agg #[.slice none 0 0, .slice none 0 0, .slice none 0 0], .bool false]) h' :=
  ⟨_, by rw [decide_eq_false hn], by rw [if_neg hn]; exact empty_ow H⟩
theorem unitR.yes {h h' : Heap} {a b : Aut} {v : Value} (hn : a.Ok ∧ b.Ok ∧ (a.unite b).Ok) (H : HS h [ow v (a.unite b)] h') : unitR h a b (.tuple #[v, .bool true]) h' :=
  ⟨_, by rw [decide_eq_true hn], by rw [if_pos hn]; exact H⟩

end Go.Proofs.Ytglnelcmcimljaa

/-
  What the program makes of the greatest simulation: its rows, and whether one automaton is simulated by another.
-/
namespace Go.Proofs.Ytglnelcmcimljaa
open Go
set_option linter.all false
set_option linter.unusedVariables false
set_option linter.unusedSimpArgs false
set_option linter.defProp false
set_option maxRecDepth 1000000

theorem c_SimulationRelation {h : Heap} {v : Value} {a : Aut} (Ra : Rep h v a) : CallE Try.prog fn_impl_SimulationRelation [v] h (fun u h' => ∃ (w : Value) (M : List (List Bool)), u = .tuple #[w, .bool (decide a.Ok)] ∧ HS h [ow w M] h' ∧
    ((¬ a.Ok ∧ M = []) ∨ (a.Ok ∧ M.length = a.acc.length ∧ (∀ r ∈ M, r.length = a.acc.length) ∧ Great a (matR M)))) := by
  obtain ⟨v1, v2, v3, rfl, R1, R2, R3⟩ := Rep_Aut.1 Ra
  refine CallE.gen fun k hk => EN_impl_SimulationRelation rfl ?_
  simp -implicitDefEqProofs (disch := first | omega | (simp only [List.length_set, List.length_replicate, List.length_append, List.length_map, List.length_take, List.length_cons, List.length_nil]; omega)) [wrap64]
  refine (c_AutomatonValid Ra).go ?_
  rintro _ h1 ⟨l1, rfl⟩
  by_cases ha : a.Ok
  case neg =>
    simp -implicitDefEqProofs (disch := first | omega | (simp only [List.length_set, List.length_replicate, List.length_append, List.length_map, List.length_take, List.length_cons, List.length_nil]; omega)) [wrap64, ha]
    exact RetK.keep (hk _ _ ⟨_, [], by simp [ha], HS.nil_ow (Γ := []) l1, .inl ⟨ha, rfl⟩⟩)
  have hn := ha.n
  simp -implicitDefEqProofs (disch := first | omega | (simp only [List.length_set, List.length_replicate, List.length_append, List.length_map, List.length_take, List.length_cons, List.length_nil]; omega)) [wrap64, ha, (R2.le l1).len]
  refine HS.mks (Γ := []) (g := h) (α := List Bool) (z := []) l1 rfl rfl own_nils (Nat.le_refl _) (by omega) (by omega) fun vo h2 H => ?_
  simp -implicitDefEqProofs (disch := first | omega | (simp only [List.length_set, List.length_replicate, List.length_append, List.length_map, List.length_take, List.length_cons, List.length_nil]; omega)) [wrap64]
  refine (c_simulation (Ra.on H) ha).go ?_
  rintro vb h3 ⟨B, HB, hBl, hG⟩
  have H := (HB.app H).sw1
  simp -implicitDefEqProofs (disch := first | omega | (simp only [List.length_set, List.length_replicate, List.length_append, List.length_map, List.length_take, List.length_cons, List.length_nil]; omega)) [wrap64, H.sw1.rep.len]
  rw [hBl]
  refine wp_count a.acc.length (fun i e h' => e = [none, some (.agg #[v1, v2, v3]), none, none, some vo, none, none, none, some vb, some (.int .i64 a.acc.length), some (.int .i64 i), none, none] ∧
    ∃ M, HS h [ow vo M, ow vb B] h' ∧ M.length = a.acc.length ∧ ∀ x, x < i → (M.getD x []).length = a.acc.length ∧ ∀ y, y < a.acc.length → matR M x y = bitR B x y) ⟨by simp, _, H, by simp, fun x hx => absurd hx (Nat.not_lt_zero x)⟩ ?_
  rintro J i _ h4 hJ hi ⟨rfl, M, H, hM, hR⟩
  simp -implicitDefEqProofs (disch := first | omega | (simp only [List.length_set, List.length_replicate, List.length_append, List.length_map, List.length_take, List.length_cons, List.length_nil]; omega)) [wrap64]
  refine IteW.mk (fun hlt => ?_) (fun hge => ?_)
  · have hin : i < a.acc.length := by omega
    simp -implicitDefEqProofs (disch := first | omega | (simp only [List.length_set, List.length_replicate, List.length_append, List.length_map, List.length_take, List.length_cons, List.length_nil]; omega)) [wrap64, H.sw1.rep.U, (R2.on H).len]
    refine H.mks (α := Bool) (z := false) rfl rfl own_false (Nat.le_refl _) (by omega) (by omega) fun vr h5 H => ?_
    simp -implicitDefEqProofs (disch := first | omega | (simp only [List.length_set, List.length_replicate, List.length_append, List.length_map, List.length_take, List.length_cons, List.length_nil]; omega)) [wrap64, H.sw1.rep.X (n := 1) rfl]
    refine H.store (i := i) (by omega) rfl rfl rfl fun h6 H => ?_
    obtain ⟨w, hw, Rw⟩ := H.rep.ldL (i := i) (by simpa [hM] using hin)
    rw [List.getElem_set_self] at Rw
    simp -implicitDefEqProofs (disch := first | omega | (simp only [List.length_set, List.length_replicate, List.length_append, List.length_map, List.length_take, List.length_cons, List.length_nil]; omega)) [wrap64, H.rep.X (n := 1) rfl, hM, hw, Rw.len]
    have hset : (M.set i (List.replicate a.acc.length false)).length = a.acc.length := by simpa using hM
    refine wp_count a.acc.length (fun j e h' => e = [none, some (.agg #[v1, v2, v3]), none, none, some vo, some (.int .i64 i), some (.int .u64 (B[i]'(by omega)).toNat), none, some vb, some (.int .i64 a.acc.length), some (.int .i64 i), some (.int .i64 a.acc.length), some (.int .i64 j)] ∧
      ∃ M', HS h [ow vo M', ow vb B] h' ∧ M'.length = a.acc.length ∧ (M'.getD i []).length = a.acc.length ∧ (∀ x, x < i → (M'.getD x []).length = a.acc.length ∧ ∀ y, y < a.acc.length → matR M' x y = bitR B x y) ∧ ∀ y, y < j → matR M' i y = bitR B i y) ⟨by simp, _, H, hset, by simp [hM, hin], fun x hx => ?_, fun y hy => absurd hy (Nat.not_lt_zero y)⟩ ?_
    · have h1 : ¬ i = x := by omega
      simp only [matR, List.getD_eq_getElem?_getD, List.getElem?_set, h1, if_false]
      simpa only [matR, List.getD_eq_getElem?_getD] using hR x hx
    rintro J2 j _ h7 hJ2 hj ⟨rfl, M', H, hM', hMi, hR', hRi⟩
    simp -implicitDefEqProofs (disch := first | omega | (simp only [List.length_set, List.length_replicate, List.length_append, List.length_map, List.length_take, List.length_cons, List.length_nil]; omega)) [wrap64]
    have hiM : i < M'.length := by omega
    have hMi' : M'[i].length = a.acc.length := by simpa [hiM] using hMi
    refine IteW.mk (fun hlt2 => ?_) (fun hge2 => ?_)
    · have hjn : j < a.acc.length := by omega
      obtain ⟨w, hw, HT⟩ := H.take hiM
      change hload _ (some (elp 1 vo i)) none = some w at hw
      have hbit : IntKind.u64.wrap 0 = 0 := rfl
      simp -implicitDefEqProofs (disch := first | omega | (simp only [List.length_set, List.length_replicate, List.length_append, List.length_map, List.length_take, List.length_cons, List.length_nil]; omega)) [wrap64, -BitVec.getLsbD_eq_getElem, H.rep.X (n := 1) rfl, hw, u64_bit, HT.rep.X (n := 1) rfl, hMi']
      refine HT.storeF ((B[i]'(by omega)).getLsbD j) (i := j) (by omega) rfl (by simp [valC, Flat.enc, Ty.agg]) trivial rfl fun h8 HT => ?_
      have H := HT.put
      simp -implicitDefEqProofs (disch := first | omega | (simp only [List.length_set, List.length_replicate, List.length_append, List.length_map, List.length_take, List.length_cons, List.length_nil]; omega)) [wrap64]
      refine hJ2 _ _ hjn ⟨rfl, _, H, by simpa using hM', by simp [hiM, hMi'], fun x hx => ?_, fun y hy => ?_⟩
      · have h1 : ¬ i = x := by omega
        have h2 := hR' x hx
        simp only [matR, List.getD_eq_getElem?_getD, List.getElem?_set, h1, if_false] at h2 ⊢
        exact h2
      · have h2 := hRi y
        simp only [matR, List.getD_eq_getElem?_getD, List.getElem?_set, if_true, hiM, List.getElem?_eq_getElem, Option.getD_some] at h2 ⊢
        by_cases hy2 : j = y
        · subst hy2
          rw [bitR_get (by omega)]
          simp [hMi', hjn]
        · simp only [hy2, if_false]
          exact h2 (by omega)
    · simp -implicitDefEqProofs (disch := first | omega | (simp only [List.length_set, List.length_replicate, List.length_append, List.length_map, List.length_take, List.length_cons, List.length_nil]; omega)) [wrap64]
      refine hJ _ _ hin ⟨rfl, _, H, hM', fun x hx => ?_⟩
      by_cases hxi : x = i
      · subst hxi; exact ⟨hMi, fun y hy => hRi y (by omega)⟩
      · exact hR' x (by omega)
  · simp -implicitDefEqProofs (disch := first | omega | (simp only [List.length_set, List.length_replicate, List.length_append, List.length_map, List.length_take, List.length_cons, List.length_nil]; omega)) [wrap64]
    have hlen : ∀ r ∈ M, r.length = a.acc.length := by
      intro r hr
      obtain ⟨x, hx, rfl⟩ := List.mem_iff_getElem.1 hr
      have := (hR x (by omega)).1
      simpa [hx] using this
    have hsame : ∀ x y, x < a.acc.length → y < a.acc.length → matR M x y = bitR B x y := fun x y hx hy => (hR x (by omega)).2 y hy
    refine RetK.keep (hk _ _ ⟨vo, M, by simp [ha], H.sw1.drop, .inr ⟨ha, hM, hlen, hG.congr ha fun x y hx hy => (hsame x y hx hy).symm⟩⟩)


/-- is each first state simulated by one of the other automaton's -/
def inclR (R : Rl) (a b : Aut) : Bool := a.init.all fun i => b.init.any fun j => R i.toNat (j.toNat + a.acc.length)
/-- what both programs answer -/
def InclA (a b : Aut) (r : Bool) : Prop := (¬ (a.Ok ∧ b.Ok ∧ (a.unite b).Ok) ∧ r = false) ∨ ((a.Ok ∧ b.Ok ∧ (a.unite b).Ok) ∧ ∃ R, Great (a.unite b) R ∧ r = inclR R a b)
theorem InclA.eq {a b : Aut} {r s : Bool} (h : InclA a b r) (h' : InclA a b s) : r = s := by
  rcases h with ⟨h1, rfl⟩ | ⟨h1, R, hR, rfl⟩
  · rcases h' with ⟨_, rfl⟩ | ⟨h2, _⟩
    · rfl
    · exact absurd h2 h1
  · rcases h' with ⟨h2, _⟩ | ⟨_, S, hS, rfl⟩
    · exact absurd h1 h2
    · obtain ⟨ha, hb, hc⟩ := h1
      have hl : (a.unite b).acc.length = a.acc.length + b.acc.length := by simp [Aut.unite]
      have : ∀ i ∈ a.init, ∀ j ∈ b.init, R i.toNat (j.toNat + a.acc.length) = S i.toNat (j.toNat + a.acc.length) := by
        intro i hi j hj
        have h1 := incr_mem ha.i i hi
        have h2 := incr_mem hb.i j hj
        exact hR.eq hS (by omega) (by omega)
      unfold inclR
      rw [Bool.eq_iff_iff, List.all_eq_true, List.all_eq_true]
      constructor <;> intro h i hi <;> have h3 := h i hi <;> rw [List.any_eq_true] at h3 ⊢ <;> obtain ⟨j, hj, h4⟩ := h3 <;> exact ⟨j, hj, by first | rw [this i hi j hj] at h4; exact h4 | rw [← this i hi j hj] at h4; exact h4⟩

end Go.Proofs.Ytglnelcmcimljaa

/-
  Plain laws: merging keeps the language and reduces; inclusion is sound; simplification.
-/
namespace Go.Proofs.Ytglnelcmcimljaa
open Go
set_option linter.all false
set_option linter.unusedVariables false
set_option linter.unusedSimpArgs false
set_option linter.defProp false
set_option maxRecDepth 1000000

/- numbers of classes -/
def cls (e : Nat → Nat → Bool) (n x : Nat) : Nat := (grpS e n).1.getD x 0
theorem gnm_cls {e : Nat → Nat → Bool} {n x : Nat} : gnm e n (x : Int) = (cls e n x : Int) := by simp [gnm, cls]
def Fresh (e : Nat → Nat → Bool) (r : Nat) : Prop := ∀ k, k < r → e r k = false
section
variable {e : Nat → Nat → Bool}
theorem grpS_mono {i n : Nat} (h : i ≤ n) : (grpS e i).2 ≤ (grpS e n).2 := by
  induction n with
  | zero => obtain rfl : i = 0 := by omega
            exact Nat.le_refl _
  | succ n ih =>
    by_cases hi : i = n + 1
    · subst hi; exact Nat.le_refl _
    · have := ih (by omega)
      cases hf : (List.range n).find? (fun k => e n k) with
      | some k => rw [grpS_old hf]; exact this
      | none => rw [grpS_new hf]; simp only; omega
theorem cls_new {n r : Nat} (hr : r < n) (hf : Fresh e r) : cls e n r = (grpS e r).2 := by
  have hn : (List.range r).find? (fun k => e r k) = none := find_none hf
  unfold cls
  rw [grpS_get (i := r + 1) (by omega) (by omega), grpS_new hn, List.getD_eq_getElem?_getD, List.getElem?_append_right (by rw [grpS_len]; exact Nat.le_refl _), grpS_len]
  simp
theorem cls_old {n q k : Nat} (hq : q < n) (hf : (List.range q).find? (fun k => e q k) = some k) : cls e n q = cls e n k := by
  have hk := find_lt hf
  unfold cls
  rw [grpS_get (i := q + 1) (n := n) (q := q) (by omega) (by omega), grpS_old hf, List.getD_eq_getElem?_getD, List.getElem?_append_right (by rw [grpS_len]; exact Nat.le_refl _), grpS_len,
    grpS_get (i := q) (n := n) (q := k) hk (by omega)]
  simp
theorem cls_lt {n x : Nat} (hx : x < n) : cls e n x < (grpS e n).2 := by
  have := gnm_lt (e := e) (n := n) (x := x) (by omega) (by omega)
  rw [gnm_cls] at this
  omega
theorem find_some {p : Nat → Bool} {i k : Nat} (h : (List.range i).find? p = some k) : p k = true := by
  have := List.find?_some h
  exact this
theorem find_fresh {r : Nat} (h : (List.range r).find? (fun k => e r k) = none) : Fresh e r := by
  intro k hk
  rw [List.find?_eq_none] at h
  have := h k (List.mem_range.2 hk)
  simpa using this
theorem cls_rep {n : Nat} (htr : ∀ x y z, x < n → y < n → z < n → e x y = true → e y z = true → e x z = true) : ∀ m q, q ≤ m → q < n → ∃ r, r < n ∧ (r = q ∨ e q r = true) ∧ cls e n r = cls e n q ∧ Fresh e r
  | m, q, hm, hq => by
    cases hf : (List.range q).find? (fun k => e q k) with
    | none => exact ⟨q, hq, .inl rfl, rfl, find_fresh hf⟩
    | some k =>
      have hk := find_lt hf
      have hek := find_some hf
      cases m with
      | zero => omega
      | succ m =>
        obtain ⟨r, h1, h2, h3, h4⟩ := cls_rep htr m k (by omega) (by omega)
        refine ⟨r, h1, .inr ?_, by rw [h3, cls_old hq hf], h4⟩
        rcases h2 with rfl | h2
        · exact hek
        · exact htr _ _ _ hq (by omega) h1 hek h2
theorem fresh_inj {n r s : Nat} (hr : r < n) (hs : s < n) (fr : Fresh e r) (fs : Fresh e s) (h : cls e n r = cls e n s) : r = s := by
  have lt : ∀ {r s : Nat}, r < n → s < n → Fresh e r → Fresh e s → r < s → cls e n r < cls e n s := by
    intro r s hr hs fr fs hlt
    rw [cls_new hs fs, cls_new hr fr]
    have h1 := grpS_new (e := e) (i := r) (find_none fr)
    have h2 := grpS_mono (e := e) (show r + 1 ≤ s by omega)
    rw [h1] at h2
    simp only at h2
    omega
  by_cases h1 : r < s
  · have := lt hr hs fr fs h1; omega
  by_cases h2 : s < r
  · have := lt hs hr fs fr h2; omega
  omega
theorem cls_same {n p q : Nat} (hsy : ∀ x y, x < n → y < n → e x y = true → e y x = true) (htr : ∀ x y z, x < n → y < n → z < n → e x y = true → e y z = true → e x z = true) (hp : p < n) (hq : q < n) :
    cls e n p = cls e n q ↔ p = q ∨ e p q = true := by
  obtain ⟨r, h1, h2, h3, h4⟩ := cls_rep htr p p (Nat.le_refl _) hp
  obtain ⟨s, g1, g2, g3, g4⟩ := cls_rep htr q q (Nat.le_refl _) hq
  constructor
  · intro h
    have hrs := fresh_inj h1 g1 h4 g4 (by rw [h3, g3, h])
    subst hrs
    rcases h2 with rfl | h2
    · rcases g2 with rfl | g2
      · exact .inl rfl
      · exact .inr (hsy _ _ hq hp g2)
    · rcases g2 with rfl | g2
      · exact .inr h2
      · exact .inr (htr _ _ _ hp h1 hq h2 (hsy _ _ hq h1 g2))
  · rintro (rfl | h)
    · rfl
    · have hrs : r = s := by
        have hers : r = s ∨ e r s = true := by
          rcases h2 with rfl | h2
          · rcases g2 with rfl | g2
            · exact .inr h
            · exact .inr (htr _ _ _ hp hq g1 h g2)
          · have h5 := htr _ _ _ h1 hp hq (hsy _ _ hp h1 h2) h
            rcases g2 with rfl | g2
            · exact .inr h5
            · exact .inr (htr _ _ _ h1 hq g1 h5 g2)
        rcases hers with h5 | h5
        · exact h5
        by_cases h6 : r < s
        · have := g4 r h6
          rw [hsy _ _ h1 g1 h5] at this
          simp at this
        by_cases h7 : s < r
        · have := h4 s h7
          rw [h5] at this
          simp at this
        omega
      rw [← h3, ← g3, hrs]
theorem accG_at {a : Aut} : ∀ {n r : Nat}, r < n → Fresh e r → (accG a e n).getD (grpS e r).2 false = a.acc.getD r false
  | 0, r, h, _ => absurd h (Nat.not_lt_zero r)
  | n + 1, r, h, hf => by
    have hl := accG_len (a := a) (e := e) n
    by_cases hr : r = n
    · subst hr
      unfold accG
      rw [find_none hf]
      simp only
      rw [List.getD_eq_getElem?_getD, List.getElem?_append_right (by omega), hl]
      simp
    · have ih := accG_at (a := a) (show r < n by omega) hf
      unfold accG
      split
      · exact ih
      · have h1 := grpS_new (e := e) (i := r) (find_none hf)
        have h2 := grpS_mono (e := e) (show r + 1 ≤ n by omega)
        rw [h1] at h2
        simp only at h2
        rw [List.getD_eq_getElem?_getD, List.getElem?_append_left (by omega), ← List.getD_eq_getElem?_getD]
        exact ih
end
section
variable {a : Aut} {R : Rl}
theorem eqv_iff {x y : Nat} : eqv R x y = true ↔ R x y = true ∧ R y x = true := by simp [eqv]
theorem eqv_sy {n : Nat} : ∀ x y, x < n → y < n → eqv R x y = true → eqv R y x = true := fun x y _ _ h => eqv_iff.2 (eqv_iff.1 h).symm
theorem eqv_tr (ha : a.Ok) (hR : Great a R) : ∀ x y z, x < a.acc.length → y < a.acc.length → z < a.acc.length → eqv R x y = true → eqv R y z = true → eqv R x z = true := fun x y z hx hy hz h k => by
  rw [eqv_iff] at *
  exact ⟨hR.trans ha hx hy hz h.1 k.1, hR.trans ha hz hy hx k.2 h.2⟩
theorem cls_R (ha : a.Ok) (hR : Great a R) {p q : Nat} (hp : p < a.acc.length) (hq : q < a.acc.length) (h : cls (eqv R) a.acc.length p = cls (eqv R) a.acc.length q) : R p q = true := by
  rcases (cls_same eqv_sy (eqv_tr ha hR) hp hq).1 h with rfl | h
  · exact hR.refl hp
  · exact (eqv_iff.1 h).1
theorem mrg_st {w : Nat → Int} {t p q : Nat} (h : StE a.edges w t p q) : StE (a.mergeE (eqv R)).edges w t (cls (eqv R) a.acc.length p) (cls (eqv R) a.acc.length q) := by
  obtain ⟨f, hf, h1, h2, h3⟩ := h
  exact ⟨_, ded_mem.2 (List.mem_map_of_mem hf), by simp only [Tr.ren, h1, gnm_cls], by simp only [Tr.ren, h2, gnm_cls], h3⟩
theorem mrg_st' (ha : a.Ok) {w : Nat → Int} {t x y : Nat} (h : StE (a.mergeE (eqv R)).edges w t x y) : ∃ p q, StE a.edges w t p q ∧ x = cls (eqv R) a.acc.length p ∧ y = cls (eqv R) a.acc.length q := by
  obtain ⟨f, hf, h1, h2, h3⟩ := h
  obtain ⟨g, hg, rfl⟩ := List.mem_map.1 (ded_mem.1 hf)
  obtain ⟨u, v, k1, k2, k3, k4⟩ := ha.tr hg
  simp only [Tr.ren, k1, k2, gnm_cls] at h1 h2
  exact ⟨u, v, ⟨g, hg, k1, k2, h3⟩, by omega, by omega⟩
theorem mrg_tru (ha : a.Ok) (hR : Great a R) {p : Nat} (hp : p < a.acc.length) : tru (a.mergeE (eqv R)).acc (cls (eqv R) a.acc.length p) ↔ tru a.acc p := by
  obtain ⟨r, h1, h2, h3, h4⟩ := cls_rep (eqv_tr ha hR) p p (Nat.le_refl _) hp
  have h5 := accG_at (a := a) h1 h4
  rw [← cls_new h1 h4, h3] at h5
  have e1 := cls_R ha hR hp h1 h3.symm
  have e2 := cls_R ha hR h1 hp h3
  show (accG a (eqv R) a.acc.length).getD _ false = true ↔ _
  rw [h5]
  exact ⟨fun h => hR.simu.1 r p h1 hp e2 h, fun h => hR.simu.1 p r hp h1 e1 h⟩
theorem mrg_ini (ha : a.Ok) {s : Nat} (h : (s : Int) ∈ a.init) : ((cls (eqv R) a.acc.length s : Nat) : Int) ∈ (a.mergeE (eqv R)).init := by
  refine memL_mem.2 ⟨_, rfl, cls_lt (ha.ini h), ?_⟩
  rw [List.any_eq_true]
  exact ⟨_, h, by rw [gnm_cls]; simp⟩
theorem mrg_ini' (ha : a.Ok) {x : Nat} (h : (x : Int) ∈ (a.mergeE (eqv R)).init) : ∃ s : Nat, (s : Int) ∈ a.init ∧ x = cls (eqv R) a.acc.length s := by
  obtain ⟨q, h1, h2, h3⟩ := memL_mem.1 h
  rw [List.any_eq_true] at h3
  obtain ⟨i, hi, h4⟩ := h3
  have h5 := incr_mem ha.i i hi
  obtain ⟨s, rfl⟩ : ∃ s : Nat, i = s := ⟨i.toNat, by omega⟩
  rw [gnm_cls, decide_eq_true_eq] at h4
  exact ⟨s, hi, by omega⟩
/-- merging keeps the language -/
theorem mergeE_lang (ha : a.Ok) (hR : Great a R) {w : Nat → Int} (hw : Letters w) : (a.mergeE (eqv R)).Lang w ↔ a.Lang w := by
  constructor
  · rintro ⟨x, hx, h⟩
    obtain ⟨s, h1, rfl⟩ := mrg_ini' ha hx
    have hs := ha.ini h1
    refine ⟨s, h1, Run.sim (fun x p => p < a.acc.length ∧ ∃ y, y < a.acc.length ∧ x = cls (eqv R) a.acc.length y ∧ R y p = true) ?_ ?_ h ⟨hs, s, hs, rfl, hR.refl hs⟩⟩
    · rintro t x x' p ⟨g1, y, g2, rfl, g3⟩ g4 _
      obtain ⟨u, v, ⟨e, he, k1, k2, k3⟩, k4, rfl⟩ := mrg_st' ha g4
      obtain ⟨u', v', m1, m2, m3, m4⟩ := ha.tr he
      obtain rfl : u' = u := by omega
      obtain rfl : v' = v := by omega
      have h5 := hR.trans ha m3 g2 g1 (cls_R ha hR m3 g2 k4.symm) g3
      have h6 := hw t
      obtain ⟨n, hn⟩ : ∃ n : Nat, w t = n := ⟨(w t).toNat, by omega⟩
      rw [hn] at k3
      obtain ⟨f, hf, n1, n2, n3⟩ := hR.simu.2 _ p m3 g1 h5 n (by omega) e he k1 k3
      obtain ⟨c, d, o1, o2, o3, o4⟩ := ha.tr hf
      rw [k2, o2, Int.toNat_natCast, Int.toNat_natCast] at n3
      exact ⟨d, ⟨f, hf, n1, o2, by rw [hn]; exact n2⟩, o4, _, m4, rfl, n3⟩
    · rintro x p ⟨g1, y, g2, rfl, g3⟩ g4
      exact hR.simu.1 y p g2 g1 g3 ((mrg_tru ha hR g2).1 g4)
  · rintro ⟨s, hs, h⟩
    refine ⟨_, mrg_ini ha hs, Run.sim (fun p x => p < a.acc.length ∧ x = cls (eqv R) a.acc.length p) ?_ ?_ h ⟨ha.ini hs, rfl⟩⟩
    · rintro t p q x ⟨g1, rfl⟩ g2 _
      exact ⟨_, mrg_st g2, (ha.st g2).2, rfl⟩
    · rintro p x ⟨g1, rfl⟩ g2
      exact (mrg_tru ha hR g1).2 g2
end
/-- there is a greatest simulation -/
theorem Great.ex {a : Aut} (ha : a.Ok) : ∃ R, Great a R := by
  refine ⟨fun i j => @decide (∃ S, Simu a S ∧ S i j = true) (Classical.propDecidable _), ⟨?_, ?_⟩, ?_⟩
  · intro i j hi hj h h1
    simp only [decide_eq_true_eq] at h
    obtain ⟨S, hS, h2⟩ := h
    exact hS.1 i j hi hj h2 h1
  · intro i j hi hj h
    simp only [decide_eq_true_eq] at h
    obtain ⟨S, hS, h2⟩ := h
    refine (hS.2 i j hi hj h2).mono ha fun x y _ _ hxy => ?_
    simp only [decide_eq_true_eq]
    exact ⟨S, hS, hxy⟩
  · intro S hS i j _ _ h
    simp only [decide_eq_true_eq]
    exact ⟨S, hS, h⟩
theorem mrg_lang {a : Aut} (ha : a.Ok) {w : Nat → Int} (hw : Letters w) : a.mrg.Lang w ↔ a.Lang w := by
  obtain ⟨R, hR⟩ := Great.ex ha
  rw [← Aut.mrg_eq hR]
  exact mergeE_lang ha hR hw
theorem rnd_lang {a : Aut} (ha : a.Ok) {w : Nat → Int} (hw : Letters w) : a.rnd.Lang w ↔ a.Lang w := (mrg_lang (Aut.trim_ok ha) hw).trans (trim_lang ha)
theorem SmpR.all {a r : Aut} (h : SmpR a r) : a.Ok → (∀ {w}, Letters w → (r.Lang w ↔ a.Lang w)) ∧ r.acc.length ≤ a.acc.length ∧ r.rnd = r := by
  induction h with
  | stop h => intro ha; exact ⟨fun _ => Iff.rfl, Nat.le_refl _, h⟩
  | more h _ ih =>
    intro ha
    obtain ⟨h1, h2, h3⟩ := ih (Aut.rnd_ok ha)
    have h4 := (Aut.mrg_len (Aut.trim_ok ha)).1
    have h5 := (Aut.trim_len ha).1
    exact ⟨fun hw => (h1 hw).trans (rnd_lang ha hw), Nat.le_trans h2 (Nat.le_trans h4 h5), h3⟩
section
variable {a b : Aut}
end
end Go.Proofs.Ytglnelcmcimljaa

/-
  The reference's search for the greatest simulation, and what it makes of it.
-/
namespace Go.Proofs.Ytglnelcmcimljaa
open Go
set_option linter.all false
set_option linter.unusedVariables false
set_option linter.unusedSimpArgs false
set_option linter.defProp false
set_option maxRecDepth 1000000

/-- the edges that leave a state -/
def leav (es : List Tr) (i : Nat) : List Tr := es.filter fun e => e.frm = (i : Int)
theorem leav_take {es : List Tr} {k i : Nat} (hk : k < es.length) : leav (es.take (k + 1)) i = leav (es.take k) i ++ (if es[k].frm = (i : Int) then [es[k]] else []) := by
  rw [leav, leav, List.take_add_one, List.getElem?_eq_getElem hk]
  simp only [Option.toList_some, List.filter_append]
  congr 1
  by_cases h : es[k].frm = (i : Int) <;> simp [h]
theorem leav_len {es : List Tr} {i : Nat} : (leav es i).length ≤ es.length := List.length_filter_le _ _

theorem c_l13Leaving {h : Heap} {v : Value} {a : Aut} (Ra : Rep h v a) (ha : a.Ok) : CallE Try.prog fn_spec_l13Leaving [v] h (fun u h' => ∃ L : List (List Tr), HS h [ow u L] h' ∧ L.length = a.acc.length ∧ ∀ i (hi : i < L.length), L[i] = leav a.edges i) := by
  obtain ⟨v1, v2, v3, rfl, R1, R2, R3⟩ := Rep_Aut.1 Ra
  refine CallE.gen fun k hk => EN_spec_l13Leaving rfl ?_
  have hn := ha.n
  have he := ha.e
  simp -implicitDefEqProofs (disch := first | omega | (simp only [List.length_set, List.length_replicate, List.length_append, List.length_map, List.length_take, List.length_cons, List.length_nil]; omega)) [wrap64, R2.len]
  refine HS.init.mks (α := List Tr) (z := []) rfl rfl own_nils (Nat.le_refl _) (by omega) (by omega) fun vo h1 H => ?_
  simp -implicitDefEqProofs (disch := first | omega | (simp only [List.length_set, List.length_replicate, List.length_append, List.length_map, List.length_take, List.length_cons, List.length_nil]; omega)) [wrap64]
  refine wp_count a.edges.length (fun k e h' => e = [none, some (.agg #[v1, v2, v3]), none, some vo, some (.int .i64 k)] ∧
    ∃ L : List (List Tr), HS h [ow vo L] h' ∧ L.length = a.acc.length ∧ ∀ i (hi : i < L.length), L[i] = leav (a.edges.take k) i) ⟨by simp, _, H, by simp, fun i hi => by simp [leav]⟩ ?_
  rintro J k _ h2 hJ hi ⟨rfl, L, H, hL, hE⟩
  simp -implicitDefEqProofs (disch := first | omega | (simp only [List.length_set, List.length_replicate, List.length_append, List.length_map, List.length_take, List.length_cons, List.length_nil]; omega)) [wrap64, (R3.on H).len]
  refine IteW.mk (fun hlt => ?_) (fun hge => ?_)
  · have hlx : k < a.edges.length := by omega
    have hx := ha.t hlx
    have hv := R3.okTr hlx
    unfold Tr.Ok at hx
    obtain ⟨f, hf⟩ : ∃ f : Nat, a.edges[k].frm = f := ⟨a.edges[k].frm.toNat, by omega⟩
    have hfL : f < L.length := by omega
    obtain ⟨w, hw, HT⟩ := H.take hfL
    change hload _ (some (elp 1 vo f)) none = some w at hw
    have hl := leav_len (es := a.edges.take k) (i := f)
    have hl2 : (a.edges.take k).length ≤ a.edges.length := by simp; omega
    rw [hE f hfL] at HT
    simp -implicitDefEqProofs (disch := first | omega | (simp only [List.length_set, List.length_replicate, List.length_append, List.length_map, List.length_take, List.length_cons, List.length_nil]; omega)) [wrap64, (R3.on H).fTr, (R3.on H).xTr, hf, H.rep.X (n := 1) rfl, hw, Tr.v, setC]
    refine HT.app1 a.edges[k] rfl rfl ?_ (R3.okF hlx) rfl rfl ?_ (by omega) fun w' h3 HT => ?_
    · rw [← hf]; rfl
    · omega
    simp -implicitDefEqProofs (disch := first | omega | (simp only [List.length_set, List.length_replicate, List.length_append, List.length_map, List.length_take, List.length_cons, List.length_nil]; omega)) [wrap64, HS.holeia HT.sw1 (n := 1) rfl hfL, (R3.on HT).fTr, hf]
    refine HS.storeH HT rfl rfl rfl fun h4 H => ?_
    simp -implicitDefEqProofs (disch := first | omega | (simp only [List.length_set, List.length_replicate, List.length_append, List.length_map, List.length_take, List.length_cons, List.length_nil]; omega)) [wrap64]
    refine hJ _ _ hlx ⟨rfl, _, H, by simpa using hL, fun i hi => ?_⟩
    rw [leav_take hlx, hf]
    rw [List.getElem_set]
    by_cases hif : f = i
    · subst hif; simp
    · have h5 : ¬ (f : Int) = (i : Int) := by omega
      rw [if_neg hif, if_neg h5, hE i (by simpa using hi)]; simp
  · simp -implicitDefEqProofs (disch := first | omega | (simp only [List.length_set, List.length_replicate, List.length_append, List.length_map, List.length_take, List.length_cons, List.length_nil]; omega)) [wrap64]
    rw [List.take_of_length_le (by omega)] at hE
    exact RetK.keep (hk _ _ ⟨L, H, hL, hE⟩)

theorem c_l13Answers {h : Heap} {v w u : Value} {fs gs : List Tr} {M : List (List Bool)} {n : Nat} (hn : n ≤ 64) (Rf : Rep h v fs) (Rg : Rep h w gs) (RM : Rep h u M) (hM : M.length = n) (hr : ∀ r ∈ M, r.length = n) (hf : ∀ e ∈ fs, e.Ok n) (hg : ∀ e ∈ gs, e.Ok n) :
    CallE Try.prog fn_spec_l13Answers [v, w, u] h (fun z h' => h' = h ∧ ∃ r : Bool, z = .bool r ∧ (r = true ↔ ∀ l : Nat, l < 8 → ∀ e ∈ fs, e.on l = true → ∃ f ∈ gs, f.on l = true ∧ matR M e.to.toNat f.to.toNat = true)) := by
  refine CallE.gen fun k hk => EN_spec_l13Answers rfl ?_
  have e1 := Rf.lt
  have e2 := Rg.lt
  simp -implicitDefEqProofs (disch := first | omega | (simp only [List.length_set, List.length_replicate, List.length_append, List.length_map, List.length_take, List.length_cons, List.length_nil]; omega)) [wrap64]
  refine wp_count 8 (fun l e h' => h' = h ∧ e = [some v, some w, some u, none, some (.int .i64 l), none, none, none] ∧
    ∀ l' < l, ∀ e ∈ fs, e.on (l' : Nat) = true → ∃ f ∈ gs, f.on (l' : Nat) = true ∧ matR M e.to.toNat f.to.toNat = true) ⟨rfl, by simp, fun l' hl' => absurd hl' (Nat.not_lt_zero l')⟩ ?_
  rintro J l _ h hJ hl ⟨rfl, rfl, hA⟩
  simp -implicitDefEqProofs (disch := first | omega | (simp only [List.length_set, List.length_replicate, List.length_append, List.length_map, List.length_take, List.length_cons, List.length_nil]; omega)) [wrap64]
  refine IteW.mk (fun hlt => ?_) (fun hge => ?_)
  · have hl8 : l < 8 := by omega
    simp -implicitDefEqProofs (disch := first | omega | (simp only [List.length_set, List.length_replicate, List.length_append, List.length_map, List.length_take, List.length_cons, List.length_nil]; omega)) [wrap64]
    refine wp_count fs.length (fun k e h' => h' = _ ∧ e = [some v, some w, some u, none, some (.int .i64 l), some (.int .i64 k), none, none] ∧
      ∀ k' (hk' : k' < fs.length), k' < k → fs[k'].on (l : Nat) = true → ∃ f ∈ gs, f.on (l : Nat) = true ∧ matR M fs[k'].to.toNat f.to.toNat = true) ⟨rfl, by simp, fun k' _ hk' => absurd hk' (Nat.not_lt_zero k')⟩ ?_
    rintro J2 k _ h hJ2 hk2 ⟨rfl, rfl, hA2⟩
    simp -implicitDefEqProofs (disch := first | omega | (simp only [List.length_set, List.length_replicate, List.length_append, List.length_map, List.length_take, List.length_cons, List.length_nil]; omega)) [wrap64, Rf.len]
    refine IteW.mk (fun hlt2 => ?_) (fun hge2 => ?_)
    · have hkx : k < fs.length := by omega
      have hnext : (fs[k].on (l : Nat) = true → ∃ f ∈ gs, f.on (l : Nat) = true ∧ matR M fs[k].to.toNat f.to.toNat = true) → ∀ k' (hk' : k' < fs.length), k' < k + 1 → fs[k'].on (l : Nat) = true → ∃ f ∈ gs, f.on (l : Nat) = true ∧ matR M fs[k'].to.toNat f.to.toNat = true := by
        intro h0 k' hk' hkk ho
        by_cases h1 : k' = k
        · subst h1; exact h0 ho
        · exact hA2 k' hk' (by omega) ho
      simp -implicitDefEqProofs (disch := first | omega | (simp only [List.length_set, List.length_replicate, List.length_append, List.length_map, List.length_take, List.length_cons, List.length_nil]; omega)) [wrap64, Rf.xTr]
      refine (c_l7On (Rep_Tr.2 ⟨rfl, Rf.okTr hkx⟩)).go ?_
      rintro _ _ ⟨rfl, rfl⟩
      by_cases ho : fs[k].on l = true
      case neg =>
        simp -implicitDefEqProofs (disch := first | omega | (simp only [List.length_set, List.length_replicate, List.length_append, List.length_map, List.length_take, List.length_cons, List.length_nil]; omega)) [wrap64, ho]
        exact hJ2 _ _ hkx ⟨rfl, rfl, hnext fun h => absurd h ho⟩
      have hok := hf _ (List.getElem_mem hkx)
      unfold Tr.Ok at hok
      obtain ⟨t, ht⟩ : ∃ t : Nat, fs[k].to = t := ⟨fs[k].to.toNat, by omega⟩
      rw [ht, Int.toNat_natCast] at hnext
      obtain ⟨z, hz, Rz⟩ := RM.ldL (i := t) (by omega)
      have hzl := hr _ (List.getElem_mem (show t < M.length by omega))
      simp -implicitDefEqProofs (disch := first | omega | (simp only [List.length_set, List.length_replicate, List.length_append, List.length_map, List.length_take, List.length_cons, List.length_nil]; omega)) [wrap64, ho]
      refine wp_while (σ := Nat × Bool) (fun s e h' => h' = _ ∧ e = [some v, some w, some u, none, some (.int .i64 l), some (.int .i64 k), some (.bool s.2), some (.int .i64 s.1)] ∧ s.1 ≤ gs.length ∧
        (if s.2 = true then ∃ f ∈ gs, f.on (l : Nat) = true ∧ matR M t f.to.toNat = true else ∀ m' (hm' : m' < gs.length), m' < s.1 → ¬ (gs[m'].on (l : Nat) = true ∧ matR M t gs[m'].to.toNat = true)))
        (fun s => gs.length - s.1) (0, false) ⟨rfl, by simp, by simp, by simp⟩ ?_
      rintro J3 ⟨m, some'⟩ _ h hJ3 ⟨rfl, rfl, hm, hS⟩
      dsimp only at hm hS
      by_cases hmx : m < gs.length
      case neg =>
        simp -implicitDefEqProofs (disch := first | omega | (simp only [List.length_set, List.length_replicate, List.length_append, List.length_map, List.length_take, List.length_cons, List.length_nil]; omega)) [wrap64, Rg.len, hmx]
        cases some' with
        | true =>
          simp -implicitDefEqProofs (disch := first | omega | (simp only [List.length_set, List.length_replicate, List.length_append, List.length_map, List.length_take, List.length_cons, List.length_nil]; omega)) [wrap64]
          exact hJ2 _ _ hkx ⟨rfl, rfl, hnext fun _ => by simpa using hS⟩
        | false =>
          simp -implicitDefEqProofs (disch := first | omega | (simp only [List.length_set, List.length_replicate, List.length_append, List.length_map, List.length_take, List.length_cons, List.length_nil]; omega)) [wrap64]
          refine RetK.keep (hk _ _ ⟨rfl, false, rfl, ?_⟩)
          simp only [Bool.false_eq_true, false_iff]
          intro h
          obtain ⟨f, hf, h1, h2⟩ := h l hl8 _ (List.getElem_mem hkx) ho
          obtain ⟨m', hm', rfl⟩ := List.mem_iff_getElem.1 hf
          rw [ht, Int.toNat_natCast] at h2
          exact (by simpa using hS : ∀ m' (hm' : m' < gs.length), m' < m → ¬ (gs[m'].on (l : Nat) = true ∧ matR M t gs[m'].to.toNat = true)) m' hm' (by omega) ⟨h1, h2⟩
      cases some' with
      | true =>
        simp -implicitDefEqProofs (disch := first | omega | (simp only [List.length_set, List.length_replicate, List.length_append, List.length_map, List.length_take, List.length_cons, List.length_nil]; omega)) [wrap64, Rg.len, hmx]
        exact hJ2 _ _ hkx ⟨rfl, rfl, hnext fun _ => by simpa using hS⟩
      | false =>
        have hS' : ∀ m' (hm' : m' < gs.length), m' < m → ¬ (gs[m'].on (l : Nat) = true ∧ matR M t gs[m'].to.toNat = true) := by simpa using hS
        simp -implicitDefEqProofs (disch := first | omega | (simp only [List.length_set, List.length_replicate, List.length_append, List.length_map, List.length_take, List.length_cons, List.length_nil]; omega)) [wrap64, Rg.len, hmx, Rg.xTr]
        refine (c_l7On (Rep_Tr.2 ⟨rfl, Rg.okTr hmx⟩)).go ?_
        rintro _ _ ⟨rfl, rfl⟩
        by_cases ho2 : gs[m].on l = true
        · have hok2 := hg _ (List.getElem_mem hmx)
          unfold Tr.Ok at hok2
          obtain ⟨t2, ht2⟩ : ∃ t2 : Nat, gs[m].to = t2 := ⟨gs[m].to.toNat, by omega⟩
          simp -implicitDefEqProofs (disch := first | omega | (simp only [List.length_set, List.length_replicate, List.length_append, List.length_map, List.length_take, List.length_cons, List.length_nil]; omega)) [wrap64, ho2, Rf.X (n := 4) rfl, Rf.fTr, ht, RM.X (n := 1) rfl, hz, Rg.X (n := 4) rfl, Rg.fTr, ht2, Rz.B]
          refine hJ3 (m + 1, M[t][t2]'(by omega)) _ _ (by simp; omega) ⟨rfl, rfl, hmx, ?_⟩
          have hmat : matR M t t2 = M[t][t2]'(by omega) := matR_get (by omega) (by omega)
          cases hb : M[t][t2]'(by omega) with
          | true => exact ⟨_, List.getElem_mem hmx, ho2, by rw [ht2]; simp [hmat, hb]⟩
          | false =>
            simp only [Bool.false_eq_true, if_false]
            intro m' hm' hmm
            by_cases h1 : m' = m
            · subst h1; rintro ⟨_, h2⟩; rw [ht2, Int.toNat_natCast, hmat, hb] at h2; simp at h2
            · exact hS' m' hm' (by omega)
        · simp -implicitDefEqProofs (disch := first | omega | (simp only [List.length_set, List.length_replicate, List.length_append, List.length_map, List.length_take, List.length_cons, List.length_nil]; omega)) [wrap64, ho2]
          refine hJ3 (m + 1, false) _ _ (by simp; omega) ⟨rfl, rfl, hmx, ?_⟩
          simp only [Bool.false_eq_true, if_false]
          intro m' hm' hmm
          by_cases h1 : m' = m
          · subst h1; exact fun h => ho2 h.1
          · exact hS' m' hm' (by omega)
    · simp -implicitDefEqProofs (disch := first | omega | (simp only [List.length_set, List.length_replicate, List.length_append, List.length_map, List.length_take, List.length_cons, List.length_nil]; omega)) [wrap64]
      refine hJ _ _ hl8 ⟨rfl, rfl, fun l' hl' e he ho => ?_⟩
      by_cases h1 : l' = l
      · subst h1
        obtain ⟨k', hk', rfl⟩ := List.mem_iff_getElem.1 he
        exact hA2 k' hk' (by omega) ho
      · exact hA l' (by omega) e he ho
  · simp -implicitDefEqProofs (disch := first | omega | (simp only [List.length_set, List.length_replicate, List.length_append, List.length_map, List.length_take, List.length_cons, List.length_nil]; omega)) [wrap64]
    refine RetK.keep (hk _ _ ⟨rfl, true, rfl, ?_⟩)
    simp only [true_iff]
    intro l' hl' e he ho
    exact hA l' (by omega) e he ho

theorem c_l13Relation {h : Heap} {v : Value} {a : Aut} (Ra : Rep h v a) (ha : a.Ok) : CallE Try.prog fn_spec_l13Relation [v] h (fun u h' => ∃ M : List (List Bool), HS h [ow u M] h' ∧ M.length = a.acc.length ∧ (∀ r ∈ M, r.length = a.acc.length) ∧ Great a (matR M)) := by
  obtain ⟨v1, v2, v3, rfl, R1, R2, R3⟩ := Rep_Aut.1 Ra
  refine CallE.gen fun k hk => EN_spec_l13Relation rfl ?_
  have hn := ha.n
  have he := ha.e
  simp -implicitDefEqProofs (disch := first | omega | (simp only [List.length_set, List.length_replicate, List.length_append, List.length_map, List.length_take, List.length_cons, List.length_nil]; omega)) [wrap64, R2.len]
  refine HS.init.bls0 (List Bool) fun vm h1 H => ?_
  simp -implicitDefEqProofs (disch := first | omega | (simp only [List.length_set, List.length_replicate, List.length_append, List.length_map, List.length_take, List.length_cons, List.length_nil]; omega)) [wrap64]
  refine wp_count a.acc.length (fun i e h' => ∃ vm, e = [none, some (.agg #[v1, v2, v3]), none, some (.int .i64 a.acc.length), some vm, some (.int .i64 i), none, none, none, none, none, none] ∧
    ∃ M : List (List Bool), HS h [ow vm M] h' ∧ M.length = i ∧ ∀ x (hx : x < M.length), M[x] = (List.range a.acc.length).map (acc0 a x)) ⟨vm, by simp, [], H, rfl, fun x hx => by simp at hx⟩ ?_
  rintro J i _ h2 hJ hi ⟨vm, rfl, M, H, hM, hE⟩
  simp -implicitDefEqProofs (disch := first | omega | (simp only [List.length_set, List.length_replicate, List.length_append, List.length_map, List.length_take, List.length_cons, List.length_nil]; omega)) [wrap64]
  refine IteW.mk (fun hlt => ?_) (fun hge => ?_)
  · have hin : i < a.acc.length := by omega
    simp -implicitDefEqProofs (disch := first | omega | (simp only [List.length_set, List.length_replicate, List.length_append, List.length_map, List.length_take, List.length_cons, List.length_nil]; omega)) [wrap64]
    refine H.bls0 Bool fun vr h3 H => ?_
    simp -implicitDefEqProofs (disch := first | omega | (simp only [List.length_set, List.length_replicate, List.length_append, List.length_map, List.length_take, List.length_cons, List.length_nil]; omega)) [wrap64]
    refine wp_count a.acc.length (fun j e h' => ∃ vr, e = [none, some (.agg #[v1, v2, v3]), none, some (.int .i64 a.acc.length), some vm, some (.int .i64 i), some vr, some (.int .i64 j), none, none, none, none] ∧
      HS h [ow vr ((List.range j).map (acc0 a i)), ow vm M] h') ⟨vr, by simp, H⟩ ?_
    rintro J2 j _ h4 hJ2 hj ⟨vr, rfl, H⟩
    simp -implicitDefEqProofs (disch := first | omega | (simp only [List.length_set, List.length_replicate, List.length_append, List.length_map, List.length_take, List.length_cons, List.length_nil]; omega)) [wrap64]
    refine IteW.mk (fun hlt2 => ?_) (fun hge2 => ?_)
    · have hjn : j < a.acc.length := by omega
      have hc := cond_acc0 hin hjn
      have hnext : ∀ b : Bool, b = acc0 a i j → (List.range j).map (acc0 a i) ++ [b] = (List.range (j + 1)).map (acc0 a i) := by
        rintro b rfl; rw [List.range_succ, List.map_append]; rfl
      by_cases h1 : a.acc[i] = true
      · simp -implicitDefEqProofs (disch := first | omega | (simp only [List.length_set, List.length_replicate, List.length_append, List.length_map, List.length_take, List.length_cons, List.length_nil]; omega)) [wrap64, (R2.on H).B, h1]
        refine H.app1 a.acc[j] rfl rfl rfl trivial rfl rfl ?_ ?_ fun vr' h5 H => ?_
        · simp; omega
        · simp; omega
        simp -implicitDefEqProofs (disch := first | omega | (simp only [List.length_set, List.length_replicate, List.length_append, List.length_map, List.length_take, List.length_cons, List.length_nil]; omega)) [wrap64]
        rw [hnext _ (by rw [hc, h1]; simp)] at H
        exact hJ2 _ _ hjn ⟨vr', rfl, H⟩
      · simp -implicitDefEqProofs (disch := first | omega | (simp only [List.length_set, List.length_replicate, List.length_append, List.length_map, List.length_take, List.length_cons, List.length_nil]; omega)) [wrap64, (R2.on H).B, h1]
        refine H.app1 true rfl rfl rfl trivial rfl rfl ?_ ?_ fun vr' h5 H => ?_
        · simp; omega
        · simp; omega
        simp -implicitDefEqProofs (disch := first | omega | (simp only [List.length_set, List.length_replicate, List.length_append, List.length_map, List.length_take, List.length_cons, List.length_nil]; omega)) [wrap64]
        rw [hnext _ (by rw [hc]; simp [h1])] at H
        exact hJ2 _ _ hjn ⟨vr', rfl, H⟩
    · simp -implicitDefEqProofs (disch := first | omega | (simp only [List.length_set, List.length_replicate, List.length_append, List.length_map, List.length_take, List.length_cons, List.length_nil]; omega)) [wrap64, H.rep.cells]
      have hjn : j = a.acc.length := by omega
      subst hjn
      refine H.appO rfl rfl (by rw [H.rep.cells]; rfl) rfl rfl ?_ ?_ fun vm' h5 H => ?_
      · omega
      · omega
      simp -implicitDefEqProofs (disch := first | omega | (simp only [List.length_set, List.length_replicate, List.length_append, List.length_map, List.length_take, List.length_cons, List.length_nil]; omega)) [wrap64]
      refine hJ _ _ hin ⟨vm', rfl, _, H, by simp [hM], fun x hx => ?_⟩
      by_cases hxi : x < M.length
      · rw [List.getElem_append_left hxi]; exact hE x hxi
      · have : x = i := by simp at hx; omega
        subst this
        rw [List.getElem_append_right (by omega)]; simp
  simp -implicitDefEqProofs (disch := first | omega | (simp only [List.length_set, List.length_replicate, List.length_append, List.length_map, List.length_take, List.length_cons, List.length_nil]; omega)) [wrap64]
  have hMn : M.length = a.acc.length := by omega
  have hr : ∀ r ∈ M, r.length = a.acc.length := by
    intro r hr
    obtain ⟨x, hx, rfl⟩ := List.mem_iff_getElem.1 hr
    rw [hE x hx]; simp
  have hB2 : ∀ x y, x < a.acc.length → y < a.acc.length → matR M x y = acc0 a x y := by
    intro x y hx hy
    have h1 := hE x (by omega)
    rw [matR_get (by omega) (by rw [h1]; simpa using hy)]
    simp [h1]
  have hA : AccR a (matR M) := fun x y hx hy hr => acc0_acc a x y hx hy (by rw [← hB2 x y hx hy]; exact hr)
  have hU : Upper a (matR M) := fun S hS x y hx hy hr => by rw [hB2 x y hx hy]; exact acc0_upper a S hS x y hx hy hr
  refine (c_l13Leaving (Ra.on H) ha).go ?_
  rintro vl h3 ⟨L, HL, hL, hLE⟩
  have H := (HL.app H).sw1
  simp -implicitDefEqProofs (disch := first | omega | (simp only [List.length_set, List.length_replicate, List.length_append, List.length_map, List.length_take, List.length_cons, List.length_nil]; omega)) [wrap64]
  have hok : ∀ i (hi : i < L.length), ∀ e ∈ L[i], e.Ok a.acc.length := by
    intro i hi e he
    rw [hLE i hi] at he
    exact ha.2.2.2 e (List.mem_filter.1 he).1
  have hans : ∀ M : List (List Bool), ∀ i j (hi : i < L.length) (hj : j < L.length), ((∀ l : Nat, l < 8 → ∀ e ∈ L[i], e.on l = true → ∃ f ∈ L[j], f.on l = true ∧ matR M e.to.toNat f.to.toNat = true) ↔ Ans a (matR M) i j) := by
    intro M i j hi hj
    rw [hLE i hi, hLE j hj]
    simp only [leav, List.mem_filter, decide_eq_true_eq]
    constructor
    · intro h l hl e he h1 h2
      obtain ⟨f, ⟨hf, h3⟩, h4⟩ := h l hl e ⟨he, h1⟩ h2
      exact ⟨f, hf, h3, h4⟩
    · rintro h l hl e ⟨he, h1⟩ h2
      obtain ⟨f, hf, h3, h4⟩ := h l hl e he h1 h2
      exact ⟨f, ⟨hf, h3⟩, h4⟩
  refine wp_while (σ := List (List Bool) × Bool) (fun s e h' => e = [none, none, none, some (.int .i64 a.acc.length), some vm, none, none, none, some vl, some (.bool s.2), none, none] ∧
    HS h [ow vm s.1, ow vl L] h' ∧ s.1.length = a.acc.length ∧ (∀ r ∈ s.1, r.length = a.acc.length) ∧ AccR a (matR s.1) ∧ Upper a (matR s.1) ∧ (s.2 = false → Great a (matR s.1)))
    (fun s => 2 * cnt2 a.acc.length (matR s.1) + (if s.2 then 1 else 0)) (M, true) ⟨by simp, H, hMn, hr, hA, hU, by simp⟩ ?_
  rintro J ⟨B, c⟩ _ h11 hJ ⟨rfl, H, hBl, hBr, hA, hU, hG⟩
  dsimp only at H hBl hBr hA hU hG
  simp -implicitDefEqProofs (disch := first | omega | (simp only [List.length_set, List.length_replicate, List.length_append, List.length_map, List.length_take, List.length_cons, List.length_nil]; omega)) [wrap64]
  cases c with
  | false =>
    simp -implicitDefEqProofs (disch := first | omega | (simp only [List.length_set, List.length_replicate, List.length_append, List.length_map, List.length_take, List.length_cons, List.length_nil]; omega)) [wrap64]
    exact RetK.keep (hk _ _ ⟨B, H.sw1.drop, hBl, hBr, hG rfl⟩)
  | true =>
  simp -implicitDefEqProofs (disch := first | omega | (simp only [List.length_set, List.length_replicate, List.length_append, List.length_map, List.length_take, List.length_cons, List.length_nil]; omega)) [wrap64]
  refine wp_count a.acc.length (fun i e h' => ∃ c', e = [none, none, none, some (.int .i64 a.acc.length), some vm, none, none, none, some vl, some (.bool c'), some (.int .i64 i), none] ∧
    ∃ B', HS h [ow vm B', ow vl L] h' ∧ B'.length = a.acc.length ∧ (∀ r ∈ B', r.length = a.acc.length) ∧ Pass a (matR B) (matR B') c' i 0) ⟨false, by simp, B, H, hBl, hBr, Pass.start hA hU⟩ ?_
  rintro J1 i _ h12 hJ1 hi ⟨c', rfl, B', H, hBl', hBr', hP⟩
  simp -implicitDefEqProofs (disch := first | omega | (simp only [List.length_set, List.length_replicate, List.length_append, List.length_map, List.length_take, List.length_cons, List.length_nil]; omega)) [wrap64]
  refine IteW.mk (fun hlt4 => ?_) (fun hge4 => ?_)
  · have hin : i < a.acc.length := by omega
    simp -implicitDefEqProofs (disch := first | omega | (simp only [List.length_set, List.length_replicate, List.length_append, List.length_map, List.length_take, List.length_cons, List.length_nil]; omega)) [wrap64]
    refine wp_count a.acc.length (fun j e h' => ∃ c', e = [none, none, none, some (.int .i64 a.acc.length), some vm, none, none, none, some vl, some (.bool c'), some (.int .i64 i), some (.int .i64 j)] ∧
      ∃ B', HS h [ow vm B', ow vl L] h' ∧ B'.length = a.acc.length ∧ (∀ r ∈ B', r.length = a.acc.length) ∧ Pass a (matR B) (matR B') c' i j) ⟨c', by simp, B', H, hBl', hBr', hP⟩ ?_
    rintro J2 j _ h13 hJ2 hj ⟨c', rfl, B', H, hBl', hBr', hP⟩
    simp -implicitDefEqProofs (disch := first | omega | (simp only [List.length_set, List.length_replicate, List.length_append, List.length_map, List.length_take, List.length_cons, List.length_nil]; omega)) [wrap64]
    refine IteW.mk (fun hlt5 => ?_) (fun hge5 => ?_)
    · have hjn : j < a.acc.length := by omega
      have hiB : i < B'.length := by omega
      have hil := hBr' _ (List.getElem_mem hiB)
      have hbg := matR_get (M := B') hiB (show j < B'[i].length by omega)
      obtain ⟨w, hw, Rw⟩ := H.rep.ldL hiB
      cases hb : B'[i]'hiB |>.get ⟨j, by omega⟩ with
      | false =>
        have hb : (B'[i]'hiB)[j]'(by omega) = false := hb
        simp -implicitDefEqProofs (disch := first | omega | (simp only [List.length_set, List.length_replicate, List.length_append, List.length_map, List.length_take, List.length_cons, List.length_nil]; omega)) [wrap64, H.rep.X (n := 1) rfl, hw, Rw.B, hb]
        exact hJ2 _ _ hjn ⟨c', rfl, B', H, hBl', hBr', hP.keep fun hr => by rw [hbg, hb] at hr; simp at hr⟩
      | true =>
        have hb : (B'[i]'hiB)[j]'(by omega) = true := hb
        obtain ⟨x, hx, Rx⟩ := H.sw1.rep.ldL (i := i) (by omega)
        obtain ⟨y, hy, Ry⟩ := H.sw1.rep.ldL (i := j) (by omega)
        simp -implicitDefEqProofs (disch := first | omega | (simp only [List.length_set, List.length_replicate, List.length_append, List.length_map, List.length_take, List.length_cons, List.length_nil]; omega)) [wrap64, H.rep.X (n := 1) rfl, hw, Rw.B, hb, H.sw1.rep.X (n := 1) rfl, hx, hy]
        refine (c_l13Answers (n := a.acc.length) (by omega) Rx Ry H.rep hBl' hBr' (hok i (by omega)) (hok j (by omega))).go ?_
        rintro _ _ ⟨rfl, r, rfl, hr⟩
        rw [hans] at hr
        cases r with
        | true =>
          simp -implicitDefEqProofs (disch := first | omega | (simp only [List.length_set, List.length_replicate, List.length_append, List.length_map, List.length_take, List.length_cons, List.length_nil]; omega)) [wrap64]
          exact hJ2 _ _ hjn ⟨c', rfl, B', H, hBl', hBr', hP.keep fun _ => hr.1 rfl⟩
        | false =>
          obtain ⟨z, hz, HT⟩ := H.take hiB
          change hload _ (some (elp 1 vm i)) none = some z at hz
          simp -implicitDefEqProofs (disch := first | omega | (simp only [List.length_set, List.length_replicate, List.length_append, List.length_map, List.length_take, List.length_cons, List.length_nil]; omega)) [wrap64, H.rep.X (n := 1) rfl, hz, HT.rep.B]
          refine HT.storeF false (i := j) (by omega) rfl rfl trivial rfl fun h14 HT => ?_
          have H := HT.put
          simp -implicitDefEqProofs (disch := first | omega | (simp only [List.length_set, List.length_replicate, List.length_append, List.length_map, List.length_take, List.length_cons, List.length_nil]; omega)) [wrap64]
          refine hJ2 _ _ hjn ⟨true, rfl, _, H, by simpa using hBl', ?_, ?_⟩
          · intro r hr2
            rcases List.mem_or_eq_of_mem_set hr2 with h1 | rfl
            · exact hBr' r h1
            · simpa using hil
          · rw [matR_clr hiB (by omega)]
            exact hP.rem ha hin hjn (by rw [hbg, hb]) (fun hA => by have := hr.2 hA; simp at this)
    · simp -implicitDefEqProofs (disch := first | omega | (simp only [List.length_set, List.length_replicate, List.length_append, List.length_map, List.length_take, List.length_cons, List.length_nil]; omega)) [wrap64]
      exact hJ1 _ _ hin ⟨c', rfl, B', H, hBl', hBr', hP.next (by omega)⟩
  · simp -implicitDefEqProofs (disch := first | omega | (simp only [List.length_set, List.length_replicate, List.length_append, List.length_map, List.length_take, List.length_cons, List.length_nil]; omega)) [wrap64]
    refine hJ (B', c') _ _ ?_ ⟨rfl, H, hBl', hBr', hP.acc, hP.upper, fun hc => by dsimp only at hc; subst hc; exact hP.done (by omega)⟩
    cases c' with
    | true => have := hP.less rfl; simp; omega
    | false => simp [(hP.same rfl).1]

end Go.Proofs.Ytglnelcmcimljaa
