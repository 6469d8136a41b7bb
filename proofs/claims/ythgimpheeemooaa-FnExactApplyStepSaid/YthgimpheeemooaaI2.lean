/-
  Bodies of functions in the small language, as a program printed them, and that each is what the translation gives.
-/
import Derived.Test.YthgimpheeemooaaI1
namespace Go.Proofs.Ythgimpheeemooaa
open Go
set_option linter.all false
set_option linter.defProp false
set_option maxRecDepth 1000000

def H_impl_ApplyStep : Hint := ⟨[(0, false), (1, false), (2, false), (3, true), (4, true), (5, true), (6, true), (7, false)], []⟩
def K45_1 : Pl := .st (.act none (.pset none 6 0 2 (.v 11))) <|
    .st (.act none (.px (some 7) (.mv (.c (.bool true))))) .done
@[simp] def W45_1 := @Pl.wpe _ _ K45_1.eq_1
def K45_2 : C := .seq (.pl <| .st (.ext 8 4) <|
    .st (.act none (.pget (some 8) none 3 0 (some 2))) <|
    .st (.act none (.pget (some 9) none 4 0 (some 2))) <|
    .st (.act none (.pget (some 10) none 5 0 (some 4))) <|
    .st (.act none (.ex (some 11) (.call fn_impl_System_after [.v 8, .v 9, .v 10]))) K45_1) (.ret)
@[simp] def W45_2 := @C.wpe _ _ K45_2.eq_1
def K45_3 : C := .seq (.pl <| .st (.ext 8 1) <|
    .st (.act none (.px (some 8) (.build [.slice none 0 0, .slice none 0 0] []))) <|
    .st (.act none (.pset none 6 0 2 (.v 8))) <|
    .st (.act none (.px (some 7) (.mv (.c (.bool false))))) .done) (.ret)
@[simp] def W45_3 := @C.wpe _ _ K45_3.eq_1
def K45_4 : C := .cond 8 (.v 13) K45_3 (.skip)
@[simp] def W45_4 := @C.wpe _ _ K45_4.eq_1
def K45_5 : Pl := .st (.act none (.px (some 13) (.un .not (.v 12)))) .done
@[simp] def W45_5 := @Pl.wpe _ _ K45_5.eq_1
def K45_6 : Pl := .st (.act none (.ex (some 12) (.call fn_slices_Contains_S_impl_Step_impl_Step [.v 10, .v 11]))) K45_5
@[simp] def W45_6 := @Pl.wpe _ _ K45_6.eq_1
def K45_7 : C := .seq (.seq (.pl <| .st (.ext 8 6) <|
    .st (.act none (.pget (some 8) none 3 0 (some 2))) <|
    .st (.act none (.pget (some 9) none 4 0 (some 2))) <|
    .st (.act none (.pget (some 11) none 5 0 (some 4))) <|
    .st (.act none (.ex (some 10) (.call fn_impl_EnabledSteps [.v 8, .v 9]))) K45_6) K45_4) K45_2
@[simp] def W45_7 := @C.wpe _ _ K45_7.eq_1
def B_impl_ApplyStep : C := .seq (.pl <| .st (.ext 8 0) <|
    .st (.act none (.pnew 3 (.v 0) [])) <|
    .st (.act none (.pnew 4 (.v 1) [])) <|
    .st (.act none (.pnew 5 (.v 2) [])) <|
    .st (.act none (.pnew 6 (.c (.agg #[.slice none 0 0, .slice none 0 0])) [])) <|
    .st (.act none (.px (some 7) (.mv (.c (.bool false))))) .done) K45_7
@[simp] def WB_impl_ApplyStep := @C.wpe _ _ B_impl_ApplyStep.eq_1
def R_impl_ApplyStep : FIR := ⟨B_impl_ApplyStep, 8, [(6, some (some 2)), (7, none)]⟩
theorem IR_impl_ApplyStep : cfun Try.prog H_impl_ApplyStep Try.f45 = some R_impl_ApplyStep := by kernel_rfl
theorem EN_impl_ApplyStep {args : List Value} {h : Heap} {k : Value → Heap → Prop} (hargs : args.length = 3) (hw : B_impl_ApplyStep.wp Try.prog (retQ [(6, some (some 2)), (7, none)] k) (env0 args 8) h) : CallE Try.prog fn_impl_ApplyStep args h k := enter Try.func45 rfl IR_impl_ApplyStep hargs hw

def H_impl_EdgeValid : Hint := ⟨[(0, false), (1, false), (2, true), (4, false)], []⟩
def K109_1 : Pl := .st (.act none (.px (some 55) (.pick (.v 51) (.v 54) (.c (.bool false))))) <|
    .st (.act none (.px (some 3) (.mv (.v 55)))) .done
@[simp] def W109_1 := @Pl.wpe _ _ K109_1.eq_1
def K109_2 : Pl := .st (.act (some (.v 39, false)) (.px (some 48) (.pick (.v 43) (.v 47) (.c (.bool false))))) <|
    .st (.act (some (.v 30, true)) (.px (some 49) (.pick (.v 39) (.c (.bool true)) (.v 48)))) <|
    .st (.act none (.px (some 50) (.pick (.v 30) (.v 49) (.c (.bool false))))) <|
    .st (.act none (.px (some 51) (.mv (.v 50)))) <|
    .st (.act (some (.v 51, true)) (.als 52 none 2)) <|
    .st (.act (some (.v 51, true)) (.pget (some 53) (some 52) 2 9 none)) <|
    .st (.act (some (.v 51, true)) (.ex (some 54) (.call fn_impl_in [.v 53, .c (.int .i64 (-2)), .c (.int .i64 2)]))) K109_1
@[simp] def W109_2 := @Pl.wpe _ _ K109_2.eq_1
def K109_3 : Pl := .st (.act (some (.v 30, true)) (.px (some 38) (.pick (.v 34) (.v 37) (.c (.bool false))))) <|
    .st (.act (some (.v 30, true)) (.px (some 39) (.mv (.v 38)))) <|
    .st (.act (some (.v 39, false)) (.als 40 none 2)) <|
    .st (.act (some (.v 39, false)) (.pget (some 41) (some 40) 2 5 none)) <|
    .st (.act (some (.v 39, false)) (.px (some 42) (.bin .lss (.v 41) (.c (.int .i64 0))))) <|
    .st (.act (some (.v 39, false)) (.px (some 43) (.mv (.v 42)))) <|
    .st (.act (some (.v 43, true)) (.als 44 none 2)) <|
    .st (.act (some (.v 43, true)) (.pget (some 45) (some 44) 2 6 (some 3))) <|
    .st (.act (some (.v 43, true)) (.px (some 46) (.build [.int .i64 0, .int .i64 0, .slice none 0 0] []))) <|
    .st (.act (some (.v 43, true)) (.ex (some 47) (.call fn_impl_ExprSame [.v 45, .v 46]))) K109_2
@[simp] def W109_3 := @Pl.wpe _ _ K109_3.eq_1
def K109_4 : Pl := .st (.act none (.px (some 29) (.pick (.v 25) (.v 28) (.c (.bool false))))) <|
    .st (.act none (.px (some 30) (.mv (.v 29)))) <|
    .st (.act (some (.v 30, true)) (.als 31 none 2)) <|
    .st (.act (some (.v 30, true)) (.pget (some 32) (some 31) 2 5 none)) <|
    .st (.act (some (.v 30, true)) (.px (some 33) (.bin .geq (.v 32) (.c (.int .i64 0))))) <|
    .st (.act (some (.v 30, true)) (.px (some 34) (.mv (.v 33)))) <|
    .st (.act (some (.v 34, true)) (.als 35 none 2)) <|
    .st (.act (some (.v 34, true)) (.pget (some 36) (some 35) 2 6 (some 3))) <|
    .st (.act (some (.v 34, true)) (.ex (some 37) (.call fn_impl_ExprValid [.v 36]))) K109_3
@[simp] def W109_4 := @Pl.wpe _ _ K109_4.eq_1
def K109_5 : Pl := .st (.act none (.px (some 24) (.pick (.v 20) (.v 23) (.c (.bool false))))) <|
    .st (.act none (.px (some 25) (.mv (.v 24)))) <|
    .st (.act (some (.v 25, true)) (.als 26 none 2)) <|
    .st (.act (some (.v 25, true)) (.pget (some 27) (some 26) 2 5 none)) <|
    .st (.act (some (.v 25, true)) (.ex (some 28) (.call fn_impl_in [.v 27, .c (.int .i64 (-1)), .c (.int .i64 2)]))) K109_4
@[simp] def W109_5 := @Pl.wpe _ _ K109_5.eq_1
def K109_6 : Pl := .st (.act none (.px (some 19) (.pick (.v 13) (.v 18) (.c (.bool false))))) <|
    .st (.act none (.px (some 20) (.mv (.v 19)))) <|
    .st (.act (some (.v 20, true)) (.als 21 none 2)) <|
    .st (.act (some (.v 20, true)) (.pget (some 22) (some 21) 2 2 (some 3))) <|
    .st (.act (some (.v 20, true)) (.ex (some 23) (.call fn_impl_ExprValid [.v 22]))) K109_5
@[simp] def W109_6 := @Pl.wpe _ _ K109_6.eq_1
def K109_7 : Pl := .st (.act none (.px (some 12) (.pick (.v 6) (.v 11) (.c (.bool false))))) <|
    .st (.act none (.px (some 13) (.mv (.v 12)))) <|
    .st (.act (some (.v 13, true)) (.als 14 none 2)) <|
    .st (.act (some (.v 13, true)) (.pget (some 15) (some 14) 2 1 none)) <|
    .st (.act (some (.v 13, true)) (.px (some 16) (.mv (.v 1)))) <|
    .st (.act (some (.v 13, true)) (.px (some 17) (.bin .sub (.v 16) (.c (.int .i64 1))))) <|
    .st (.act (some (.v 13, true)) (.ex (some 18) (.call fn_impl_in [.v 15, .c (.int .i64 0), .v 17]))) K109_6
@[simp] def W109_7 := @Pl.wpe _ _ K109_7.eq_1
def K109_8 : Pl := .st (.act none (.px (some 6) (.mv (.v 5)))) <|
    .st (.act (some (.v 6, true)) (.als 7 none 2)) <|
    .st (.act (some (.v 6, true)) (.pget (some 8) (some 7) 2 0 none)) <|
    .st (.act (some (.v 6, true)) (.px (some 9) (.mv (.v 1)))) <|
    .st (.act (some (.v 6, true)) (.px (some 10) (.bin .sub (.v 9) (.c (.int .i64 1))))) <|
    .st (.act (some (.v 6, true)) (.ex (some 11) (.call fn_impl_in [.v 8, .c (.int .i64 0), .v 10]))) K109_7
@[simp] def W109_8 := @Pl.wpe _ _ K109_8.eq_1
def K109_9 : C := .seq (.pl <| .st (.ext 4 52) <|
    .st (.act none (.px (some 4) (.mv (.v 1)))) <|
    .st (.act none (.ex (some 5) (.call fn_impl_in [.v 4, .c (.int .i64 1), .c (.int .i64 4)]))) K109_8) (.ret)
@[simp] def W109_9 := @C.wpe _ _ K109_9.eq_1
def B_impl_EdgeValid : C := .seq (.pl <| .st (.ext 4 0) <|
    .st (.act none (.pnew 2 (.v 0) [])) <|
    .st (.act none (.px (some 3) (.mv (.c (.bool false))))) .done) K109_9
@[simp] def WB_impl_EdgeValid := @C.wpe _ _ B_impl_EdgeValid.eq_1
def R_impl_EdgeValid : FIR := ⟨B_impl_EdgeValid, 4, [(3, none)]⟩
theorem IR_impl_EdgeValid : cfun Try.prog H_impl_EdgeValid Try.f109 = some R_impl_EdgeValid := by kernel_rfl
theorem EN_impl_EdgeValid {args : List Value} {h : Heap} {k : Value → Heap → Prop} (hargs : args.length = 2) (hw : B_impl_EdgeValid.wp Try.prog (retQ [(3, none)] k) (env0 args 4) h) : CallE Try.prog fn_impl_EdgeValid args h k := enter Try.func109 rfl IR_impl_EdgeValid hargs hw

def H_impl_EnabledSteps : Hint := ⟨[(0, false), (1, false), (2, true), (3, true), (4, false)], []⟩
def K92_1 : Pl := .st (.act none (.px (some 4) (.mv (.v 7)))) .done
@[simp] def W92_1 := @Pl.wpe _ _ K92_1.eq_1
def K92_2 : C := .seq (.pl <| .st (.ext 5 3) <|
    .st (.act none (.pget (some 5) none 2 0 (some 2))) <|
    .st (.act none (.pget (some 6) none 3 0 (some 2))) <|
    .st (.act none (.ex (some 7) (.call fn_impl_System_enabled [.v 5, .v 6]))) K92_1) (.ret)
@[simp] def W92_2 := @C.wpe _ _ K92_2.eq_1
def K92_3 : C := .seq (.pl <| .st (.ext 5 0) <|
    .st (.act none (.px (some 4) (.mv (.c (.slice none 0 0))))) .done) (.ret)
@[simp] def W92_3 := @C.wpe _ _ K92_3.eq_1
def K92_4 : C := .cond 5 (.v 8) K92_3 (.skip)
@[simp] def W92_4 := @C.wpe _ _ K92_4.eq_1
def K92_5 : Pl := .st (.act none (.px (some 8) (.un .not (.v 7)))) .done
@[simp] def W92_5 := @Pl.wpe _ _ K92_5.eq_1
def K92_6 : C := .seq (.seq (.pl <| .st (.ext 5 4) <|
    .st (.act none (.pget (some 5) none 2 0 (some 2))) <|
    .st (.act none (.pget (some 6) none 3 0 (some 2))) <|
    .st (.act none (.ex (some 7) (.call fn_impl_StateValid [.v 5, .v 6]))) K92_5) K92_4) K92_2
@[simp] def W92_6 := @C.wpe _ _ K92_6.eq_1
def B_impl_EnabledSteps : C := .seq (.pl <| .st (.ext 5 0) <|
    .st (.act none (.pnew 2 (.v 0) [])) <|
    .st (.act none (.pnew 3 (.v 1) [])) <|
    .st (.act none (.px (some 4) (.mv (.c (.slice none 0 0))))) .done) K92_6
@[simp] def WB_impl_EnabledSteps := @C.wpe _ _ B_impl_EnabledSteps.eq_1
def R_impl_EnabledSteps : FIR := ⟨B_impl_EnabledSteps, 5, [(4, none)]⟩
theorem IR_impl_EnabledSteps : cfun Try.prog H_impl_EnabledSteps Try.f92 = some R_impl_EnabledSteps := by kernel_rfl
theorem EN_impl_EnabledSteps {args : List Value} {h : Heap} {k : Value → Heap → Prop} (hargs : args.length = 2) (hw : B_impl_EnabledSteps.wp Try.prog (retQ [(4, none)] k) (env0 args 5) h) : CallE Try.prog fn_impl_EnabledSteps args h k := enter Try.func92 rfl IR_impl_EnabledSteps hargs hw

def H_impl_ExprNodes : Hint := ⟨[(0, false), (1, true), (2, false), (3, false)], []⟩
def K158_1 : C := .seq (.pl <| .st (.ext 4 1) <|
    .st (.act none (.ld (some 4) (.v 3) none)) <|
    .st (.act none (.px (some 2) (.mv (.v 4)))) .done) (.ret)
@[simp] def W158_1 := @C.wpe _ _ K158_1.eq_1
def K158_2 : C := .seq (.pl <| .st (.ext 4 0) <|
    .st (.act none (.px (some 2) (.mv (.c (.int .i64 0))))) .done) (.ret)
@[simp] def W158_2 := @C.wpe _ _ K158_2.eq_1
def K158_3 : C := .cond 4 (.v 6) K158_2 (.skip)
@[simp] def W158_3 := @C.wpe _ _ K158_3.eq_1
def K158_4 : Pl := .st (.act none (.px (some 6) (.un .not (.v 5)))) .done
@[simp] def W158_4 := @Pl.wpe _ _ K158_4.eq_1
def K158_5 : C := .seq (.seq (.pl <| .st (.ext 4 3) <|
    .st (.act none (.pget (some 4) none 1 0 (some 3))) <|
    .st (.act none (.ex (some 5) (.call fn_impl_Expr_walk [.v 4, .c (.int .i64 1), .v 3]))) K158_4) K158_3) K158_1
@[simp] def W158_5 := @C.wpe _ _ K158_5.eq_1
def K158_6 : Pl := .st (.act none (.ex none (.store 1 (.v 3) (.c (.int .i64 0))))) .done
@[simp] def W158_6 := @Pl.wpe _ _ K158_6.eq_1
def K158_7 : C := .seq (.pl <| .st (.ext 4 0) <|
    .st (.act none (.ex (some 3) (.alloc (.c (.int .i64 0))))) K158_6) K158_5
@[simp] def W158_7 := @C.wpe _ _ K158_7.eq_1
def B_impl_ExprNodes : C := .seq (.pl <| .st (.ext 4 0) <|
    .st (.act none (.pnew 1 (.v 0) [])) <|
    .st (.act none (.px (some 2) (.mv (.c (.int .i64 0))))) .done) K158_7
@[simp] def WB_impl_ExprNodes := @C.wpe _ _ B_impl_ExprNodes.eq_1
def R_impl_ExprNodes : FIR := ⟨B_impl_ExprNodes, 4, [(2, none)]⟩
theorem IR_impl_ExprNodes : cfun Try.prog H_impl_ExprNodes Try.f158 = some R_impl_ExprNodes := by kernel_rfl
theorem EN_impl_ExprNodes {args : List Value} {h : Heap} {k : Value → Heap → Prop} (hargs : args.length = 1) (hw : B_impl_ExprNodes.wp Try.prog (retQ [(2, none)] k) (env0 args 4) h) : CallE Try.prog fn_impl_ExprNodes args h k := enter Try.func158 rfl IR_impl_ExprNodes hargs hw

def H_impl_ExprSame : Hint := ⟨[(0, false), (1, false), (2, true), (3, true), (4, false)], []⟩
def K146_1 : Pl := .st (.act none (.px (some 23) (.pick (.v 17) (.v 22) (.c (.bool false))))) <|
    .st (.act none (.px (some 4) (.mv (.v 23)))) .done
@[simp] def W146_1 := @Pl.wpe _ _ K146_1.eq_1
def K146_2 : C := .seq (.pl <| .st (.ext 5 19) <|
    .st (.act none (.als 5 none 2)) <|
    .st (.act none (.pget (some 6) (some 5) 2 0 none)) <|
    .st (.act none (.als 7 none 3)) <|
    .st (.act none (.pget (some 8) (some 7) 3 0 none)) <|
    .st (.act none (.px (some 9) (.bin .eql (.v 6) (.v 8)))) <|
    .st (.act none (.px (some 10) (.mv (.v 9)))) <|
    .st (.act (some (.v 10, true)) (.als 11 none 2)) <|
    .st (.act (some (.v 10, true)) (.pget (some 12) (some 11) 2 1 none)) <|
    .st (.act (some (.v 10, true)) (.als 13 none 3)) <|
    .st (.act (some (.v 10, true)) (.pget (some 14) (some 13) 3 1 none)) <|
    .st (.act (some (.v 10, true)) (.px (some 15) (.bin .eql (.v 12) (.v 14)))) <|
    .st (.act none (.px (some 16) (.pick (.v 10) (.v 15) (.c (.bool false))))) <|
    .st (.act none (.px (some 17) (.mv (.v 16)))) <|
    .st (.act (some (.v 17, true)) (.als 18 none 2)) <|
    .st (.act (some (.v 17, true)) (.pget (some 19) (some 18) 2 2 none)) <|
    .st (.act (some (.v 17, true)) (.als 20 none 3)) <|
    .st (.act (some (.v 17, true)) (.pget (some 21) (some 20) 3 2 none)) <|
    .st (.act (some (.v 17, true)) (.ex (some 22) (.call fn_slices_EqualFunc_S_impl_Expr_S_impl_Expr_impl_Expr_impl_Expr [.v 19, .v 21, .c (.func (.func 146) #[] #[])]))) K146_1) (.ret)
@[simp] def W146_2 := @C.wpe _ _ K146_2.eq_1
def B_impl_ExprSame : C := .seq (.pl <| .st (.ext 5 0) <|
    .st (.act none (.pnew 2 (.v 0) [])) <|
    .st (.act none (.pnew 3 (.v 1) [])) <|
    .st (.act none (.px (some 4) (.mv (.c (.bool false))))) .done) K146_2
@[simp] def WB_impl_ExprSame := @C.wpe _ _ B_impl_ExprSame.eq_1
def R_impl_ExprSame : FIR := ⟨B_impl_ExprSame, 5, [(4, none)]⟩
theorem IR_impl_ExprSame : cfun Try.prog H_impl_ExprSame Try.f146 = some R_impl_ExprSame := by kernel_rfl
theorem EN_impl_ExprSame {args : List Value} {h : Heap} {k : Value → Heap → Prop} (hargs : args.length = 2) (hw : B_impl_ExprSame.wp Try.prog (retQ [(4, none)] k) (env0 args 5) h) : CallE Try.prog fn_impl_ExprSame args h k := enter Try.func146 rfl IR_impl_ExprSame hargs hw

def H_impl_ExprValid : Hint := ⟨[(0, false), (1, true), (2, false)], []⟩
def K120_1 : Pl := .st (.act none (.px (some 5) (.bin .gtr (.v 4) (.c (.int .i64 0))))) <|
    .st (.act none (.px (some 2) (.mv (.v 5)))) .done
@[simp] def W120_1 := @Pl.wpe _ _ K120_1.eq_1
def K120_2 : C := .seq (.pl <| .st (.ext 3 3) <|
    .st (.act none (.pget (some 3) none 1 0 (some 3))) <|
    .st (.act none (.ex (some 4) (.call fn_impl_ExprNodes [.v 3]))) K120_1) (.ret)
@[simp] def W120_2 := @C.wpe _ _ K120_2.eq_1
def B_impl_ExprValid : C := .seq (.pl <| .st (.ext 3 0) <|
    .st (.act none (.pnew 1 (.v 0) [])) <|
    .st (.act none (.px (some 2) (.mv (.c (.bool false))))) .done) K120_2
@[simp] def WB_impl_ExprValid := @C.wpe _ _ B_impl_ExprValid.eq_1
def R_impl_ExprValid : FIR := ⟨B_impl_ExprValid, 3, [(2, none)]⟩
theorem IR_impl_ExprValid : cfun Try.prog H_impl_ExprValid Try.f120 = some R_impl_ExprValid := by kernel_rfl
theorem EN_impl_ExprValid {args : List Value} {h : Heap} {k : Value → Heap → Prop} (hargs : args.length = 1) (hw : B_impl_ExprValid.wp Try.prog (retQ [(2, none)] k) (env0 args 3) h) : CallE Try.prog fn_impl_ExprValid args h k := enter Try.func120 rfl IR_impl_ExprValid hargs hw

def H_impl_Expr_eval : Hint := ⟨[(0, false), (1, false), (2, true), (4, false), (5, false), (6, false), (8, false), (39, false)], []⟩
def K164_1 : C := .seq (.pl <| .st (.ext 8 6) <|
    .st (.act none (.px (some 8) (.mv (.v 4)))) <|
    .st (.act none (.px (some 9) (.mv (.v 5)))) <|
    .st (.act none (.px (some 10) (.bin .sub (.v 8) (.v 9)))) <|
    .st (.act none (.px (some 11) (.bin .add (.v 10) (.c (.int .i64 3))))) <|
    .st (.act none (.px (some 12) (.bin .add (.v 11) (.c (.int .i64 1))))) <|
    .st (.act none (.px (some 13) (.bin .rem (.v 12) (.c (.int .i64 4))))) <|
    .st (.act none (.px (some 3) (.mv (.v 13)))) .done) (.ret)
@[simp] def W164_1 := @C.wpe _ _ K164_1.eq_1
def K164_2 : Pl := .st (.act none (.px (some 3) (.mv (.v 14)))) .done
@[simp] def W164_2 := @Pl.wpe _ _ K164_2.eq_1
def K164_3 : C := .seq (.pl <| .st (.ext 8 7) <|
    .st (.act none (.px (some 8) (.mv (.v 4)))) <|
    .st (.act none (.px (some 9) (.bin .neq (.v 8) (.c (.int .i64 0))))) <|
    .st (.act none (.px (some 10) (.mv (.v 9)))) <|
    .st (.act (some (.v 10, true)) (.px (some 11) (.mv (.v 5)))) <|
    .st (.act (some (.v 10, true)) (.px (some 12) (.bin .neq (.v 11) (.c (.int .i64 0))))) <|
    .st (.act none (.px (some 13) (.pick (.v 10) (.v 12) (.c (.bool false))))) <|
    .st (.act none (.ex (some 14) (.call fn_impl_truth [.v 13]))) K164_2) (.ret)
@[simp] def W164_3 := @C.wpe _ _ K164_3.eq_1
def K164_4 : Pl := .st (.act none (.px (some 3) (.mv (.v 14)))) .done
@[simp] def W164_4 := @Pl.wpe _ _ K164_4.eq_1
def K164_5 : C := .seq (.pl <| .st (.ext 8 7) <|
    .st (.act none (.px (some 8) (.mv (.v 4)))) <|
    .st (.act none (.px (some 9) (.bin .neq (.v 8) (.c (.int .i64 0))))) <|
    .st (.act none (.px (some 10) (.mv (.v 9)))) <|
    .st (.act (some (.v 10, false)) (.px (some 11) (.mv (.v 5)))) <|
    .st (.act (some (.v 10, false)) (.px (some 12) (.bin .neq (.v 11) (.c (.int .i64 0))))) <|
    .st (.act none (.px (some 13) (.pick (.v 10) (.c (.bool true)) (.v 12)))) <|
    .st (.act none (.ex (some 14) (.call fn_impl_truth [.v 13]))) K164_4) (.ret)
@[simp] def W164_5 := @C.wpe _ _ K164_5.eq_1
def K164_6 : Pl := .st (.act none (.px (some 3) (.mv (.v 11)))) .done
@[simp] def W164_6 := @Pl.wpe _ _ K164_6.eq_1
def K164_7 : C := .seq (.pl <| .st (.ext 8 4) <|
    .st (.act none (.px (some 8) (.mv (.v 4)))) <|
    .st (.act none (.px (some 9) (.mv (.v 5)))) <|
    .st (.act none (.px (some 10) (.bin .eql (.v 8) (.v 9)))) <|
    .st (.act none (.ex (some 11) (.call fn_impl_truth [.v 10]))) K164_6) (.ret)
@[simp] def W164_7 := @C.wpe _ _ K164_7.eq_1
def K164_8 : Pl := .st (.act none (.px (some 3) (.mv (.v 11)))) .done
@[simp] def W164_8 := @Pl.wpe _ _ K164_8.eq_1
def K164_9 : C := .seq (.pl <| .st (.ext 8 4) <|
    .st (.act none (.px (some 8) (.mv (.v 4)))) <|
    .st (.act none (.px (some 9) (.mv (.v 5)))) <|
    .st (.act none (.px (some 10) (.bin .lss (.v 8) (.v 9)))) <|
    .st (.act none (.ex (some 11) (.call fn_impl_truth [.v 10]))) K164_8) (.ret)
@[simp] def W164_9 := @C.wpe _ _ K164_9.eq_1
def K164_10 : C := .seq (.pl <| .st (.ext 8 4) <|
    .st (.act none (.px (some 8) (.mv (.v 4)))) <|
    .st (.act none (.px (some 9) (.mv (.v 5)))) <|
    .st (.act none (.px (some 10) (.bin .add (.v 8) (.v 9)))) <|
    .st (.act none (.px (some 11) (.bin .rem (.v 10) (.c (.int .i64 4))))) <|
    .st (.act none (.px (some 3) (.mv (.v 11)))) .done) (.ret)
@[simp] def W164_10 := @C.wpe _ _ K164_10.eq_1
def K164_11 : C := .cond 8 (.v 9) K164_10 (.skip)
@[simp] def W164_11 := @C.wpe _ _ K164_11.eq_1
def K164_12 : C := .seq (.pl <| .st (.ext 8 2) <|
    .st (.act none (.px (some 8) (.bin .eql (.v 7) (.c (.int .i64 8))))) <|
    .st (.act none (.px (some 9) (.mv (.v 8)))) .done) K164_11
@[simp] def W164_12 := @C.wpe _ _ K164_12.eq_1
def K164_13 : C := .cond 8 (.v 9) K164_9 K164_12
@[simp] def W164_13 := @C.wpe _ _ K164_13.eq_1
def K164_14 : C := .seq (.pl <| .st (.ext 8 2) <|
    .st (.act none (.px (some 8) (.bin .eql (.v 7) (.c (.int .i64 7))))) <|
    .st (.act none (.px (some 9) (.mv (.v 8)))) .done) K164_13
@[simp] def W164_14 := @C.wpe _ _ K164_14.eq_1
def K164_15 : C := .cond 8 (.v 9) K164_7 K164_14
@[simp] def W164_15 := @C.wpe _ _ K164_15.eq_1
def K164_16 : C := .seq (.pl <| .st (.ext 8 2) <|
    .st (.act none (.px (some 8) (.bin .eql (.v 7) (.c (.int .i64 6))))) <|
    .st (.act none (.px (some 9) (.mv (.v 8)))) .done) K164_15
@[simp] def W164_16 := @C.wpe _ _ K164_16.eq_1
def K164_17 : C := .cond 8 (.v 9) K164_5 K164_16
@[simp] def W164_17 := @C.wpe _ _ K164_17.eq_1
def K164_18 : C := .seq (.pl <| .st (.ext 8 2) <|
    .st (.act none (.px (some 8) (.bin .eql (.v 7) (.c (.int .i64 5))))) <|
    .st (.act none (.px (some 9) (.mv (.v 8)))) .done) K164_17
@[simp] def W164_18 := @C.wpe _ _ K164_18.eq_1
def K164_19 : C := .cond 8 (.v 9) K164_3 K164_18
@[simp] def W164_19 := @C.wpe _ _ K164_19.eq_1
def K164_20 : C := .block 1 (.seq (.pl <| .st (.ext 8 2) <|
    .st (.act none (.px (some 8) (.bin .eql (.v 7) (.c (.int .i64 4))))) <|
    .st (.act none (.px (some 9) (.mv (.v 8)))) .done) K164_19)
@[simp] def W164_20 := @C.wpe _ _ K164_20.eq_1
def K164_21 : C := .seq (.seq (.pl <| .st (.ext 8 1) <|
    .st (.act none (.als 8 none 2)) <|
    .st (.act none (.pget (some 7) (some 8) 2 0 none)) .done) K164_20) K164_1
@[simp] def W164_21 := @C.wpe _ _ K164_21.eq_1
def K164_22 : Pl := .st (.act none (.px (some 5) (.mv (.v 13)))) .done
@[simp] def W164_22 := @Pl.wpe _ _ K164_22.eq_1
def K164_23 : C := .seq (.pl <| .st (.ext 8 6) <|
    .st (.act none (.als 8 none 2)) <|
    .st (.act none (.pget (some 9) (some 8) 2 2 none)) <|
    .st (.act none (.px (some 10) (.ia 3 (.v 9) (.c (.int .i64 1))))) <|
    .st (.act none (.ld (some 11) (.v 10) (some 3))) <|
    .st (.act none (.px (some 12) (.mv (.v 1)))) <|
    .st (.act none (.ex (some 13) (.call fn_impl_Expr_eval [.v 11, .v 12]))) K164_22) K164_21
@[simp] def W164_23 := @C.wpe _ _ K164_23.eq_1
def K164_24 : Pl := .st (.act none (.px (some 3) (.mv (.v 10)))) .done
@[simp] def W164_24 := @Pl.wpe _ _ K164_24.eq_1
def K164_25 : C := .seq (.pl <| .st (.ext 8 3) <|
    .st (.act none (.px (some 8) (.mv (.v 4)))) <|
    .st (.act none (.px (some 9) (.bin .eql (.v 8) (.c (.int .i64 0))))) <|
    .st (.act none (.ex (some 10) (.call fn_impl_truth [.v 9]))) K164_24) (.ret)
@[simp] def W164_25 := @C.wpe _ _ K164_25.eq_1
def K164_26 : C := .cond 8 (.v 10) K164_25 (.skip)
@[simp] def W164_26 := @C.wpe _ _ K164_26.eq_1
def K164_27 : C := .seq (.seq (.pl <| .st (.ext 8 3) <|
    .st (.act none (.als 8 none 2)) <|
    .st (.act none (.pget (some 9) (some 8) 2 0 none)) <|
    .st (.act none (.px (some 10) (.bin .eql (.v 9) (.c (.int .i64 3))))) .done) K164_26) K164_23
@[simp] def W164_27 := @C.wpe _ _ K164_27.eq_1
def K164_28 : Pl := .st (.act none (.px (some 4) (.mv (.v 13)))) .done
@[simp] def W164_28 := @Pl.wpe _ _ K164_28.eq_1
def K164_29 : C := .seq (.pl <| .st (.ext 8 6) <|
    .st (.act none (.als 8 none 2)) <|
    .st (.act none (.pget (some 9) (some 8) 2 2 none)) <|
    .st (.act none (.px (some 10) (.ia 3 (.v 9) (.c (.int .i64 0))))) <|
    .st (.act none (.ld (some 11) (.v 10) (some 3))) <|
    .st (.act none (.px (some 12) (.mv (.v 1)))) <|
    .st (.act none (.ex (some 13) (.call fn_impl_Expr_eval [.v 11, .v 12]))) K164_28) K164_27
@[simp] def W164_29 := @C.wpe _ _ K164_29.eq_1
def K164_30 : C := .seq (.pl <| .st (.ext 8 2) <|
    .st (.act none (.als 8 none 2)) <|
    .st (.act none (.pget (some 9) (some 8) 2 1 none)) <|
    .st (.act none (.px (some 3) (.mv (.v 9)))) .done) (.ret)
@[simp] def W164_30 := @C.wpe _ _ K164_30.eq_1
def K164_31 : C := .seq (.pl <| .st (.ext 8 5) <|
    .st (.act none (.px (some 8) (.mv (.v 1)))) <|
    .st (.act none (.als 9 none 2)) <|
    .st (.act none (.pget (some 10) (some 9) 2 1 none)) <|
    .st (.act none (.px (some 11) (.ia 1 (.v 8) (.v 10)))) <|
    .st (.act none (.ld (some 12) (.v 11) none)) <|
    .st (.act none (.px (some 3) (.mv (.v 12)))) .done) (.ret)
@[simp] def W164_31 := @C.wpe _ _ K164_31.eq_1
def K164_32 : C := .cond 8 (.v 9) K164_31 (.skip)
@[simp] def W164_32 := @C.wpe _ _ K164_32.eq_1
def K164_33 : C := .seq (.pl <| .st (.ext 8 2) <|
    .st (.act none (.px (some 8) (.bin .eql (.v 6) (.c (.int .i64 2))))) <|
    .st (.act none (.px (some 9) (.mv (.v 8)))) .done) K164_32
@[simp] def W164_33 := @C.wpe _ _ K164_33.eq_1
def K164_34 : C := .cond 8 (.v 9) K164_30 K164_33
@[simp] def W164_34 := @C.wpe _ _ K164_34.eq_1
def K164_35 : C := .block 0 (.seq (.pl <| .st (.ext 8 2) <|
    .st (.act none (.px (some 8) (.bin .eql (.v 6) (.c (.int .i64 1))))) <|
    .st (.act none (.px (some 9) (.mv (.v 8)))) .done) K164_34)
@[simp] def W164_35 := @C.wpe _ _ K164_35.eq_1
def K164_36 : C := .seq (.seq (.pl <| .st (.ext 8 1) <|
    .st (.act none (.als 8 none 2)) <|
    .st (.act none (.pget (some 6) (some 8) 2 0 none)) .done) K164_35) K164_29
@[simp] def W164_36 := @C.wpe _ _ K164_36.eq_1
def B_impl_Expr_eval : C := .seq (.pl <| .st (.ext 8 0) <|
    .st (.act none (.pnew 2 (.v 0) [])) <|
    .st (.act none (.px (some 3) (.mv (.c (.int .i64 0))))) .done) K164_36
@[simp] def WB_impl_Expr_eval := @C.wpe _ _ B_impl_Expr_eval.eq_1
def R_impl_Expr_eval : FIR := ⟨B_impl_Expr_eval, 8, [(3, none)]⟩
theorem IR_impl_Expr_eval : cfun Try.prog H_impl_Expr_eval Try.f164 = some R_impl_Expr_eval := by kernel_rfl
theorem EN_impl_Expr_eval {args : List Value} {h : Heap} {k : Value → Heap → Prop} (hargs : args.length = 2) (hw : B_impl_Expr_eval.wp Try.prog (retQ [(3, none)] k) (env0 args 8) h) : CallE Try.prog fn_impl_Expr_eval args h k := enter Try.func164 rfl IR_impl_Expr_eval hargs hw

def H_impl_Expr_walk : Hint := ⟨[(0, false), (1, false), (2, false), (3, true), (4, false), (5, false), (6, false), (7, false), (8, false), (15, false)], []⟩
def K187_1 : Pl := .st (.act none (.px (some 14) (.un .not (.v 13)))) <|
    .st (.act none (.px (some 6) (.mv (.v 14)))) .done
@[simp] def W187_1 := @Pl.wpe _ _ K187_1.eq_1
def K187_2 : C := .seq (.pl <| .st (.ext 10 5) <|
    .st (.act none (.als 10 none 3)) <|
    .st (.act none (.pget (some 11) (some 10) 3 2 none)) <|
    .st (.act none (.px (some 12) (.mkf (.func fn_impl_Expr_walk_1) [] [.v 4, .v 5]))) <|
    .st (.act none (.ex (some 13) (.call fn_slices_ContainsFunc_S_impl_Expr_impl_Expr [.v 11, .v 12]))) K187_1) (.ret)
@[simp] def W187_2 := @C.wpe _ _ K187_2.eq_1
def K187_3 : C := .seq (.pl <| .st (.ext 10 0) <|
    .st (.act none (.px (some 6) (.mv (.c (.bool false))))) .done) (.ret)
@[simp] def W187_3 := @C.wpe _ _ K187_3.eq_1
def K187_4 : C := .cond 10 (.v 37) K187_3 (.skip)
@[simp] def W187_4 := @C.wpe _ _ K187_4.eq_1
def K187_5 : Pl := .st (.act (some (.v 24, false)) (.px (some 29) (.un .not (.v 28)))) <|
    .st (.act none (.px (some 30) (.pick (.v 24) (.c (.bool true)) (.v 29)))) <|
    .st (.act none (.px (some 31) (.mv (.v 30)))) <|
    .st (.act (some (.v 31, false)) (.als 32 none 3)) <|
    .st (.act (some (.v 31, false)) (.pget (some 33) (some 32) 3 2 none)) <|
    .st (.act (some (.v 31, false)) (.px (some 34) (.lenV (.v 33)))) <|
    .st (.act (some (.v 31, false)) (.px (some 35) (.mv (.v 7)))) <|
    .st (.act (some (.v 31, false)) (.px (some 36) (.bin .neq (.v 34) (.v 35)))) <|
    .st (.act none (.px (some 37) (.pick (.v 31) (.c (.bool true)) (.v 36)))) .done
@[simp] def W187_5 := @Pl.wpe _ _ K187_5.eq_1
def K187_6 : Pl := .st (.act (some (.v 18, false)) (.px (some 22) (.un .not (.v 21)))) <|
    .st (.act none (.px (some 23) (.pick (.v 18) (.c (.bool true)) (.v 22)))) <|
    .st (.act none (.px (some 24) (.mv (.v 23)))) <|
    .st (.act (some (.v 24, false)) (.als 25 none 3)) <|
    .st (.act (some (.v 24, false)) (.pget (some 26) (some 25) 3 1 none)) <|
    .st (.act (some (.v 24, false)) (.px (some 27) (.mv (.v 8)))) <|
    .st (.act (some (.v 24, false)) (.ex (some 28) (.call fn_impl_in [.v 26, .c (.int .i64 0), .v 27]))) K187_5
@[simp] def W187_6 := @Pl.wpe _ _ K187_6.eq_1
def K187_7 : C := .seq (.seq (.pl <| .st (.ext 10 28) <|
    .st (.act none (.ld (some 10) (.v 4) none)) <|
    .st (.act none (.px (some 11) (.bin .gtr (.v 10) (.c (.int .i64 6))))) <|
    .st (.act none (.px (some 12) (.mv (.v 11)))) <|
    .st (.act (some (.v 12, false)) (.ld (some 13) (.v 5) none)) <|
    .st (.act (some (.v 12, false)) (.px (some 14) (.nilc (.v 13)))) <|
    .st (.act (some (.v 12, false)) (.ld (some 15) (.v 14) none)) <|
    .st (.act (some (.v 12, false)) (.px (some 16) (.bin .gtr (.v 15) (.c (.int .i64 15))))) <|
    .st (.act none (.px (some 17) (.pick (.v 12) (.c (.bool true)) (.v 16)))) <|
    .st (.act none (.px (some 18) (.mv (.v 17)))) <|
    .st (.act (some (.v 18, false)) (.als 19 none 3)) <|
    .st (.act (some (.v 18, false)) (.pget (some 20) (some 19) 3 0 none)) <|
    .st (.act (some (.v 18, false)) (.ex (some 21) (.call fn_impl_in [.v 20, .c (.int .i64 1), .c (.int .i64 9)]))) K187_6) K187_4) K187_2
@[simp] def W187_7 := @C.wpe _ _ K187_7.eq_1
def K187_8 : C := .pl <| .st (.ext 10 0) <|
    .st (.act none (.px (some 7) (.mv (.c (.int .i64 0))))) <|
    .st (.act none (.px (some 8) (.mv (.c (.int .i64 3))))) .done
@[simp] def W187_8 := @C.wpe _ _ K187_8.eq_1
def K187_9 : C := .pl <| .st (.ext 10 0) <|
    .st (.act none (.px (some 7) (.mv (.c (.int .i64 0))))) <|
    .st (.act none (.px (some 8) (.mv (.c (.int .i64 2))))) .done
@[simp] def W187_9 := @C.wpe _ _ K187_9.eq_1
def K187_10 : C := .pl <| .st (.ext 10 0) <|
    .st (.act none (.px (some 7) (.mv (.c (.int .i64 1))))) .done
@[simp] def W187_10 := @C.wpe _ _ K187_10.eq_1
def K187_11 : C := .cond 10 (.v 11) K187_10 (.skip)
@[simp] def W187_11 := @C.wpe _ _ K187_11.eq_1
def K187_12 : C := .seq (.pl <| .st (.ext 10 2) <|
    .st (.act none (.px (some 10) (.bin .eql (.v 9) (.c (.int .i64 3))))) <|
    .st (.act none (.px (some 11) (.mv (.v 10)))) .done) K187_11
@[simp] def W187_12 := @C.wpe _ _ K187_12.eq_1
def K187_13 : C := .cond 10 (.v 11) K187_9 K187_12
@[simp] def W187_13 := @C.wpe _ _ K187_13.eq_1
def K187_14 : C := .seq (.pl <| .st (.ext 10 2) <|
    .st (.act none (.px (some 10) (.bin .eql (.v 9) (.c (.int .i64 2))))) <|
    .st (.act none (.px (some 11) (.mv (.v 10)))) .done) K187_13
@[simp] def W187_14 := @C.wpe _ _ K187_14.eq_1
def K187_15 : C := .cond 10 (.v 11) K187_8 K187_14
@[simp] def W187_15 := @C.wpe _ _ K187_15.eq_1
def K187_16 : C := .block 0 (.seq (.pl <| .st (.ext 10 2) <|
    .st (.act none (.px (some 10) (.bin .eql (.v 9) (.c (.int .i64 1))))) <|
    .st (.act none (.px (some 11) (.mv (.v 10)))) .done) K187_15)
@[simp] def W187_16 := @C.wpe _ _ K187_16.eq_1
def K187_17 : C := .seq (.seq (.pl <| .st (.ext 10 1) <|
    .st (.act none (.als 10 none 3)) <|
    .st (.act none (.pget (some 9) (some 10) 3 0 none)) .done) K187_16) K187_7
@[simp] def W187_17 := @C.wpe _ _ K187_17.eq_1
def K187_18 : C := .seq (.pl <| .st (.ext 10 0) <|
    .st (.act none (.px (some 7) (.mv (.c (.int .i64 2))))) <|
    .st (.act none (.px (some 8) (.mv (.c (.int .i64 0))))) .done) K187_17
@[simp] def W187_18 := @C.wpe _ _ K187_18.eq_1
def K187_19 : C := .seq (.pl <| .st (.ext 10 5) <|
    .st (.act none (.ld (some 10) (.v 5) none)) <|
    .st (.act none (.px (some 11) (.nilc (.v 10)))) <|
    .st (.act none (.ld (some 12) (.v 11) none)) <|
    .st (.act none (.px (some 13) (.bin .add (.v 12) (.c (.int .i64 1))))) <|
    .st (.act none (.px (some 14) (.nilc (.v 10)))) <|
    .st (.act none (.ex none (.store 1 (.v 14) (.v 13)))) .done) K187_18
@[simp] def W187_19 := @C.wpe _ _ K187_19.eq_1
def K187_20 : Pl := .st (.act none (.px (some 6) (.mv (.c (.bool false))))) .done
@[simp] def W187_20 := @Pl.wpe _ _ K187_20.eq_1
def K187_21 : Pl := .st (.act none (.ex (some 5) (.alloc (.v 2)))) K187_20
@[simp] def W187_21 := @Pl.wpe _ _ K187_21.eq_1
def B_impl_Expr_walk : C := .seq (.pl <| .st (.ext 10 0) <|
    .st (.act none (.pnew 3 (.v 0) [])) <|
    .st (.act none (.ex (some 4) (.alloc (.v 1)))) K187_21) K187_19
@[simp] def WB_impl_Expr_walk := @C.wpe _ _ B_impl_Expr_walk.eq_1
def R_impl_Expr_walk : FIR := ⟨B_impl_Expr_walk, 10, [(6, none)]⟩
theorem IR_impl_Expr_walk : cfun Try.prog H_impl_Expr_walk Try.f187 = some R_impl_Expr_walk := by kernel_rfl
theorem EN_impl_Expr_walk {args : List Value} {h : Heap} {k : Value → Heap → Prop} (hargs : args.length = 3) (hw : B_impl_Expr_walk.wp Try.prog (retQ [(6, none)] k) (env0 args 10) h) : CallE Try.prog fn_impl_Expr_walk args h k := enter Try.func187 rfl IR_impl_Expr_walk hargs hw

def H_impl_Expr_walk_1 : Hint := ⟨[(0, false), (1, false), (2, false), (3, true), (4, false)], []⟩
def K194_1 : Pl := .st (.act none (.px (some 10) (.un .not (.v 9)))) <|
    .st (.act none (.px (some 4) (.mv (.v 10)))) .done
@[simp] def W194_1 := @Pl.wpe _ _ K194_1.eq_1
def K194_2 : C := .seq (.pl <| .st (.ext 5 6) <|
    .st (.act none (.pget (some 5) none 3 0 (some 3))) <|
    .st (.act none (.ld (some 6) (.v 1) none)) <|
    .st (.act none (.px (some 7) (.bin .add (.v 6) (.c (.int .i64 1))))) <|
    .st (.act none (.ld (some 8) (.v 2) none)) <|
    .st (.act none (.ex (some 9) (.call fn_impl_Expr_walk [.v 5, .v 7, .v 8]))) K194_1) (.ret)
@[simp] def W194_2 := @C.wpe _ _ K194_2.eq_1
def B_impl_Expr_walk_1 : C := .seq (.pl <| .st (.ext 5 0) <|
    .st (.act none (.pnew 3 (.v 0) [])) <|
    .st (.act none (.px (some 4) (.mv (.c (.bool false))))) .done) K194_2
@[simp] def WB_impl_Expr_walk_1 := @C.wpe _ _ B_impl_Expr_walk_1.eq_1
def R_impl_Expr_walk_1 : FIR := ⟨B_impl_Expr_walk_1, 5, [(4, none)]⟩
theorem IR_impl_Expr_walk_1 : cfun Try.prog H_impl_Expr_walk_1 Try.f194 = some R_impl_Expr_walk_1 := by kernel_rfl
theorem EN_impl_Expr_walk_1 {args : List Value} {h : Heap} {k : Value → Heap → Prop} (hargs : args.length = 3) (hw : B_impl_Expr_walk_1.wp Try.prog (retQ [(4, none)] k) (env0 args 5) h) : CallE Try.prog fn_impl_Expr_walk_1 args h k := enter Try.func194 rfl IR_impl_Expr_walk_1 hargs hw

def H_impl_StateValid : Hint := ⟨[(0, false), (1, false), (2, true), (3, true), (4, false)], []⟩
def K56_1 : Pl := .st (.act none (.px (some 11) (.pick (.v 7) (.v 10) (.c (.bool false))))) <|
    .st (.act none (.px (some 4) (.mv (.v 11)))) .done
@[simp] def W56_1 := @Pl.wpe _ _ K56_1.eq_1
def K56_2 : Pl := .st (.act none (.px (some 7) (.mv (.v 6)))) <|
    .st (.act (some (.v 7, true)) (.pget (some 8) none 2 0 (some 2))) <|
    .st (.act (some (.v 7, true)) (.pget (some 9) none 3 0 (some 2))) <|
    .st (.act (some (.v 7, true)) (.ex (some 10) (.call fn_impl_System_has [.v 8, .v 9]))) K56_1
@[simp] def W56_2 := @Pl.wpe _ _ K56_2.eq_1
def K56_3 : C := .seq (.pl <| .st (.ext 5 7) <|
    .st (.act none (.pget (some 5) none 2 0 (some 2))) <|
    .st (.act none (.ex (some 6) (.call fn_impl_SystemValid [.v 5]))) K56_2) (.ret)
@[simp] def W56_3 := @C.wpe _ _ K56_3.eq_1
def B_impl_StateValid : C := .seq (.pl <| .st (.ext 5 0) <|
    .st (.act none (.pnew 2 (.v 0) [])) <|
    .st (.act none (.pnew 3 (.v 1) [])) <|
    .st (.act none (.px (some 4) (.mv (.c (.bool false))))) .done) K56_3
@[simp] def WB_impl_StateValid := @C.wpe _ _ B_impl_StateValid.eq_1
def R_impl_StateValid : FIR := ⟨B_impl_StateValid, 5, [(4, none)]⟩
theorem IR_impl_StateValid : cfun Try.prog H_impl_StateValid Try.f56 = some R_impl_StateValid := by kernel_rfl
theorem EN_impl_StateValid {args : List Value} {h : Heap} {k : Value → Heap → Prop} (hargs : args.length = 2) (hw : B_impl_StateValid.wp Try.prog (retQ [(4, none)] k) (env0 args 5) h) : CallE Try.prog fn_impl_StateValid args h k := enter Try.func56 rfl IR_impl_StateValid hargs hw

def H_impl_State_copyOf : Hint := ⟨[(0, false), (1, true), (2, true)], []⟩
def K85_1 : Pl := .st (.act none (.px (some 9) (.build [.slice none 0 0, .slice none 0 0] [(0, 1, .v 5), (1, 1, .v 8)]))) <|
    .st (.act none (.pset none 2 0 2 (.v 9))) .done
@[simp] def W85_1 := @Pl.wpe _ _ K85_1.eq_1
def K85_2 : Pl := .st (.act none (.ex (some 8) (.call fn_impl_clone_int [.v 7]))) K85_1
@[simp] def W85_2 := @Pl.wpe _ _ K85_2.eq_1
def K85_3 : C := .seq (.pl <| .st (.ext 3 7) <|
    .st (.act none (.als 3 none 1)) <|
    .st (.act none (.pget (some 4) (some 3) 1 0 none)) <|
    .st (.act none (.als 6 none 1)) <|
    .st (.act none (.pget (some 7) (some 6) 1 1 none)) <|
    .st (.act none (.ex (some 5) (.call fn_impl_clone_int [.v 4]))) K85_2) (.ret)
@[simp] def W85_3 := @C.wpe _ _ K85_3.eq_1
def B_impl_State_copyOf : C := .seq (.pl <| .st (.ext 3 0) <|
    .st (.act none (.pnew 1 (.v 0) [])) <|
    .st (.act none (.pnew 2 (.c (.agg #[.slice none 0 0, .slice none 0 0])) [])) .done) K85_3
@[simp] def WB_impl_State_copyOf := @C.wpe _ _ B_impl_State_copyOf.eq_1
def R_impl_State_copyOf : FIR := ⟨B_impl_State_copyOf, 3, [(2, some (some 2))]⟩
theorem IR_impl_State_copyOf : cfun Try.prog H_impl_State_copyOf Try.f85 = some R_impl_State_copyOf := by kernel_rfl
theorem EN_impl_State_copyOf {args : List Value} {h : Heap} {k : Value → Heap → Prop} (hargs : args.length = 1) (hw : B_impl_State_copyOf.wp Try.prog (retQ [(2, some (some 2))] k) (env0 args 3) h) : CallE Try.prog fn_impl_State_copyOf args h k := enter Try.func85 rfl IR_impl_State_copyOf hargs hw

def H_impl_State_take : Hint := ⟨[(0, false), (1, false), (2, false), (3, true), (5, true)], []⟩
def K141_1 : Pl := .st (.act none (.px (some 14) (.ia 1 (.v 6) (.v 8)))) <|
    .st (.act none (.ex none (.store 1 (.v 14) (.v 13)))) .done
@[simp] def W141_1 := @Pl.wpe _ _ K141_1.eq_1
def K141_2 : C := .pl <| .st (.ext 5 10) <|
    .st (.act none (.als 5 none 3)) <|
    .st (.act none (.pget (some 6) (some 5) 3 1 none)) <|
    .st (.act none (.als 7 none 4)) <|
    .st (.act none (.pget (some 8) (some 7) 4 5 none)) <|
    .st (.act none (.als 9 none 4)) <|
    .st (.act none (.pget (some 10) (some 9) 4 6 (some 3))) <|
    .st (.act none (.als 11 none 3)) <|
    .st (.act none (.pget (some 12) (some 11) 3 1 none)) <|
    .st (.act none (.ex (some 13) (.call fn_impl_Expr_eval [.v 10, .v 12]))) K141_1
@[simp] def W141_2 := @C.wpe _ _ K141_2.eq_1
def K141_3 : C := .cond 5 (.v 7) K141_2 (.skip)
@[simp] def W141_3 := @C.wpe _ _ K141_3.eq_1
def K141_4 : C := .seq (.pl <| .st (.ext 5 3) <|
    .st (.act none (.als 5 none 4)) <|
    .st (.act none (.pget (some 6) (some 5) 4 5 none)) <|
    .st (.act none (.px (some 7) (.bin .geq (.v 6) (.c (.int .i64 0))))) .done) K141_3
@[simp] def W141_4 := @C.wpe _ _ K141_4.eq_1
def K141_5 : C := .seq (.pl <| .st (.ext 5 6) <|
    .st (.act none (.als 5 none 3)) <|
    .st (.act none (.pget (some 6) (some 5) 3 0 none)) <|
    .st (.act none (.px (some 7) (.mv (.v 1)))) <|
    .st (.act none (.als 8 none 4)) <|
    .st (.act none (.pget (some 9) (some 8) 4 1 none)) <|
    .st (.act none (.px (some 10) (.ia 1 (.v 6) (.v 7)))) <|
    .st (.act none (.ex none (.store 1 (.v 10) (.v 9)))) .done) K141_4
@[simp] def W141_5 := @C.wpe _ _ K141_5.eq_1
def B_impl_State_take : C := .seq (.pl <| .st (.ext 5 0) <|
    .st (.act none (.pnew 3 (.v 0) [])) <|
    .st (.act none (.pnew 4 (.v 2) [])) .done) K141_5
@[simp] def WB_impl_State_take := @C.wpe _ _ B_impl_State_take.eq_1
def R_impl_State_take : FIR := ⟨B_impl_State_take, 5, []⟩
theorem IR_impl_State_take : cfun Try.prog H_impl_State_take Try.f141 = some R_impl_State_take := by kernel_rfl
theorem EN_impl_State_take {args : List Value} {h : Heap} {k : Value → Heap → Prop} (hargs : args.length = 3) (hw : B_impl_State_take.wp Try.prog (retQ [] k) (env0 args 5) h) : CallE Try.prog fn_impl_State_take args h k := enter Try.func141 rfl IR_impl_State_take hargs hw

def H_impl_SystemValid : Hint := ⟨[(0, false), (1, true), (2, false), (4, false), (17, false), (18, false), (19, false)], [[0, 1, 2, 3]]⟩
def K52_1 : C := .seq (.pl <| .st (.ext 7 0) <|
    .st (.act none (.px (some 2) (.mv (.c (.bool true))))) .done) (.ret)
@[simp] def W52_1 := @C.wpe _ _ K52_1.eq_1
def K52_2 : C := .pl <| .st (.ext 7 1) <|
    .st (.act none (.px (some 7) (.bin .add (.v 6) (.c (.int .i64 1))))) <|
    .st (.act none (.px (some 6) (.mv (.v 7)))) .done
@[simp] def W52_2 := @C.wpe _ _ K52_2.eq_1
def K52_3 : C := .seq (.pl <| .st (.ext 7 0) <|
    .st (.act none (.px (some 2) (.mv (.c (.bool false))))) .done) (.ret)
@[simp] def W52_3 := @C.wpe _ _ K52_3.eq_1
def K52_4 : C := .cond 7 (.v 22) K52_3 (.skip)
@[simp] def W52_4 := @C.wpe _ _ K52_4.eq_1
def K52_5 : Pl := .st (.act none (.px (some 22) (.pick (.v 17) (.c (.bool true)) (.v 21)))) .done
@[simp] def W52_5 := @Pl.wpe _ _ K52_5.eq_1
def K52_6 : Pl := .st (.act none (.px (some 10) (.un .not (.v 9)))) <|
    .st (.act none (.px (some 11) (.mv (.v 10)))) <|
    .st (.act (some (.v 11, false)) (.px (some 12) (.fa 1 (.v 3)))) <|
    .st (.act (some (.v 11, false)) (.ld (some 13) (.v 12) none)) <|
    .st (.act (some (.v 11, false)) (.px (some 14) (.lenV (.v 13)))) <|
    .st (.act (some (.v 11, false)) (.px (some 15) (.bin .gtr (.v 14) (.c (.int .i64 6))))) <|
    .st (.act none (.px (some 16) (.pick (.v 11) (.c (.bool true)) (.v 15)))) <|
    .st (.act none (.px (some 17) (.mv (.v 16)))) <|
    .st (.act (some (.v 17, false)) (.px (some 18) (.fa 1 (.v 3)))) <|
    .st (.act (some (.v 17, false)) (.ld (some 19) (.v 18) none)) <|
    .st (.act (some (.v 17, false)) (.px (some 20) (.mkf (.func fn_impl_SystemValid_1) [] [.v 3]))) <|
    .st (.act (some (.v 17, false)) (.ex (some 21) (.call fn_slices_ContainsFunc_S_impl_Edge_impl_Edge [.v 19, .v 20]))) K52_5
@[simp] def W52_6 := @Pl.wpe _ _ K52_6.eq_1
def K52_7 : C := .seq (.pl <| .st (.ext 7 16) <|
    .st (.act none (.px (some 7) (.fa 0 (.v 3)))) <|
    .st (.act none (.ld (some 8) (.v 7) none)) <|
    .st (.act none (.ex (some 9) (.call fn_impl_in [.v 8, .c (.int .i64 1), .c (.int .i64 4)]))) K52_6) K52_4
@[simp] def W52_7 := @C.wpe _ _ K52_7.eq_1
def K52_8 : Pl := .st (.act none (.ex none (.store 2 (.v 3) (.v 8)))) .done
@[simp] def W52_8 := @Pl.wpe _ _ K52_8.eq_1
def K52_9 : C := .seq (.block 1 (.seq (.pl <| .st (.ext 7 2) <|
    .st (.act none (.px (some 7) (.ia 2 (.v 4) (.v 6)))) <|
    .st (.act none (.ld (some 8) (.v 7) (some 2))) <|
    .st (.act none (.ex (some 3) (.alloc (.c (.agg #[.int .i64 0, .slice none 0 0]))))) K52_8) K52_7)) K52_2
@[simp] def W52_9 := @C.wpe _ _ K52_9.eq_1
def K52_10 : C := .seq (.cond 7 (.v 7) (.skip) (.exit 0)) K52_9
@[simp] def W52_10 := @C.wpe _ _ K52_10.eq_1
def K52_11 : C := .seq (.pl <| .st (.ext 7 1) <|
    .st (.act none (.px (some 7) (.bin .lss (.v 6) (.v 5)))) .done) K52_10
@[simp] def W52_11 := @C.wpe _ _ K52_11.eq_1
def K52_12 : C := .block 0 (.loop 7 [0, 1, 2, 3] K52_11)
@[simp] def W52_12 := @C.wpe _ _ K52_12.eq_1
def K52_13 : C := .seq (.seq (.pl <| .st (.ext 7 1) <|
    .st (.act none (.als 7 none 1)) <|
    .st (.act none (.pget (some 4) (some 7) 1 1 none)) <|
    .st (.act none (.px (some 5) (.lenV (.v 4)))) <|
    .st (.act none (.px (some 6) (.mv (.c (.int .i64 0))))) .done) K52_12) K52_1
@[simp] def W52_13 := @C.wpe _ _ K52_13.eq_1
def K52_14 : C := .seq (.pl <| .st (.ext 7 0) <|
    .st (.act none (.px (some 2) (.mv (.c (.bool false))))) .done) (.ret)
@[simp] def W52_14 := @C.wpe _ _ K52_14.eq_1
def K52_15 : C := .cond 7 (.v 17) K52_14 (.skip)
@[simp] def W52_15 := @C.wpe _ _ K52_15.eq_1
def K52_16 : Pl := .st (.act (some (.v 11, false)) (.px (some 16) (.un .not (.v 15)))) <|
    .st (.act none (.px (some 17) (.pick (.v 11) (.c (.bool true)) (.v 16)))) .done
@[simp] def W52_16 := @Pl.wpe _ _ K52_16.eq_1
def K52_17 : Pl := .st (.act none (.px (some 10) (.un .not (.v 9)))) <|
    .st (.act none (.px (some 11) (.mv (.v 10)))) <|
    .st (.act (some (.v 11, false)) (.als 12 none 1)) <|
    .st (.act (some (.v 11, false)) (.pget (some 13) (some 12) 1 1 none)) <|
    .st (.act (some (.v 11, false)) (.px (some 14) (.lenV (.v 13)))) <|
    .st (.act (some (.v 11, false)) (.ex (some 15) (.call fn_impl_in [.v 14, .c (.int .i64 1), .c (.int .i64 3)]))) K52_16
@[simp] def W52_17 := @Pl.wpe _ _ K52_17.eq_1
def K52_18 : C := .seq (.seq (.pl <| .st (.ext 7 11) <|
    .st (.act none (.als 7 none 1)) <|
    .st (.act none (.pget (some 8) (some 7) 1 0 none)) <|
    .st (.act none (.ex (some 9) (.call fn_impl_valsOk [.v 8]))) K52_17) K52_15) K52_13
@[simp] def W52_18 := @C.wpe _ _ K52_18.eq_1
def B_impl_SystemValid : C := .seq (.pl <| .st (.ext 7 0) <|
    .st (.act none (.pnew 1 (.v 0) [])) <|
    .st (.act none (.px (some 2) (.mv (.c (.bool false))))) .done) K52_18
@[simp] def WB_impl_SystemValid := @C.wpe _ _ B_impl_SystemValid.eq_1
def R_impl_SystemValid : FIR := ⟨B_impl_SystemValid, 7, [(2, none)]⟩
theorem IR_impl_SystemValid : cfun Try.prog H_impl_SystemValid Try.f52 = some R_impl_SystemValid := by kernel_rfl
theorem EN_impl_SystemValid {args : List Value} {h : Heap} {k : Value → Heap → Prop} (hargs : args.length = 1) (hw : B_impl_SystemValid.wp Try.prog (retQ [(2, none)] k) (env0 args 7) h) : CallE Try.prog fn_impl_SystemValid args h k := enter Try.func52 rfl IR_impl_SystemValid hargs hw

def H_impl_SystemValid_1 : Hint := ⟨[(0, false), (1, false), (2, true), (3, false)], []⟩
def K108_1 : Pl := .st (.act none (.px (some 8) (.un .not (.v 7)))) <|
    .st (.act none (.px (some 3) (.mv (.v 8)))) .done
@[simp] def W108_1 := @Pl.wpe _ _ K108_1.eq_1
def K108_2 : C := .seq (.pl <| .st (.ext 4 5) <|
    .st (.act none (.pget (some 4) none 2 0 (some 10))) <|
    .st (.act none (.px (some 5) (.fa 0 (.v 1)))) <|
    .st (.act none (.ld (some 6) (.v 5) none)) <|
    .st (.act none (.ex (some 7) (.call fn_impl_EdgeValid [.v 4, .v 6]))) K108_1) (.ret)
@[simp] def W108_2 := @C.wpe _ _ K108_2.eq_1
def B_impl_SystemValid_1 : C := .seq (.pl <| .st (.ext 4 0) <|
    .st (.act none (.pnew 2 (.v 0) [])) <|
    .st (.act none (.px (some 3) (.mv (.c (.bool false))))) .done) K108_2
@[simp] def WB_impl_SystemValid_1 := @C.wpe _ _ B_impl_SystemValid_1.eq_1
def R_impl_SystemValid_1 : FIR := ⟨B_impl_SystemValid_1, 4, [(3, none)]⟩
theorem IR_impl_SystemValid_1 : cfun Try.prog H_impl_SystemValid_1 Try.f108 = some R_impl_SystemValid_1 := by kernel_rfl
theorem EN_impl_SystemValid_1 {args : List Value} {h : Heap} {k : Value → Heap → Prop} (hargs : args.length = 2) (hw : B_impl_SystemValid_1.wp Try.prog (retQ [(3, none)] k) (env0 args 4) h) : CallE Try.prog fn_impl_SystemValid_1 args h k := enter Try.func108 rfl IR_impl_SystemValid_1 hargs hw

def H_impl_System_after : Hint := ⟨[(0, false), (1, false), (2, false), (3, true), (4, true), (5, true), (6, true), (7, true)], []⟩
def K93_1 : C := .seq (.pl <| .st (.ext 8 1) <|
    .st (.act none (.pget (some 8) none 7 0 (some 2))) <|
    .st (.act none (.pset none 6 0 2 (.v 8))) .done) (.ret)
@[simp] def W93_1 := @C.wpe _ _ K93_1.eq_1
def K93_2 : C := .pl <| .st (.ext 8 15) <|
    .st (.act none (.pget (some 8) none 7 0 (some 2))) <|
    .st (.act none (.als 9 none 5)) <|
    .st (.act none (.pget (some 10) (some 9) 5 2 none)) <|
    .st (.act none (.als 11 none 3)) <|
    .st (.act none (.pget (some 12) (some 11) 3 1 none)) <|
    .st (.act none (.als 13 none 5)) <|
    .st (.act none (.pget (some 14) (some 13) 5 2 none)) <|
    .st (.act none (.px (some 15) (.ia 2 (.v 12) (.v 14)))) <|
    .st (.act none (.px (some 16) (.fa 1 (.v 15)))) <|
    .st (.act none (.ld (some 17) (.v 16) none)) <|
    .st (.act none (.als 18 none 5)) <|
    .st (.act none (.pget (some 19) (some 18) 5 3 none)) <|
    .st (.act none (.px (some 20) (.ia 10 (.v 17) (.v 19)))) <|
    .st (.act none (.ld (some 21) (.v 20) (some 10))) <|
    .st (.act none (.ex (some 22) (.call fn_impl_State_take [.v 8, .v 10, .v 21]))) .done
@[simp] def W93_2 := @C.wpe _ _ K93_2.eq_1
def K93_3 : C := .cond 8 (.v 10) K93_2 (.skip)
@[simp] def W93_3 := @C.wpe _ _ K93_3.eq_1
def K93_4 : C := .seq (.seq (.pl <| .st (.ext 8 3) <|
    .st (.act none (.als 8 none 5)) <|
    .st (.act none (.pget (some 9) (some 8) 5 2 none)) <|
    .st (.act none (.px (some 10) (.bin .geq (.v 9) (.c (.int .i64 0))))) .done) K93_3) K93_1
@[simp] def W93_4 := @C.wpe _ _ K93_4.eq_1
def K93_5 : C := .seq (.pl <| .st (.ext 8 15) <|
    .st (.act none (.pget (some 8) none 7 0 (some 2))) <|
    .st (.act none (.als 9 none 5)) <|
    .st (.act none (.pget (some 10) (some 9) 5 0 none)) <|
    .st (.act none (.als 11 none 3)) <|
    .st (.act none (.pget (some 12) (some 11) 3 1 none)) <|
    .st (.act none (.als 13 none 5)) <|
    .st (.act none (.pget (some 14) (some 13) 5 0 none)) <|
    .st (.act none (.px (some 15) (.ia 2 (.v 12) (.v 14)))) <|
    .st (.act none (.px (some 16) (.fa 1 (.v 15)))) <|
    .st (.act none (.ld (some 17) (.v 16) none)) <|
    .st (.act none (.als 18 none 5)) <|
    .st (.act none (.pget (some 19) (some 18) 5 1 none)) <|
    .st (.act none (.px (some 20) (.ia 10 (.v 17) (.v 19)))) <|
    .st (.act none (.ld (some 21) (.v 20) (some 10))) <|
    .st (.act none (.ex (some 22) (.call fn_impl_State_take [.v 8, .v 10, .v 21]))) .done) K93_4
@[simp] def W93_5 := @C.wpe _ _ K93_5.eq_1
def K93_6 : Pl := .st (.act none (.pnew 7 (.c (.agg #[.slice none 0 0, .slice none 0 0])) [])) <|
    .st (.act none (.pset none 7 0 2 (.v 9))) .done
@[simp] def W93_6 := @Pl.wpe _ _ K93_6.eq_1
def K93_7 : C := .seq (.pl <| .st (.ext 8 2) <|
    .st (.act none (.pget (some 8) none 4 0 (some 2))) <|
    .st (.act none (.ex (some 9) (.call fn_impl_State_copyOf [.v 8]))) K93_6) K93_5
@[simp] def W93_7 := @C.wpe _ _ K93_7.eq_1
def B_impl_System_after : C := .seq (.pl <| .st (.ext 8 0) <|
    .st (.act none (.pnew 3 (.v 0) [])) <|
    .st (.act none (.pnew 4 (.v 1) [])) <|
    .st (.act none (.pnew 5 (.v 2) [])) <|
    .st (.act none (.pnew 6 (.c (.agg #[.slice none 0 0, .slice none 0 0])) [])) .done) K93_7
@[simp] def WB_impl_System_after := @C.wpe _ _ B_impl_System_after.eq_1
def R_impl_System_after : FIR := ⟨B_impl_System_after, 8, [(6, some (some 2))]⟩
theorem IR_impl_System_after : cfun Try.prog H_impl_System_after Try.f93 = some R_impl_System_after := by kernel_rfl
theorem EN_impl_System_after {args : List Value} {h : Heap} {k : Value → Heap → Prop} (hargs : args.length = 3) (hw : B_impl_System_after.wp Try.prog (retQ [(6, some (some 2))] k) (env0 args 8) h) : CallE Try.prog fn_impl_System_after args h k := enter Try.func93 rfl IR_impl_System_after hargs hw

def H_impl_System_enabled : Hint := ⟨[(0, false), (1, false), (2, true), (3, true), (4, false), (5, false), (6, false), (7, true), (8, false), (9, true), (10, false), (11, true), (12, false), (13, true), (15, false), (16, false), (17, false), (23, false), (24, false), (25, false), (53, false), (54, false), (55, false), (61, false), (62, false), (63, false)], [[0, 1, 4, 6, 7, 8, 9, 10, 11, 12, 13, 17, 18, 19, 20, 21, 22, 23, 24, 25], [0, 1, 4, 7, 8, 9, 10, 11, 12, 13, 20, 21, 22, 23, 24, 25], [0, 1, 4, 7, 10, 11, 12, 13, 23, 24, 25], [0, 1, 4, 7, 11, 12, 13]]⟩
def K140_1 : Pl := .st (.act none (.px (some 4) (.mv (.v 27)))) .done
@[simp] def W140_1 := @Pl.wpe _ _ K140_1.eq_1
def K140_2 : C := .seq (.pl <| .st (.ext 26 2) <|
    .st (.act none (.px (some 26) (.mv (.v 5)))) <|
    .st (.act none (.ex (some 27) (.call fn_slices_Clip_S_impl_Step_impl_Step [.v 26]))) K140_1) (.ret)
@[simp] def W140_2 := @C.wpe _ _ K140_2.eq_1
def K140_3 : C := .pl <| .st (.ext 26 1) <|
    .st (.act none (.px (some 26) (.bin .add (.v 16) (.c (.int .i64 1))))) <|
    .st (.act none (.px (some 16) (.mv (.v 26)))) .done
@[simp] def W140_3 := @C.wpe _ _ K140_3.eq_1
def K140_4 : C := .pl <| .st (.ext 26 1) <|
    .st (.act none (.px (some 26) (.bin .add (.v 19) (.c (.int .i64 1))))) <|
    .st (.act none (.px (some 19) (.mv (.v 26)))) .done
@[simp] def W140_4 := @C.wpe _ _ K140_4.eq_1
def K140_5 : C := .pl <| .st (.ext 26 1) <|
    .st (.act none (.px (some 26) (.bin .add (.v 22) (.c (.int .i64 1))))) <|
    .st (.act none (.px (some 22) (.mv (.v 26)))) .done
@[simp] def W140_5 := @C.wpe _ _ K140_5.eq_1
def K140_6 : C := .pl <| .st (.ext 26 1) <|
    .st (.act none (.px (some 26) (.bin .add (.v 25) (.c (.int .i64 1))))) <|
    .st (.act none (.px (some 25) (.mv (.v 26)))) .done
@[simp] def W140_6 := @C.wpe _ _ K140_6.eq_1
def K140_7 : Pl := .st (.act none (.px (some 5) (.mv (.v 33)))) .done
@[simp] def W140_7 := @Pl.wpe _ _ K140_7.eq_1
def K140_8 : C := .pl <| .st (.ext 26 8) <|
    .st (.act none (.px (some 26) (.mv (.v 5)))) <|
    .st (.act none (.px (some 27) (.mv (.v 6)))) <|
    .st (.act none (.px (some 28) (.mv (.v 8)))) <|
    .st (.act none (.px (some 29) (.mv (.v 10)))) <|
    .st (.act none (.px (some 30) (.mv (.v 12)))) <|
    .st (.act none (.px (some 31) (.build [.int .i64 0, .int .i64 0, .int .i64 0, .int .i64 0] [(0, 1, .v 27), (1, 1, .v 28), (2, 1, .v 29), (3, 1, .v 30)]))) <|
    .st (.act none (.psl 32 [.int .i64 0, .int .i64 0, .int .i64 0, .int .i64 0] [(0, 4, .v 31)])) <|
    .st (.act none (.ex (some 33) (.app 32 4 [.int .i64 0, .int .i64 0, .int .i64 0, .int .i64 0] (.o (.v 26)) (.p 1 32)))) K140_7
@[simp] def W140_8 := @C.wpe _ _ K140_8.eq_1
def K140_9 : C := .cond 26 (.v 43) K140_8 (.skip)
@[simp] def W140_9 := @C.wpe _ _ K140_9.eq_1
def K140_10 : Pl := .st (.act none (.px (some 43) (.pick (.v 37) (.v 42) (.c (.bool false))))) .done
@[simp] def W140_10 := @Pl.wpe _ _ K140_10.eq_1
def K140_11 : C := .seq (.pl <| .st (.ext 26 18) <|
    .st (.act none (.px (some 26) (.mv (.v 10)))) <|
    .st (.act none (.px (some 27) (.mv (.v 6)))) <|
    .st (.act none (.px (some 28) (.bin .neq (.v 26) (.v 27)))) <|
    .st (.act none (.px (some 29) (.mv (.v 28)))) <|
    .st (.act (some (.v 29, true)) (.als 30 none 13)) <|
    .st (.act (some (.v 29, true)) (.pget (some 31) (some 30) 13 9 none)) <|
    .st (.act (some (.v 29, true)) (.als 32 none 9)) <|
    .st (.act (some (.v 29, true)) (.pget (some 33) (some 32) 9 9 none)) <|
    .st (.act (some (.v 29, true)) (.px (some 34) (.un .neg (.v 33)))) <|
    .st (.act (some (.v 29, true)) (.px (some 35) (.bin .eql (.v 31) (.v 34)))) <|
    .st (.act none (.px (some 36) (.pick (.v 29) (.v 35) (.c (.bool false))))) <|
    .st (.act none (.px (some 37) (.mv (.v 36)))) <|
    .st (.act (some (.v 37, true)) (.pget (some 38) none 2 0 (some 2))) <|
    .st (.act (some (.v 37, true)) (.pget (some 39) none 3 0 (some 2))) <|
    .st (.act (some (.v 37, true)) (.px (some 40) (.mv (.v 10)))) <|
    .st (.act (some (.v 37, true)) (.px (some 41) (.mv (.v 12)))) <|
    .st (.act (some (.v 37, true)) (.ex (some 42) (.call fn_impl_System_ready [.v 38, .v 39, .v 40, .v 41]))) K140_10) K140_9
@[simp] def W140_11 := @C.wpe _ _ K140_11.eq_1
def K140_12 : C := .seq (.block 8 (.seq (.pl <| .st (.ext 26 3) <|
    .st (.act none (.px (some 26) (.mv (.v 25)))) <|
    .st (.act none (.px (some 27) (.ia 10 (.v 23) (.v 25)))) <|
    .st (.act none (.ld (some 28) (.v 27) (some 10))) <|
    .st (.act none (.pnew 13 (.c (.agg #[.int .i64 0, .int .i64 0, .int .i64 0, .int .i64 0, .slice none 0 0, .int .i64 0, .int .i64 0, .int .i64 0, .slice none 0 0, .int .i64 0])) [])) <|
    .st (.act none (.px (some 12) (.mv (.v 26)))) <|
    .st (.act none (.pset none 13 0 10 (.v 28))) .done) K140_11)) K140_6
@[simp] def W140_12 := @C.wpe _ _ K140_12.eq_1
def K140_13 : C := .seq (.cond 26 (.v 26) (.skip) (.exit 7)) K140_12
@[simp] def W140_13 := @C.wpe _ _ K140_13.eq_1
def K140_14 : C := .seq (.pl <| .st (.ext 26 1) <|
    .st (.act none (.px (some 26) (.bin .lss (.v 25) (.v 24)))) .done) K140_13
@[simp] def W140_14 := @C.wpe _ _ K140_14.eq_1
def K140_15 : C := .block 7 (.loop 26 [0, 1, 4, 7, 11, 12, 13] K140_14)
@[simp] def W140_15 := @C.wpe _ _ K140_15.eq_1
def K140_16 : C := .seq (.pl <| .st (.ext 26 1) <|
    .st (.act none (.als 26 none 11)) <|
    .st (.act none (.pget (some 23) (some 26) 11 1 none)) <|
    .st (.act none (.px (some 24) (.lenV (.v 23)))) <|
    .st (.act none (.px (some 25) (.mv (.c (.int .i64 0))))) .done) K140_15
@[simp] def W140_16 := @C.wpe _ _ K140_16.eq_1
def K140_17 : C := .seq (.block 6 (.seq (.pl <| .st (.ext 26 3) <|
    .st (.act none (.px (some 26) (.mv (.v 22)))) <|
    .st (.act none (.px (some 27) (.ia 2 (.v 20) (.v 22)))) <|
    .st (.act none (.ld (some 28) (.v 27) (some 2))) <|
    .st (.act none (.pnew 11 (.c (.agg #[.int .i64 0, .slice none 0 0])) [])) <|
    .st (.act none (.px (some 10) (.mv (.v 26)))) <|
    .st (.act none (.pset none 11 0 2 (.v 28))) .done) K140_16)) K140_5
@[simp] def W140_17 := @C.wpe _ _ K140_17.eq_1
def K140_18 : C := .seq (.cond 26 (.v 26) (.skip) (.exit 5)) K140_17
@[simp] def W140_18 := @C.wpe _ _ K140_18.eq_1
def K140_19 : C := .seq (.pl <| .st (.ext 26 1) <|
    .st (.act none (.px (some 26) (.bin .lss (.v 22) (.v 21)))) .done) K140_18
@[simp] def W140_19 := @C.wpe _ _ K140_19.eq_1
def K140_20 : C := .block 5 (.loop 26 [0, 1, 4, 7, 10, 11, 12, 13, 23, 24, 25] K140_19)
@[simp] def W140_20 := @C.wpe _ _ K140_20.eq_1
def K140_21 : C := .seq (.pl <| .st (.ext 26 1) <|
    .st (.act none (.als 26 none 2)) <|
    .st (.act none (.pget (some 20) (some 26) 2 1 none)) <|
    .st (.act none (.px (some 21) (.lenV (.v 20)))) <|
    .st (.act none (.px (some 22) (.mv (.c (.int .i64 0))))) .done) K140_20
@[simp] def W140_21 := @C.wpe _ _ K140_21.eq_1
def K140_22 : Pl := .st (.act none (.px (some 5) (.mv (.v 31)))) .done
@[simp] def W140_22 := @Pl.wpe _ _ K140_22.eq_1
def K140_23 : C := .seq (.pl <| .st (.ext 26 6) <|
    .st (.act none (.px (some 26) (.mv (.v 5)))) <|
    .st (.act none (.px (some 27) (.mv (.v 6)))) <|
    .st (.act none (.px (some 28) (.mv (.v 8)))) <|
    .st (.act none (.px (some 29) (.build [.int .i64 0, .int .i64 0, .int .i64 0, .int .i64 0] [(0, 1, .v 27), (1, 1, .v 28), (2, 1, .c (.int .i64 (-1))), (3, 1, .c (.int .i64 (-1)))]))) <|
    .st (.act none (.psl 30 [.int .i64 0, .int .i64 0, .int .i64 0, .int .i64 0] [(0, 4, .v 29)])) <|
    .st (.act none (.ex (some 31) (.app 32 4 [.int .i64 0, .int .i64 0, .int .i64 0, .int .i64 0] (.o (.v 26)) (.p 1 30)))) K140_22) (.exit 3)
@[simp] def W140_23 := @C.wpe _ _ K140_23.eq_1
def K140_24 : C := .cond 26 (.v 29) K140_23 (.skip)
@[simp] def W140_24 := @C.wpe _ _ K140_24.eq_1
def K140_25 : C := .seq (.pl <| .st (.ext 26 4) <|
    .st (.act none (.als 26 none 9)) <|
    .st (.act none (.pget (some 27) (some 26) 9 9 none)) <|
    .st (.act none (.px (some 28) (.bin .eql (.v 27) (.c (.int .i64 0))))) <|
    .st (.act none (.px (some 29) (.mv (.v 28)))) .done) K140_24
@[simp] def W140_25 := @C.wpe _ _ K140_25.eq_1
def K140_26 : C := .cond 26 (.v 37) (.exit 3) K140_25
@[simp] def W140_26 := @C.wpe _ _ K140_26.eq_1
def K140_27 : Pl := .st (.act none (.px (some 31) (.un .not (.v 30)))) <|
    .st (.act none (.px (some 32) (.mv (.v 31)))) <|
    .st (.act (some (.v 32, false)) (.als 33 none 9)) <|
    .st (.act (some (.v 32, false)) (.pget (some 34) (some 33) 9 9 none)) <|
    .st (.act (some (.v 32, false)) (.px (some 35) (.bin .lss (.v 34) (.c (.int .i64 0))))) <|
    .st (.act none (.px (some 36) (.pick (.v 32) (.c (.bool true)) (.v 35)))) <|
    .st (.act none (.px (some 37) (.mv (.v 36)))) .done
@[simp] def W140_27 := @Pl.wpe _ _ K140_27.eq_1
def K140_28 : C := .seq (.block 4 (.seq (.pl <| .st (.ext 26 12) <|
    .st (.act none (.pget (some 26) none 2 0 (some 2))) <|
    .st (.act none (.pget (some 27) none 3 0 (some 2))) <|
    .st (.act none (.px (some 28) (.mv (.v 6)))) <|
    .st (.act none (.px (some 29) (.mv (.v 8)))) <|
    .st (.act none (.ex (some 30) (.call fn_impl_System_ready [.v 26, .v 27, .v 28, .v 29]))) K140_27) K140_26)) K140_21
@[simp] def W140_28 := @C.wpe _ _ K140_28.eq_1
def K140_29 : C := .seq (.block 3 (.seq (.pl <| .st (.ext 26 3) <|
    .st (.act none (.px (some 26) (.mv (.v 19)))) <|
    .st (.act none (.px (some 27) (.ia 10 (.v 17) (.v 19)))) <|
    .st (.act none (.ld (some 28) (.v 27) (some 10))) <|
    .st (.act none (.pnew 9 (.c (.agg #[.int .i64 0, .int .i64 0, .int .i64 0, .int .i64 0, .slice none 0 0, .int .i64 0, .int .i64 0, .int .i64 0, .slice none 0 0, .int .i64 0])) [])) <|
    .st (.act none (.px (some 8) (.mv (.v 26)))) <|
    .st (.act none (.pset none 9 0 10 (.v 28))) .done) K140_28)) K140_4
@[simp] def W140_29 := @C.wpe _ _ K140_29.eq_1
def K140_30 : C := .seq (.cond 26 (.v 26) (.skip) (.exit 2)) K140_29
@[simp] def W140_30 := @C.wpe _ _ K140_30.eq_1
def K140_31 : C := .seq (.pl <| .st (.ext 26 1) <|
    .st (.act none (.px (some 26) (.bin .lss (.v 19) (.v 18)))) .done) K140_30
@[simp] def W140_31 := @C.wpe _ _ K140_31.eq_1
def K140_32 : C := .block 2 (.loop 26 [0, 1, 4, 7, 8, 9, 10, 11, 12, 13, 20, 21, 22, 23, 24, 25] K140_31)
@[simp] def W140_32 := @C.wpe _ _ K140_32.eq_1
def K140_33 : C := .seq (.pl <| .st (.ext 26 1) <|
    .st (.act none (.als 26 none 7)) <|
    .st (.act none (.pget (some 17) (some 26) 7 1 none)) <|
    .st (.act none (.px (some 18) (.lenV (.v 17)))) <|
    .st (.act none (.px (some 19) (.mv (.c (.int .i64 0))))) .done) K140_32
@[simp] def W140_33 := @C.wpe _ _ K140_33.eq_1
def K140_34 : C := .seq (.block 1 (.seq (.pl <| .st (.ext 26 3) <|
    .st (.act none (.px (some 26) (.mv (.v 16)))) <|
    .st (.act none (.px (some 27) (.ia 2 (.v 14) (.v 16)))) <|
    .st (.act none (.ld (some 28) (.v 27) (some 2))) <|
    .st (.act none (.pnew 7 (.c (.agg #[.int .i64 0, .slice none 0 0])) [])) <|
    .st (.act none (.px (some 6) (.mv (.v 26)))) <|
    .st (.act none (.pset none 7 0 2 (.v 28))) .done) K140_33)) K140_3
@[simp] def W140_34 := @C.wpe _ _ K140_34.eq_1
def K140_35 : C := .seq (.cond 26 (.v 26) (.skip) (.exit 0)) K140_34
@[simp] def W140_35 := @C.wpe _ _ K140_35.eq_1
def K140_36 : C := .seq (.pl <| .st (.ext 26 1) <|
    .st (.act none (.px (some 26) (.bin .lss (.v 16) (.v 15)))) .done) K140_35
@[simp] def W140_36 := @C.wpe _ _ K140_36.eq_1
def K140_37 : C := .block 0 (.loop 26 [0, 1, 4, 6, 7, 8, 9, 10, 11, 12, 13, 17, 18, 19, 20, 21, 22, 23, 24, 25] K140_36)
@[simp] def W140_37 := @C.wpe _ _ K140_37.eq_1
def K140_38 : C := .seq (.seq (.pl <| .st (.ext 26 1) <|
    .st (.act none (.als 26 none 2)) <|
    .st (.act none (.pget (some 14) (some 26) 2 1 none)) <|
    .st (.act none (.px (some 15) (.lenV (.v 14)))) <|
    .st (.act none (.px (some 16) (.mv (.c (.int .i64 0))))) .done) K140_37) K140_2
@[simp] def W140_38 := @C.wpe _ _ K140_38.eq_1
def K140_39 : C := .seq (.pl <| .st (.ext 26 0) <|
    .st (.act none (.px (some 5) (.mv (.c (.slice none 0 0))))) .done) K140_38
@[simp] def W140_39 := @C.wpe _ _ K140_39.eq_1
def B_impl_System_enabled : C := .seq (.pl <| .st (.ext 26 0) <|
    .st (.act none (.pnew 2 (.v 0) [])) <|
    .st (.act none (.pnew 3 (.v 1) [])) <|
    .st (.act none (.px (some 4) (.mv (.c (.slice none 0 0))))) .done) K140_39
@[simp] def WB_impl_System_enabled := @C.wpe _ _ B_impl_System_enabled.eq_1
def R_impl_System_enabled : FIR := ⟨B_impl_System_enabled, 26, [(4, none)]⟩
theorem IR_impl_System_enabled : cfun Try.prog H_impl_System_enabled Try.f140 = some R_impl_System_enabled := by kernel_rfl
theorem EN_impl_System_enabled {args : List Value} {h : Heap} {k : Value → Heap → Prop} (hargs : args.length = 2) (hw : B_impl_System_enabled.wp Try.prog (retQ [(4, none)] k) (env0 args 26) h) : CallE Try.prog fn_impl_System_enabled args h k := enter Try.func140 rfl IR_impl_System_enabled hargs hw

def H_impl_System_has : Hint := ⟨[(0, false), (1, false), (2, true), (3, true), (4, false), (5, false), (6, false), (21, false), (22, false), (23, false)], [[0, 1, 3, 4, 5, 6]]⟩
def K84_1 : C := .seq (.pl <| .st (.ext 10 0) <|
    .st (.act none (.px (some 4) (.mv (.c (.bool true))))) .done) (.ret)
@[simp] def W84_1 := @C.wpe _ _ K84_1.eq_1
def K84_2 : C := .pl <| .st (.ext 10 1) <|
    .st (.act none (.px (some 10) (.bin .add (.v 9) (.c (.int .i64 1))))) <|
    .st (.act none (.px (some 9) (.mv (.v 10)))) .done
@[simp] def W84_2 := @C.wpe _ _ K84_2.eq_1
def K84_3 : C := .seq (.pl <| .st (.ext 10 0) <|
    .st (.act none (.px (some 4) (.mv (.c (.bool false))))) .done) (.ret)
@[simp] def W84_3 := @C.wpe _ _ K84_3.eq_1
def K84_4 : C := .cond 10 (.v 19) K84_3 (.skip)
@[simp] def W84_4 := @C.wpe _ _ K84_4.eq_1
def K84_5 : Pl := .st (.act none (.px (some 19) (.un .not (.v 18)))) .done
@[simp] def W84_5 := @Pl.wpe _ _ K84_5.eq_1
def K84_6 : C := .seq (.pl <| .st (.ext 10 10) <|
    .st (.act none (.px (some 10) (.mv (.v 6)))) <|
    .st (.act none (.als 11 none 2)) <|
    .st (.act none (.pget (some 12) (some 11) 2 1 none)) <|
    .st (.act none (.px (some 13) (.mv (.v 5)))) <|
    .st (.act none (.px (some 14) (.ia 2 (.v 12) (.v 13)))) <|
    .st (.act none (.px (some 15) (.fa 0 (.v 14)))) <|
    .st (.act none (.ld (some 16) (.v 15) none)) <|
    .st (.act none (.px (some 17) (.bin .sub (.v 16) (.c (.int .i64 1))))) <|
    .st (.act none (.ex (some 18) (.call fn_impl_in [.v 10, .c (.int .i64 0), .v 17]))) K84_5) K84_4
@[simp] def W84_6 := @C.wpe _ _ K84_6.eq_1
def K84_7 : C := .seq (.block 1 (.seq (.pl <| .st (.ext 10 3) <|
    .st (.act none (.px (some 10) (.mv (.v 9)))) <|
    .st (.act none (.px (some 11) (.ia 1 (.v 7) (.v 9)))) <|
    .st (.act none (.ld (some 12) (.v 11) none)) <|
    .st (.act none (.px (some 5) (.mv (.v 10)))) <|
    .st (.act none (.px (some 6) (.mv (.v 12)))) .done) K84_6)) K84_2
@[simp] def W84_7 := @C.wpe _ _ K84_7.eq_1
def K84_8 : C := .seq (.cond 10 (.v 10) (.skip) (.exit 0)) K84_7
@[simp] def W84_8 := @C.wpe _ _ K84_8.eq_1
def K84_9 : C := .seq (.pl <| .st (.ext 10 1) <|
    .st (.act none (.px (some 10) (.bin .lss (.v 9) (.v 8)))) .done) K84_8
@[simp] def W84_9 := @C.wpe _ _ K84_9.eq_1
def K84_10 : C := .block 0 (.loop 10 [0, 1, 3, 4, 5, 6] K84_9)
@[simp] def W84_10 := @C.wpe _ _ K84_10.eq_1
def K84_11 : C := .seq (.seq (.pl <| .st (.ext 10 1) <|
    .st (.act none (.als 10 none 3)) <|
    .st (.act none (.pget (some 7) (some 10) 3 0 none)) <|
    .st (.act none (.px (some 8) (.lenV (.v 7)))) <|
    .st (.act none (.px (some 9) (.mv (.c (.int .i64 0))))) .done) K84_10) K84_1
@[simp] def W84_11 := @C.wpe _ _ K84_11.eq_1
def K84_12 : C := .seq (.pl <| .st (.ext 10 0) <|
    .st (.act none (.px (some 4) (.mv (.c (.bool false))))) .done) (.ret)
@[simp] def W84_12 := @C.wpe _ _ K84_12.eq_1
def K84_13 : C := .cond 10 (.v 22) K84_12 (.skip)
@[simp] def W84_13 := @C.wpe _ _ K84_13.eq_1
def K84_14 : Pl := .st (.act (some (.v 17, false)) (.px (some 21) (.un .not (.v 20)))) <|
    .st (.act none (.px (some 22) (.pick (.v 17) (.c (.bool true)) (.v 21)))) .done
@[simp] def W84_14 := @Pl.wpe _ _ K84_14.eq_1
def K84_15 : C := .seq (.seq (.pl <| .st (.ext 10 13) <|
    .st (.act none (.als 10 none 3)) <|
    .st (.act none (.pget (some 11) (some 10) 3 0 none)) <|
    .st (.act none (.px (some 12) (.lenV (.v 11)))) <|
    .st (.act none (.als 13 none 2)) <|
    .st (.act none (.pget (some 14) (some 13) 2 1 none)) <|
    .st (.act none (.px (some 15) (.lenV (.v 14)))) <|
    .st (.act none (.px (some 16) (.bin .neq (.v 12) (.v 15)))) <|
    .st (.act none (.px (some 17) (.mv (.v 16)))) <|
    .st (.act (some (.v 17, false)) (.als 18 none 3)) <|
    .st (.act (some (.v 17, false)) (.pget (some 19) (some 18) 3 1 none)) <|
    .st (.act (some (.v 17, false)) (.ex (some 20) (.call fn_impl_valsOk [.v 19]))) K84_14) K84_13) K84_11
@[simp] def W84_15 := @C.wpe _ _ K84_15.eq_1
def B_impl_System_has : C := .seq (.pl <| .st (.ext 10 0) <|
    .st (.act none (.pnew 2 (.v 0) [])) <|
    .st (.act none (.pnew 3 (.v 1) [])) <|
    .st (.act none (.px (some 4) (.mv (.c (.bool false))))) .done) K84_15
@[simp] def WB_impl_System_has := @C.wpe _ _ B_impl_System_has.eq_1
def R_impl_System_has : FIR := ⟨B_impl_System_has, 10, [(4, none)]⟩
theorem IR_impl_System_has : cfun Try.prog H_impl_System_has Try.f84 = some R_impl_System_has := by kernel_rfl
theorem EN_impl_System_has {args : List Value} {h : Heap} {k : Value → Heap → Prop} (hargs : args.length = 2) (hw : B_impl_System_has.wp Try.prog (retQ [(4, none)] k) (env0 args 10) h) : CallE Try.prog fn_impl_System_has args h k := enter Try.func84 rfl IR_impl_System_has hargs hw

def H_impl_System_ready : Hint := ⟨[(0, false), (1, false), (2, false), (3, false), (4, true), (5, true), (8, false), (9, true)], []⟩
def K175_1 : Pl := .st (.act (some (.v 16, true)) (.px (some 22) (.bin .neq (.v 21) (.c (.int .i64 0))))) <|
    .st (.act none (.px (some 23) (.pick (.v 16) (.v 22) (.c (.bool false))))) <|
    .st (.act none (.px (some 6) (.mv (.v 23)))) .done
@[simp] def W175_1 := @Pl.wpe _ _ K175_1.eq_1
def K175_2 : C := .seq (.pl <| .st (.ext 8 16) <|
    .st (.act none (.als 8 none 5)) <|
    .st (.act none (.pget (some 9) (some 8) 5 0 none)) <|
    .st (.act none (.px (some 10) (.mv (.v 2)))) <|
    .st (.act none (.px (some 11) (.ia 1 (.v 9) (.v 10)))) <|
    .st (.act none (.ld (some 12) (.v 11) none)) <|
    .st (.act none (.als 13 none 7)) <|
    .st (.act none (.pget (some 14) (some 13) 7 0 none)) <|
    .st (.act none (.px (some 15) (.bin .eql (.v 12) (.v 14)))) <|
    .st (.act none (.px (some 16) (.mv (.v 15)))) <|
    .st (.act (some (.v 16, true)) (.als 17 none 7)) <|
    .st (.act (some (.v 16, true)) (.pget (some 18) (some 17) 7 2 (some 3))) <|
    .st (.act (some (.v 16, true)) (.als 19 none 5)) <|
    .st (.act (some (.v 16, true)) (.pget (some 20) (some 19) 5 1 none)) <|
    .st (.act (some (.v 16, true)) (.ex (some 21) (.call fn_impl_Expr_eval [.v 18, .v 20]))) K175_1) (.ret)
@[simp] def W175_2 := @C.wpe _ _ K175_2.eq_1
def K175_3 : C := .seq (.pl <| .st (.ext 8 9) <|
    .st (.act none (.als 8 none 4)) <|
    .st (.act none (.pget (some 9) (some 8) 4 1 none)) <|
    .st (.act none (.px (some 10) (.mv (.v 2)))) <|
    .st (.act none (.px (some 11) (.ia 2 (.v 9) (.v 10)))) <|
    .st (.act none (.px (some 12) (.fa 1 (.v 11)))) <|
    .st (.act none (.ld (some 13) (.v 12) none)) <|
    .st (.act none (.px (some 14) (.mv (.v 3)))) <|
    .st (.act none (.px (some 15) (.ia 10 (.v 13) (.v 14)))) <|
    .st (.act none (.ld (some 16) (.v 15) (some 10))) <|
    .st (.act none (.pnew 7 (.c (.agg #[.int .i64 0, .int .i64 0, .int .i64 0, .int .i64 0, .slice none 0 0, .int .i64 0, .int .i64 0, .int .i64 0, .slice none 0 0, .int .i64 0])) [])) <|
    .st (.act none (.pset none 7 0 10 (.v 16))) .done) K175_2
@[simp] def W175_3 := @C.wpe _ _ K175_3.eq_1
def B_impl_System_ready : C := .seq (.pl <| .st (.ext 8 0) <|
    .st (.act none (.pnew 4 (.v 0) [])) <|
    .st (.act none (.pnew 5 (.v 1) [])) <|
    .st (.act none (.px (some 6) (.mv (.c (.bool false))))) .done) K175_3
@[simp] def WB_impl_System_ready := @C.wpe _ _ B_impl_System_ready.eq_1
def R_impl_System_ready : FIR := ⟨B_impl_System_ready, 8, [(6, none)]⟩
theorem IR_impl_System_ready : cfun Try.prog H_impl_System_ready Try.f175 = some R_impl_System_ready := by kernel_rfl
theorem EN_impl_System_ready {args : List Value} {h : Heap} {k : Value → Heap → Prop} (hargs : args.length = 4) (hw : B_impl_System_ready.wp Try.prog (retQ [(6, none)] k) (env0 args 8) h) : CallE Try.prog fn_impl_System_ready args h k := enter Try.func175 rfl IR_impl_System_ready hargs hw

def H_impl_clone_int : Hint := ⟨[(0, false), (2, false)], []⟩
def K131_1 : Pl := .st (.act none (.px (some 1) (.mv (.v 4)))) .done
@[simp] def W131_1 := @Pl.wpe _ _ K131_1.eq_1
def K131_2 : Pl := .st (.act none (.ex (some 4) (.call fn_slices_Clip_S_int_int [.v 3]))) K131_1
@[simp] def W131_2 := @Pl.wpe _ _ K131_2.eq_1
def K131_3 : C := .seq (.pl <| .st (.ext 2 3) <|
    .st (.act none (.px (some 2) (.mv (.v 0)))) <|
    .st (.act none (.ex (some 3) (.call fn_slices_Clone_S_int_int [.v 2]))) K131_2) (.ret)
@[simp] def W131_3 := @C.wpe _ _ K131_3.eq_1
def B_impl_clone_int : C := .seq (.pl <| .st (.ext 2 0) <|
    .st (.act none (.px (some 1) (.mv (.c (.slice none 0 0))))) .done) K131_3
@[simp] def WB_impl_clone_int := @C.wpe _ _ B_impl_clone_int.eq_1
def R_impl_clone_int : FIR := ⟨B_impl_clone_int, 2, [(1, none)]⟩
theorem IR_impl_clone_int : cfun Try.prog H_impl_clone_int Try.f131 = some R_impl_clone_int := by kernel_rfl
theorem EN_impl_clone_int {args : List Value} {h : Heap} {k : Value → Heap → Prop} (hargs : args.length = 1) (hw : B_impl_clone_int.wp Try.prog (retQ [(1, none)] k) (env0 args 2) h) : CallE Try.prog fn_impl_clone_int args h k := enter Try.func131 rfl IR_impl_clone_int hargs hw

def H_impl_in : Hint := ⟨[(0, false), (1, false), (2, false), (6, false)], []⟩
def K106_1 : C := .seq (.pl <| .st (.ext 4 8) <|
    .st (.act none (.px (some 4) (.mv (.v 0)))) <|
    .st (.act none (.px (some 5) (.mv (.v 1)))) <|
    .st (.act none (.px (some 6) (.bin .geq (.v 4) (.v 5)))) <|
    .st (.act none (.px (some 7) (.mv (.v 6)))) <|
    .st (.act (some (.v 7, true)) (.px (some 8) (.mv (.v 0)))) <|
    .st (.act (some (.v 7, true)) (.px (some 9) (.mv (.v 2)))) <|
    .st (.act (some (.v 7, true)) (.px (some 10) (.bin .leq (.v 8) (.v 9)))) <|
    .st (.act none (.px (some 11) (.pick (.v 7) (.v 10) (.c (.bool false))))) <|
    .st (.act none (.px (some 3) (.mv (.v 11)))) .done) (.ret)
@[simp] def W106_1 := @C.wpe _ _ K106_1.eq_1
def B_impl_in : C := .seq (.pl <| .st (.ext 4 0) <|
    .st (.act none (.px (some 3) (.mv (.c (.bool false))))) .done) K106_1
@[simp] def WB_impl_in := @C.wpe _ _ B_impl_in.eq_1
def R_impl_in : FIR := ⟨B_impl_in, 4, [(3, none)]⟩
theorem IR_impl_in : cfun Try.prog H_impl_in Try.f106 = some R_impl_in := by kernel_rfl
theorem EN_impl_in {args : List Value} {h : Heap} {k : Value → Heap → Prop} (hargs : args.length = 3) (hw : B_impl_in.wp Try.prog (retQ [(3, none)] k) (env0 args 4) h) : CallE Try.prog fn_impl_in args h k := enter Try.func106 rfl IR_impl_in hargs hw

def H_impl_truth : Hint := ⟨[(0, false), (2, false)], []⟩
def K191_1 : C := .seq (.pl <| .st (.ext 2 0) <|
    .st (.act none (.px (some 1) (.mv (.c (.int .i64 0))))) .done) (.ret)
@[simp] def W191_1 := @C.wpe _ _ K191_1.eq_1
def K191_2 : C := .seq (.pl <| .st (.ext 2 0) <|
    .st (.act none (.px (some 1) (.mv (.c (.int .i64 1))))) .done) (.ret)
@[simp] def W191_2 := @C.wpe _ _ K191_2.eq_1
def K191_3 : C := .cond 2 (.v 2) K191_2 (.skip)
@[simp] def W191_3 := @C.wpe _ _ K191_3.eq_1
def K191_4 : C := .seq (.seq (.pl <| .st (.ext 2 1) <|
    .st (.act none (.px (some 2) (.mv (.v 0)))) .done) K191_3) K191_1
@[simp] def W191_4 := @C.wpe _ _ K191_4.eq_1
def B_impl_truth : C := .seq (.pl <| .st (.ext 2 0) <|
    .st (.act none (.px (some 1) (.mv (.c (.int .i64 0))))) .done) K191_4
@[simp] def WB_impl_truth := @C.wpe _ _ B_impl_truth.eq_1
def R_impl_truth : FIR := ⟨B_impl_truth, 2, [(1, none)]⟩
theorem IR_impl_truth : cfun Try.prog H_impl_truth Try.f191 = some R_impl_truth := by kernel_rfl
theorem EN_impl_truth {args : List Value} {h : Heap} {k : Value → Heap → Prop} (hargs : args.length = 1) (hw : B_impl_truth.wp Try.prog (retQ [(1, none)] k) (env0 args 2) h) : CallE Try.prog fn_impl_truth args h k := enter Try.func191 rfl IR_impl_truth hargs hw

def H_impl_valsOk : Hint := ⟨[(0, false), (2, false)], []⟩
def K105_1 : Pl := .st (.act (some (.v 5, true)) (.px (some 8) (.un .not (.v 7)))) <|
    .st (.act none (.px (some 9) (.pick (.v 5) (.v 8) (.c (.bool false))))) <|
    .st (.act none (.px (some 1) (.mv (.v 9)))) .done
@[simp] def W105_1 := @Pl.wpe _ _ K105_1.eq_1
def K105_2 : C := .seq (.pl <| .st (.ext 2 8) <|
    .st (.act none (.px (some 2) (.mv (.v 0)))) <|
    .st (.act none (.px (some 3) (.lenV (.v 2)))) <|
    .st (.act none (.px (some 4) (.bin .eql (.v 3) (.c (.int .i64 3))))) <|
    .st (.act none (.px (some 5) (.mv (.v 4)))) <|
    .st (.act (some (.v 5, true)) (.px (some 6) (.mv (.v 0)))) <|
    .st (.act (some (.v 5, true)) (.ex (some 7) (.call fn_slices_ContainsFunc_S_int_int [.v 6, .c (.func (.func 148) #[] #[])]))) K105_1) (.ret)
@[simp] def W105_2 := @C.wpe _ _ K105_2.eq_1
def B_impl_valsOk : C := .seq (.pl <| .st (.ext 2 0) <|
    .st (.act none (.px (some 1) (.mv (.c (.bool false))))) .done) K105_2
@[simp] def WB_impl_valsOk := @C.wpe _ _ B_impl_valsOk.eq_1
def R_impl_valsOk : FIR := ⟨B_impl_valsOk, 2, [(1, none)]⟩
theorem IR_impl_valsOk : cfun Try.prog H_impl_valsOk Try.f105 = some R_impl_valsOk := by kernel_rfl
theorem EN_impl_valsOk {args : List Value} {h : Heap} {k : Value → Heap → Prop} (hargs : args.length = 1) (hw : B_impl_valsOk.wp Try.prog (retQ [(1, none)] k) (env0 args 2) h) : CallE Try.prog fn_impl_valsOk args h k := enter Try.func105 rfl IR_impl_valsOk hargs hw

def H_impl_valsOk_1 : Hint := ⟨[(0, false), (2, false)], []⟩
def K148_1 : Pl := .st (.act none (.px (some 4) (.un .not (.v 3)))) <|
    .st (.act none (.px (some 1) (.mv (.v 4)))) .done
@[simp] def W148_1 := @Pl.wpe _ _ K148_1.eq_1
def K148_2 : C := .seq (.pl <| .st (.ext 2 3) <|
    .st (.act none (.px (some 2) (.mv (.v 0)))) <|
    .st (.act none (.ex (some 3) (.call fn_impl_in [.v 2, .c (.int .i64 0), .c (.int .i64 3)]))) K148_1) (.ret)
@[simp] def W148_2 := @C.wpe _ _ K148_2.eq_1
def B_impl_valsOk_1 : C := .seq (.pl <| .st (.ext 2 0) <|
    .st (.act none (.px (some 1) (.mv (.c (.bool false))))) .done) K148_2
@[simp] def WB_impl_valsOk_1 := @C.wpe _ _ B_impl_valsOk_1.eq_1
def R_impl_valsOk_1 : FIR := ⟨B_impl_valsOk_1, 2, [(1, none)]⟩
theorem IR_impl_valsOk_1 : cfun Try.prog H_impl_valsOk_1 Try.f148 = some R_impl_valsOk_1 := by kernel_rfl
theorem EN_impl_valsOk_1 {args : List Value} {h : Heap} {k : Value → Heap → Prop} (hargs : args.length = 1) (hw : B_impl_valsOk_1.wp Try.prog (retQ [(1, none)] k) (env0 args 2) h) : CallE Try.prog fn_impl_valsOk_1 args h k := enter Try.func148 rfl IR_impl_valsOk_1 hargs hw

def H_laws_FnExactApplyStep : Hint := ⟨[(0, false), (1, false), (2, false), (3, true), (4, true), (5, true), (6, false), (7, false), (8, true), (9, false), (10, true), (11, true), (12, true), (13, false), (14, false), (15, false), (16, false), (17, true), (18, false)], []⟩
def K7_1 : C := .seq (.pl <| .st (.ext 19 0) <|
    .st (.act none (.px (some 6) (.mv (.c (.bool true))))) .done) (.ret)
@[simp] def W7_1 := @C.wpe _ _ K7_1.eq_1
def K7_2 : C := .seq (.pl <| .st (.ext 19 0) <|
    .st (.act none (.px (some 6) (.mv (.c (.bool false))))) .done) (.ret)
@[simp] def W7_2 := @C.wpe _ _ K7_2.eq_1
def K7_3 : C := .cond 19 (.v 21) K7_2 (.skip)
@[simp] def W7_3 := @C.wpe _ _ K7_3.eq_1
def K7_4 : C := .seq (.seq (.pl <| .st (.ext 19 3) <|
    .st (.act none (.px (some 19) (.mv (.v 16)))) <|
    .st (.act none (.px (some 20) (.mv (.v 15)))) <|
    .st (.act none (.px (some 21) (.bin .neq (.v 19) (.v 20)))) .done) K7_3) K7_1
@[simp] def W7_4 := @C.wpe _ _ K7_4.eq_1
def K7_5 : C := .seq (.pl <| .st (.ext 19 0) <|
    .st (.act none (.px (some 6) (.mv (.c (.bool false))))) .done) (.ret)
@[simp] def W7_5 := @C.wpe _ _ K7_5.eq_1
def K7_6 : C := .cond 19 (.v 20) K7_5 (.skip)
@[simp] def W7_6 := @C.wpe _ _ K7_6.eq_1
def K7_7 : C := .seq (.seq (.pl <| .st (.ext 19 2) <|
    .st (.act none (.px (some 19) (.mv (.v 16)))) <|
    .st (.act none (.px (some 20) (.bin .lss (.v 19) (.c (.int .i64 0))))) .done) K7_6) K7_4
@[simp] def W7_7 := @C.wpe _ _ K7_7.eq_1
def K7_8 : Pl := .st (.act none (.px (some 16) (.mv (.v 21)))) .done
@[simp] def W7_8 := @Pl.wpe _ _ K7_8.eq_1
def K7_9 : C := .seq (.pl <| .st (.ext 19 3) <|
    .st (.act none (.pget (some 19) none 12 0 (some 2))) <|
    .st (.act none (.px (some 20) (.mv (.v 16)))) <|
    .st (.act none (.ex (some 21) (.call fn_laws_heldState [.v 19, .v 20]))) K7_8) K7_7
@[simp] def W7_9 := @C.wpe _ _ K7_9.eq_1
def K7_10 : C := .seq (.pl <| .st (.ext 19 0) <|
    .st (.act none (.px (some 16) (.mv (.c (.int .i64 1))))) .done) K7_9
@[simp] def W7_10 := @C.wpe _ _ K7_10.eq_1
def K7_11 : C := .seq (.pl <| .st (.ext 19 0) <|
    .st (.act none (.px (some 6) (.mv (.c (.bool false))))) .done) (.ret)
@[simp] def W7_11 := @C.wpe _ _ K7_11.eq_1
def K7_12 : C := .cond 19 (.v 27) K7_11 (.skip)
@[simp] def W7_12 := @C.wpe _ _ K7_12.eq_1
def K7_13 : Pl := .st (.act none (.px (some 22) (.un .not (.v 21)))) <|
    .st (.act none (.px (some 23) (.mv (.v 22)))) <|
    .st (.act (some (.v 23, false)) (.px (some 24) (.mv (.v 18)))) <|
    .st (.act (some (.v 23, false)) (.px (some 25) (.mv (.v 9)))) <|
    .st (.act (some (.v 23, false)) (.px (some 26) (.eqb true (.v 24) (.v 25)))) <|
    .st (.act none (.px (some 27) (.pick (.v 23) (.c (.bool true)) (.v 26)))) .done
@[simp] def W7_13 := @Pl.wpe _ _ K7_13.eq_1
def K7_14 : C := .seq (.seq (.pl <| .st (.ext 19 9) <|
    .st (.act none (.pget (some 19) none 17 0 (some 2))) <|
    .st (.act none (.pget (some 20) none 8 0 (some 2))) <|
    .st (.act none (.ex (some 21) (.call fn_laws_eqState [.v 19, .v 20]))) K7_13) K7_12) K7_10
@[simp] def W7_14 := @C.wpe _ _ K7_14.eq_1
def K7_15 : Pl := .st (.act none (.px (some 26) (.mv (.v 25)))) <|
    .st (.act none (.px (some 27) (.extract 0 (.v 26)))) <|
    .st (.act none (.px (some 28) (.extract 1 (.v 26)))) <|
    .st (.act none (.pset none 17 0 2 (.v 27))) <|
    .st (.act none (.px (some 18) (.mv (.v 28)))) .done
@[simp] def W7_15 := @Pl.wpe _ _ K7_15.eq_1
def K7_16 : Pl := .st (.act none (.ex (some 25) (.call fn_impl_ApplyStep [.v 20, .v 22, .v 24]))) K7_15
@[simp] def W7_16 := @Pl.wpe _ _ K7_16.eq_1
def K7_17 : Pl := .st (.act none (.ex (some 24) (.call fn_laws_toStep [.v 23]))) K7_16
@[simp] def W7_17 := @Pl.wpe _ _ K7_17.eq_1
def K7_18 : Pl := .st (.act none (.ex (some 22) (.call fn_laws_toState [.v 21]))) K7_17
@[simp] def W7_18 := @Pl.wpe _ _ K7_18.eq_1
def K7_19 : C := .seq (.pl <| .st (.ext 19 10) <|
    .st (.act none (.pget (some 19) none 3 0 (some 2))) <|
    .st (.act none (.pget (some 21) none 4 0 (some 2))) <|
    .st (.act none (.pget (some 23) none 5 0 (some 4))) <|
    .st (.act none (.pnew 17 (.c (.agg #[.slice none 0 0, .slice none 0 0])) [])) <|
    .st (.act none (.ex (some 20) (.call fn_laws_toSystem [.v 19]))) K7_18) K7_14
@[simp] def W7_19 := @C.wpe _ _ K7_19.eq_1
def K7_20 : C := .seq (.pl <| .st (.ext 19 0) <|
    .st (.act none (.px (some 6) (.mv (.c (.bool false))))) .done) (.ret)
@[simp] def W7_20 := @C.wpe _ _ K7_20.eq_1
def K7_21 : C := .cond 19 (.v 21) K7_20 (.skip)
@[simp] def W7_21 := @C.wpe _ _ K7_21.eq_1
def K7_22 : C := .seq (.seq (.pl <| .st (.ext 19 3) <|
    .st (.act none (.px (some 19) (.mv (.v 16)))) <|
    .st (.act none (.px (some 20) (.mv (.v 15)))) <|
    .st (.act none (.px (some 21) (.bin .neq (.v 19) (.v 20)))) .done) K7_21) K7_19
@[simp] def W7_22 := @C.wpe _ _ K7_22.eq_1
def K7_23 : C := .seq (.pl <| .st (.ext 19 0) <|
    .st (.act none (.px (some 6) (.mv (.c (.bool false))))) .done) (.ret)
@[simp] def W7_23 := @C.wpe _ _ K7_23.eq_1
def K7_24 : C := .cond 19 (.v 20) K7_23 (.skip)
@[simp] def W7_24 := @C.wpe _ _ K7_24.eq_1
def K7_25 : C := .seq (.seq (.pl <| .st (.ext 19 2) <|
    .st (.act none (.px (some 19) (.mv (.v 16)))) <|
    .st (.act none (.px (some 20) (.bin .lss (.v 19) (.c (.int .i64 0))))) .done) K7_24) K7_22
@[simp] def W7_25 := @C.wpe _ _ K7_25.eq_1
def K7_26 : Pl := .st (.act none (.px (some 16) (.mv (.v 21)))) .done
@[simp] def W7_26 := @Pl.wpe _ _ K7_26.eq_1
def K7_27 : C := .seq (.pl <| .st (.ext 19 3) <|
    .st (.act none (.pget (some 19) none 12 0 (some 2))) <|
    .st (.act none (.px (some 20) (.mv (.v 16)))) <|
    .st (.act none (.ex (some 21) (.call fn_laws_heldState [.v 19, .v 20]))) K7_26) K7_25
@[simp] def W7_27 := @C.wpe _ _ K7_27.eq_1
def K7_28 : C := .seq (.pl <| .st (.ext 19 0) <|
    .st (.act none (.px (some 16) (.mv (.c (.int .i64 1))))) .done) K7_27
@[simp] def W7_28 := @C.wpe _ _ K7_28.eq_1
def K7_29 : Pl := .st (.act none (.px (some 15) (.mv (.v 21)))) .done
@[simp] def W7_29 := @Pl.wpe _ _ K7_29.eq_1
def K7_30 : C := .seq (.pl <| .st (.ext 19 3) <|
    .st (.act none (.pget (some 19) none 12 0 (some 2))) <|
    .st (.act none (.px (some 20) (.mv (.v 15)))) <|
    .st (.act none (.ex (some 21) (.call fn_laws_markState [.v 19, .v 20]))) K7_29) K7_28
@[simp] def W7_30 := @C.wpe _ _ K7_30.eq_1
def K7_31 : C := .seq (.pl <| .st (.ext 19 0) <|
    .st (.act none (.px (some 15) (.mv (.c (.int .i64 1))))) .done) K7_30
@[simp] def W7_31 := @C.wpe _ _ K7_31.eq_1
def K7_32 : C := .seq (.pl <| .st (.ext 19 0) <|
    .st (.act none (.px (some 6) (.mv (.c (.bool false))))) .done) (.ret)
@[simp] def W7_32 := @C.wpe _ _ K7_32.eq_1
def K7_33 : C := .cond 19 (.v 31) K7_32 (.skip)
@[simp] def W7_33 := @C.wpe _ _ K7_33.eq_1
def K7_34 : Pl := .st (.act (some (.v 21, false)) (.px (some 25) (.un .not (.v 24)))) <|
    .st (.act none (.px (some 26) (.pick (.v 21) (.c (.bool true)) (.v 25)))) <|
    .st (.act none (.px (some 27) (.mv (.v 26)))) <|
    .st (.act (some (.v 27, false)) (.px (some 28) (.mv (.v 13)))) <|
    .st (.act (some (.v 27, false)) (.px (some 29) (.mv (.v 9)))) <|
    .st (.act (some (.v 27, false)) (.px (some 30) (.eqb true (.v 28) (.v 29)))) <|
    .st (.act none (.px (some 31) (.pick (.v 27) (.c (.bool true)) (.v 30)))) .done
@[simp] def W7_34 := @Pl.wpe _ _ K7_34.eq_1
def K7_35 : C := .seq (.seq (.pl <| .st (.ext 19 13) <|
    .st (.act none (.px (some 19) (.mv (.v 14)))) <|
    .st (.act none (.px (some 20) (.bin .lss (.v 19) (.c (.int .i64 0))))) <|
    .st (.act none (.px (some 21) (.mv (.v 20)))) <|
    .st (.act (some (.v 21, false)) (.pget (some 22) none 12 0 (some 2))) <|
    .st (.act (some (.v 21, false)) (.pget (some 23) none 8 0 (some 2))) <|
    .st (.act (some (.v 21, false)) (.ex (some 24) (.call fn_laws_eqState [.v 22, .v 23]))) K7_34) K7_33) K7_31
@[simp] def W7_35 := @C.wpe _ _ K7_35.eq_1
def K7_36 : Pl := .st (.act none (.px (some 14) (.mv (.v 21)))) .done
@[simp] def W7_36 := @Pl.wpe _ _ K7_36.eq_1
def K7_37 : C := .seq (.pl <| .st (.ext 19 3) <|
    .st (.act none (.pget (some 19) none 11 0 (some 2))) <|
    .st (.act none (.px (some 20) (.mv (.v 14)))) <|
    .st (.act none (.ex (some 21) (.call fn_laws_markState [.v 19, .v 20]))) K7_36) K7_35
@[simp] def W7_37 := @C.wpe _ _ K7_37.eq_1
def K7_38 : Pl := .st (.act none (.px (some 14) (.mv (.v 21)))) .done
@[simp] def W7_38 := @Pl.wpe _ _ K7_38.eq_1
def K7_39 : C := .seq (.pl <| .st (.ext 19 3) <|
    .st (.act none (.pget (some 19) none 10 0 (some 2))) <|
    .st (.act none (.px (some 20) (.mv (.v 14)))) <|
    .st (.act none (.ex (some 21) (.call fn_laws_markSystem [.v 19, .v 20]))) K7_38) K7_37
@[simp] def W7_39 := @C.wpe _ _ K7_39.eq_1
def K7_40 : C := .seq (.pl <| .st (.ext 19 0) <|
    .st (.act none (.px (some 14) (.mv (.c (.int .i64 1))))) .done) K7_39
@[simp] def W7_40 := @C.wpe _ _ K7_40.eq_1
def K7_41 : C := .seq (.pl <| .st (.ext 19 0) <|
    .st (.act none (.px (some 6) (.mv (.c (.bool false))))) .done) (.ret)
@[simp] def W7_41 := @C.wpe _ _ K7_41.eq_1
def K7_42 : C := .cond 19 (.v 23) K7_41 (.skip)
@[simp] def W7_42 := @C.wpe _ _ K7_42.eq_1
def K7_43 : Pl := .st (.act none (.px (some 23) (.un .not (.v 22)))) .done
@[simp] def W7_43 := @Pl.wpe _ _ K7_43.eq_1
def K7_44 : Pl := .st (.act none (.ex (some 22) (.call fn_laws_eqState [.v 19, .v 21]))) K7_43
@[simp] def W7_44 := @Pl.wpe _ _ K7_44.eq_1
def K7_45 : C := .seq (.seq (.pl <| .st (.ext 19 5) <|
    .st (.act none (.pget (some 19) none 11 0 (some 2))) <|
    .st (.act none (.pget (some 20) none 4 0 (some 2))) <|
    .st (.act none (.ex (some 21) (.call fn_laws_toState [.v 20]))) K7_44) K7_42) K7_40
@[simp] def W7_45 := @C.wpe _ _ K7_45.eq_1
def K7_46 : C := .seq (.pl <| .st (.ext 19 0) <|
    .st (.act none (.px (some 6) (.mv (.c (.bool false))))) .done) (.ret)
@[simp] def W7_46 := @C.wpe _ _ K7_46.eq_1
def K7_47 : C := .cond 19 (.v 23) K7_46 (.skip)
@[simp] def W7_47 := @C.wpe _ _ K7_47.eq_1
def K7_48 : Pl := .st (.act none (.px (some 23) (.un .not (.v 22)))) .done
@[simp] def W7_48 := @Pl.wpe _ _ K7_48.eq_1
def K7_49 : Pl := .st (.act none (.ex (some 22) (.call fn_laws_eqSystem [.v 19, .v 21]))) K7_48
@[simp] def W7_49 := @Pl.wpe _ _ K7_49.eq_1
def K7_50 : C := .seq (.seq (.pl <| .st (.ext 19 5) <|
    .st (.act none (.pget (some 19) none 10 0 (some 2))) <|
    .st (.act none (.pget (some 20) none 3 0 (some 2))) <|
    .st (.act none (.ex (some 21) (.call fn_laws_toSystem [.v 20]))) K7_49) K7_47) K7_45
@[simp] def W7_50 := @C.wpe _ _ K7_50.eq_1
def K7_51 : C := .seq (.pl <| .st (.ext 19 0) <|
    .st (.act none (.px (some 6) (.mv (.c (.bool false))))) .done) (.ret)
@[simp] def W7_51 := @C.wpe _ _ K7_51.eq_1
def K7_52 : C := .cond 19 (.v 27) K7_51 (.skip)
@[simp] def W7_52 := @C.wpe _ _ K7_52.eq_1
def K7_53 : Pl := .st (.act none (.px (some 22) (.un .not (.v 21)))) <|
    .st (.act none (.px (some 23) (.mv (.v 22)))) <|
    .st (.act (some (.v 23, false)) (.px (some 24) (.mv (.v 13)))) <|
    .st (.act (some (.v 23, false)) (.px (some 25) (.mv (.v 9)))) <|
    .st (.act (some (.v 23, false)) (.px (some 26) (.eqb true (.v 24) (.v 25)))) <|
    .st (.act none (.px (some 27) (.pick (.v 23) (.c (.bool true)) (.v 26)))) .done
@[simp] def W7_53 := @Pl.wpe _ _ K7_53.eq_1
def K7_54 : C := .seq (.seq (.pl <| .st (.ext 19 9) <|
    .st (.act none (.pget (some 19) none 12 0 (some 2))) <|
    .st (.act none (.pget (some 20) none 8 0 (some 2))) <|
    .st (.act none (.ex (some 21) (.call fn_laws_eqState [.v 19, .v 20]))) K7_53) K7_52) K7_50
@[simp] def W7_54 := @C.wpe _ _ K7_54.eq_1
def K7_55 : Pl := .st (.act none (.px (some 24) (.mv (.v 23)))) <|
    .st (.act none (.px (some 25) (.extract 0 (.v 24)))) <|
    .st (.act none (.px (some 26) (.extract 1 (.v 24)))) <|
    .st (.act none (.pset none 12 0 2 (.v 25))) <|
    .st (.act none (.px (some 13) (.mv (.v 26)))) .done
@[simp] def W7_55 := @Pl.wpe _ _ K7_55.eq_1
def K7_56 : Pl := .st (.act none (.ex (some 23) (.call fn_impl_ApplyStep [.v 19, .v 20, .v 22]))) K7_55
@[simp] def W7_56 := @Pl.wpe _ _ K7_56.eq_1
def K7_57 : C := .seq (.pl <| .st (.ext 19 8) <|
    .st (.act none (.pget (some 19) none 10 0 (some 2))) <|
    .st (.act none (.pget (some 20) none 11 0 (some 2))) <|
    .st (.act none (.pget (some 21) none 5 0 (some 4))) <|
    .st (.act none (.pnew 12 (.c (.agg #[.slice none 0 0, .slice none 0 0])) [])) <|
    .st (.act none (.ex (some 22) (.call fn_laws_toStep [.v 21]))) K7_56) K7_54
@[simp] def W7_57 := @C.wpe _ _ K7_57.eq_1
def K7_58 : Pl := .st (.act none (.pnew 11 (.c (.agg #[.slice none 0 0, .slice none 0 0])) [])) <|
    .st (.act none (.pset none 11 0 2 (.v 20))) .done
@[simp] def W7_58 := @Pl.wpe _ _ K7_58.eq_1
def K7_59 : C := .seq (.pl <| .st (.ext 19 2) <|
    .st (.act none (.pget (some 19) none 4 0 (some 2))) <|
    .st (.act none (.ex (some 20) (.call fn_laws_toState [.v 19]))) K7_58) K7_57
@[simp] def W7_59 := @C.wpe _ _ K7_59.eq_1
def K7_60 : Pl := .st (.act none (.pnew 10 (.c (.agg #[.slice none 0 0, .slice none 0 0])) [])) <|
    .st (.act none (.pset none 10 0 2 (.v 20))) .done
@[simp] def W7_60 := @Pl.wpe _ _ K7_60.eq_1
def K7_61 : C := .seq (.pl <| .st (.ext 19 2) <|
    .st (.act none (.pget (some 19) none 3 0 (some 2))) <|
    .st (.act none (.ex (some 20) (.call fn_laws_toSystem [.v 19]))) K7_60) K7_59
@[simp] def W7_61 := @C.wpe _ _ K7_61.eq_1
def K7_62 : Pl := .st (.act none (.px (some 26) (.mv (.v 25)))) <|
    .st (.act none (.px (some 27) (.extract 0 (.v 26)))) <|
    .st (.act none (.px (some 28) (.extract 1 (.v 26)))) <|
    .st (.act none (.pset none 8 0 2 (.v 27))) <|
    .st (.act none (.px (some 9) (.mv (.v 28)))) .done
@[simp] def W7_62 := @Pl.wpe _ _ K7_62.eq_1
def K7_63 : Pl := .st (.act none (.ex (some 25) (.call fn_spec_ApplyStep [.v 20, .v 22, .v 24]))) K7_62
@[simp] def W7_63 := @Pl.wpe _ _ K7_63.eq_1
def K7_64 : Pl := .st (.act none (.ex (some 24) (.call fn_laws_toStep [.v 23]))) K7_63
@[simp] def W7_64 := @Pl.wpe _ _ K7_64.eq_1
def K7_65 : Pl := .st (.act none (.ex (some 22) (.call fn_laws_toState [.v 21]))) K7_64
@[simp] def W7_65 := @Pl.wpe _ _ K7_65.eq_1
def K7_66 : C := .seq (.pl <| .st (.ext 19 10) <|
    .st (.act none (.pget (some 19) none 3 0 (some 2))) <|
    .st (.act none (.pget (some 21) none 4 0 (some 2))) <|
    .st (.act none (.pget (some 23) none 5 0 (some 4))) <|
    .st (.act none (.pnew 8 (.c (.agg #[.slice none 0 0, .slice none 0 0])) [])) <|
    .st (.act none (.ex (some 20) (.call fn_laws_toSystem [.v 19]))) K7_65) K7_61
@[simp] def W7_66 := @C.wpe _ _ K7_66.eq_1
def K7_67 : C := .seq (.pl <| .st (.ext 19 0) <|
    .st (.act none (.px (some 6) (.mv (.c (.bool true))))) .done) (.ret)
@[simp] def W7_67 := @C.wpe _ _ K7_67.eq_1
def K7_68 : C := .cond 19 (.v 20) K7_67 (.skip)
@[simp] def W7_68 := @C.wpe _ _ K7_68.eq_1
def K7_69 : C := .seq (.seq (.pl <| .st (.ext 19 2) <|
    .st (.act none (.px (some 19) (.mv (.v 7)))) <|
    .st (.act none (.px (some 20) (.bin .lss (.v 19) (.c (.int .i64 0))))) .done) K7_68) K7_66
@[simp] def W7_69 := @C.wpe _ _ K7_69.eq_1
def K7_70 : Pl := .st (.act none (.px (some 7) (.mv (.v 21)))) .done
@[simp] def W7_70 := @Pl.wpe _ _ K7_70.eq_1
def K7_71 : C := .seq (.pl <| .st (.ext 19 3) <|
    .st (.act none (.pget (some 19) none 4 0 (some 2))) <|
    .st (.act none (.px (some 20) (.mv (.v 7)))) <|
    .st (.act none (.ex (some 21) (.call fn_laws_szState [.v 19, .v 20]))) K7_70) K7_69
@[simp] def W7_71 := @C.wpe _ _ K7_71.eq_1
def K7_72 : C := .seq (.pl <| .st (.ext 19 0) <|
    .st (.act none (.px (some 6) (.mv (.c (.bool true))))) .done) (.ret)
@[simp] def W7_72 := @C.wpe _ _ K7_72.eq_1
def K7_73 : C := .cond 19 (.v 20) K7_72 (.skip)
@[simp] def W7_73 := @C.wpe _ _ K7_73.eq_1
def K7_74 : C := .seq (.seq (.pl <| .st (.ext 19 2) <|
    .st (.act none (.px (some 19) (.mv (.v 7)))) <|
    .st (.act none (.px (some 20) (.bin .lss (.v 19) (.c (.int .i64 0))))) .done) K7_73) K7_71
@[simp] def W7_74 := @C.wpe _ _ K7_74.eq_1
def K7_75 : Pl := .st (.act none (.px (some 7) (.mv (.v 21)))) .done
@[simp] def W7_75 := @Pl.wpe _ _ K7_75.eq_1
def K7_76 : C := .seq (.pl <| .st (.ext 19 3) <|
    .st (.act none (.pget (some 19) none 3 0 (some 2))) <|
    .st (.act none (.px (some 20) (.mv (.v 7)))) <|
    .st (.act none (.ex (some 21) (.call fn_laws_szSystem [.v 19, .v 20]))) K7_75) K7_74
@[simp] def W7_76 := @C.wpe _ _ K7_76.eq_1
def K7_77 : C := .seq (.pl <| .st (.ext 19 0) <|
    .st (.act none (.px (some 7) (.mv (.c (.int .i64 1048576))))) .done) K7_76
@[simp] def W7_77 := @C.wpe _ _ K7_77.eq_1
def B_laws_FnExactApplyStep : C := .seq (.pl <| .st (.ext 19 0) <|
    .st (.act none (.pnew 3 (.v 0) [])) <|
    .st (.act none (.pnew 4 (.v 1) [])) <|
    .st (.act none (.pnew 5 (.v 2) [])) <|
    .st (.act none (.px (some 6) (.mv (.c (.bool false))))) .done) K7_77
@[simp] def WB_laws_FnExactApplyStep := @C.wpe _ _ B_laws_FnExactApplyStep.eq_1
def R_laws_FnExactApplyStep : FIR := ⟨B_laws_FnExactApplyStep, 19, [(6, none)]⟩
theorem IR_laws_FnExactApplyStep : cfun Try.prog H_laws_FnExactApplyStep Try.f7 = some R_laws_FnExactApplyStep := by kernel_rfl
theorem EN_laws_FnExactApplyStep {args : List Value} {h : Heap} {k : Value → Heap → Prop} (hargs : args.length = 3) (hw : B_laws_FnExactApplyStep.wp Try.prog (retQ [(6, none)] k) (env0 args 19) h) : CallE Try.prog fn_laws_FnExactApplyStep args h k := enter Try.func7 rfl IR_laws_FnExactApplyStep hargs hw

def H_laws_eqEdge : Hint := ⟨[(0, false), (1, false), (2, true), (3, true), (4, false)], []⟩
def K188_1 : C := .seq (.pl <| .st (.ext 5 0) <|
    .st (.act none (.px (some 4) (.mv (.c (.bool true))))) .done) (.ret)
@[simp] def W188_1 := @C.wpe _ _ K188_1.eq_1
def K188_2 : C := .seq (.pl <| .st (.ext 5 0) <|
    .st (.act none (.px (some 4) (.mv (.c (.bool false))))) .done) (.ret)
@[simp] def W188_2 := @C.wpe _ _ K188_2.eq_1
def K188_3 : C := .cond 5 (.v 9) K188_2 (.skip)
@[simp] def W188_3 := @C.wpe _ _ K188_3.eq_1
def K188_4 : C := .seq (.seq (.pl <| .st (.ext 5 5) <|
    .st (.act none (.als 5 none 2)) <|
    .st (.act none (.pget (some 6) (some 5) 2 9 none)) <|
    .st (.act none (.als 7 none 3)) <|
    .st (.act none (.pget (some 8) (some 7) 3 9 none)) <|
    .st (.act none (.px (some 9) (.bin .neq (.v 6) (.v 8)))) .done) K188_3) K188_1
@[simp] def W188_4 := @C.wpe _ _ K188_4.eq_1
def K188_5 : C := .seq (.pl <| .st (.ext 5 0) <|
    .st (.act none (.px (some 4) (.mv (.c (.bool false))))) .done) (.ret)
@[simp] def W188_5 := @C.wpe _ _ K188_5.eq_1
def K188_6 : C := .cond 5 (.v 10) K188_5 (.skip)
@[simp] def W188_6 := @C.wpe _ _ K188_6.eq_1
def K188_7 : Pl := .st (.act none (.px (some 10) (.un .not (.v 9)))) .done
@[simp] def W188_7 := @Pl.wpe _ _ K188_7.eq_1
def K188_8 : C := .seq (.seq (.pl <| .st (.ext 5 6) <|
    .st (.act none (.als 5 none 2)) <|
    .st (.act none (.pget (some 6) (some 5) 2 6 (some 3))) <|
    .st (.act none (.als 7 none 3)) <|
    .st (.act none (.pget (some 8) (some 7) 3 6 (some 3))) <|
    .st (.act none (.ex (some 9) (.call fn_laws_eqExpr [.v 6, .v 8]))) K188_7) K188_6) K188_4
@[simp] def W188_8 := @C.wpe _ _ K188_8.eq_1
def K188_9 : C := .seq (.pl <| .st (.ext 5 0) <|
    .st (.act none (.px (some 4) (.mv (.c (.bool false))))) .done) (.ret)
@[simp] def W188_9 := @C.wpe _ _ K188_9.eq_1
def K188_10 : C := .cond 5 (.v 9) K188_9 (.skip)
@[simp] def W188_10 := @C.wpe _ _ K188_10.eq_1
def K188_11 : C := .seq (.seq (.pl <| .st (.ext 5 5) <|
    .st (.act none (.als 5 none 2)) <|
    .st (.act none (.pget (some 6) (some 5) 2 5 none)) <|
    .st (.act none (.als 7 none 3)) <|
    .st (.act none (.pget (some 8) (some 7) 3 5 none)) <|
    .st (.act none (.px (some 9) (.bin .neq (.v 6) (.v 8)))) .done) K188_10) K188_8
@[simp] def W188_11 := @C.wpe _ _ K188_11.eq_1
def K188_12 : C := .seq (.pl <| .st (.ext 5 0) <|
    .st (.act none (.px (some 4) (.mv (.c (.bool false))))) .done) (.ret)
@[simp] def W188_12 := @C.wpe _ _ K188_12.eq_1
def K188_13 : C := .cond 5 (.v 10) K188_12 (.skip)
@[simp] def W188_13 := @C.wpe _ _ K188_13.eq_1
def K188_14 : Pl := .st (.act none (.px (some 10) (.un .not (.v 9)))) .done
@[simp] def W188_14 := @Pl.wpe _ _ K188_14.eq_1
def K188_15 : C := .seq (.seq (.pl <| .st (.ext 5 6) <|
    .st (.act none (.als 5 none 2)) <|
    .st (.act none (.pget (some 6) (some 5) 2 2 (some 3))) <|
    .st (.act none (.als 7 none 3)) <|
    .st (.act none (.pget (some 8) (some 7) 3 2 (some 3))) <|
    .st (.act none (.ex (some 9) (.call fn_laws_eqExpr [.v 6, .v 8]))) K188_14) K188_13) K188_11
@[simp] def W188_15 := @C.wpe _ _ K188_15.eq_1
def K188_16 : C := .seq (.pl <| .st (.ext 5 0) <|
    .st (.act none (.px (some 4) (.mv (.c (.bool false))))) .done) (.ret)
@[simp] def W188_16 := @C.wpe _ _ K188_16.eq_1
def K188_17 : C := .cond 5 (.v 9) K188_16 (.skip)
@[simp] def W188_17 := @C.wpe _ _ K188_17.eq_1
def K188_18 : C := .seq (.seq (.pl <| .st (.ext 5 5) <|
    .st (.act none (.als 5 none 2)) <|
    .st (.act none (.pget (some 6) (some 5) 2 1 none)) <|
    .st (.act none (.als 7 none 3)) <|
    .st (.act none (.pget (some 8) (some 7) 3 1 none)) <|
    .st (.act none (.px (some 9) (.bin .neq (.v 6) (.v 8)))) .done) K188_17) K188_15
@[simp] def W188_18 := @C.wpe _ _ K188_18.eq_1
def K188_19 : C := .seq (.pl <| .st (.ext 5 0) <|
    .st (.act none (.px (some 4) (.mv (.c (.bool false))))) .done) (.ret)
@[simp] def W188_19 := @C.wpe _ _ K188_19.eq_1
def K188_20 : C := .cond 5 (.v 9) K188_19 (.skip)
@[simp] def W188_20 := @C.wpe _ _ K188_20.eq_1
def K188_21 : C := .seq (.seq (.pl <| .st (.ext 5 5) <|
    .st (.act none (.als 5 none 2)) <|
    .st (.act none (.pget (some 6) (some 5) 2 0 none)) <|
    .st (.act none (.als 7 none 3)) <|
    .st (.act none (.pget (some 8) (some 7) 3 0 none)) <|
    .st (.act none (.px (some 9) (.bin .neq (.v 6) (.v 8)))) .done) K188_20) K188_18
@[simp] def W188_21 := @C.wpe _ _ K188_21.eq_1
def B_laws_eqEdge : C := .seq (.pl <| .st (.ext 5 0) <|
    .st (.act none (.pnew 2 (.v 0) [])) <|
    .st (.act none (.pnew 3 (.v 1) [])) <|
    .st (.act none (.px (some 4) (.mv (.c (.bool false))))) .done) K188_21
@[simp] def WB_laws_eqEdge := @C.wpe _ _ B_laws_eqEdge.eq_1
def R_laws_eqEdge : FIR := ⟨B_laws_eqEdge, 5, [(4, none)]⟩
theorem IR_laws_eqEdge : cfun Try.prog H_laws_eqEdge Try.f188 = some R_laws_eqEdge := by kernel_rfl
theorem EN_laws_eqEdge {args : List Value} {h : Heap} {k : Value → Heap → Prop} (hargs : args.length = 2) (hw : B_laws_eqEdge.wp Try.prog (retQ [(4, none)] k) (env0 args 5) h) : CallE Try.prog fn_laws_eqEdge args h k := enter Try.func188 rfl IR_laws_eqEdge hargs hw


end Go.Proofs.Ythgimpheeemooaa
