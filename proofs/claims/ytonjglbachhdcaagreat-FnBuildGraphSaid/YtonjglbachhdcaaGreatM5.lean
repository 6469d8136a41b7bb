/-
  Texts of this proof, one behind the other.
-/
import Derived.Test.YtonjglbachhdcaaGreatM4
/-
  Bodies of functions in the small language, as a program printed them, and that each is what the translation gives.
-/
namespace Go.Proofs.YtonjglbachhdcaaGreat
open Go
set_option linter.all false
set_option linter.defProp false
set_option maxRecDepth 1000000

def H_impl_ApplyStep : Hint := ⟨[(0, false), (1, false), (2, false), (3, true), (4, true), (5, true), (6, true), (7, false)], []⟩
def K17_1 : Pl := .st (.act none (.pset none 6 0 2 (.v 11))) <|
    .st (.act none (.px (some 7) (.mv (.c (.bool true))))) .done
@[simp] def W17_1 := @Pl.wpe _ _ K17_1.eq_1
def K17_2 : C := .seq (.pl <| .st (.ext 8 4) <|
    .st (.act none (.pget (some 8) none 3 0 (some 2))) <|
    .st (.act none (.pget (some 9) none 4 0 (some 2))) <|
    .st (.act none (.pget (some 10) none 5 0 (some 4))) <|
    .st (.act none (.ex (some 11) (.call fn_impl_System_after [.v 8, .v 9, .v 10]))) K17_1) (.ret)
@[simp] def W17_2 := @C.wpe _ _ K17_2.eq_1
def K17_3 : C := .seq (.pl <| .st (.ext 8 1) <|
    .st (.act none (.px (some 8) (.build [.slice none 0 0, .slice none 0 0] []))) <|
    .st (.act none (.pset none 6 0 2 (.v 8))) <|
    .st (.act none (.px (some 7) (.mv (.c (.bool false))))) .done) (.ret)
@[simp] def W17_3 := @C.wpe _ _ K17_3.eq_1
def K17_4 : C := .cond 8 (.v 13) K17_3 (.skip)
@[simp] def W17_4 := @C.wpe _ _ K17_4.eq_1
def K17_5 : Pl := .st (.act none (.px (some 13) (.un .not (.v 12)))) .done
@[simp] def W17_5 := @Pl.wpe _ _ K17_5.eq_1
def K17_6 : Pl := .st (.act none (.ex (some 12) (.call fn_slices_Contains_S_impl_Step_impl_Step [.v 10, .v 11]))) K17_5
@[simp] def W17_6 := @Pl.wpe _ _ K17_6.eq_1
def K17_7 : C := .seq (.seq (.pl <| .st (.ext 8 6) <|
    .st (.act none (.pget (some 8) none 3 0 (some 2))) <|
    .st (.act none (.pget (some 9) none 4 0 (some 2))) <|
    .st (.act none (.pget (some 11) none 5 0 (some 4))) <|
    .st (.act none (.ex (some 10) (.call fn_impl_EnabledSteps [.v 8, .v 9]))) K17_6) K17_4) K17_2
@[simp] def W17_7 := @C.wpe _ _ K17_7.eq_1
def B_impl_ApplyStep : C := .seq (.pl <| .st (.ext 8 0) <|
    .st (.act none (.pnew 3 (.v 0) [])) <|
    .st (.act none (.pnew 4 (.v 1) [])) <|
    .st (.act none (.pnew 5 (.v 2) [])) <|
    .st (.act none (.pnew 6 (.c (.agg #[.slice none 0 0, .slice none 0 0])) [])) <|
    .st (.act none (.px (some 7) (.mv (.c (.bool false))))) .done) K17_7
@[simp] def WB_impl_ApplyStep := @C.wpe _ _ B_impl_ApplyStep.eq_1
def R_impl_ApplyStep : FIR := ⟨B_impl_ApplyStep, 8, [(6, some (some 2)), (7, none)]⟩
theorem IR_impl_ApplyStep : cfun Tryz.prog H_impl_ApplyStep Tryz.f17 = some R_impl_ApplyStep := by kernel_rfl
theorem EN_impl_ApplyStep {args : List Value} {h : Heap} {k : Value → Heap → Prop} (hargs : args.length = 3) (hw : B_impl_ApplyStep.wp Tryz.prog (retQ [(6, some (some 2)), (7, none)] k) (env0 args 8) h) : CallE Tryz.prog fn_impl_ApplyStep args h k := enter Tryz.func17 rfl IR_impl_ApplyStep hargs hw

def H_impl_BuildGraph : Hint := ⟨[(0, false), (1, true), (2, true), (3, false)], []⟩
def K9_1 : Pl := .st (.act none (.px (some 6) (.extract 0 (.v 5)))) <|
    .st (.act none (.px (some 7) (.extract 1 (.v 5)))) <|
    .st (.act none (.pset none 2 0 2 (.v 6))) <|
    .st (.act none (.px (some 3) (.mv (.v 7)))) .done
@[simp] def W9_1 := @Pl.wpe _ _ K9_1.eq_1
def K9_2 : C := .seq (.pl <| .st (.ext 4 4) <|
    .st (.act none (.pget (some 4) none 1 0 (some 2))) <|
    .st (.act none (.ex (some 5) (.call fn_impl_System_build [.v 4]))) K9_1) (.ret)
@[simp] def W9_2 := @C.wpe _ _ K9_2.eq_1
def K9_3 : C := .seq (.pl <| .st (.ext 4 1) <|
    .st (.act none (.px (some 4) (.build [.slice none 0 0, .slice none 0 0] []))) <|
    .st (.act none (.pset none 2 0 2 (.v 4))) <|
    .st (.act none (.px (some 3) (.mv (.c (.bool false))))) .done) (.ret)
@[simp] def W9_3 := @C.wpe _ _ K9_3.eq_1
def K9_4 : C := .cond 4 (.v 6) K9_3 (.skip)
@[simp] def W9_4 := @C.wpe _ _ K9_4.eq_1
def K9_5 : Pl := .st (.act none (.px (some 6) (.un .not (.v 5)))) .done
@[simp] def W9_5 := @Pl.wpe _ _ K9_5.eq_1
def K9_6 : C := .seq (.seq (.pl <| .st (.ext 4 3) <|
    .st (.act none (.pget (some 4) none 1 0 (some 2))) <|
    .st (.act none (.ex (some 5) (.call fn_impl_SystemValid [.v 4]))) K9_5) K9_4) K9_2
@[simp] def W9_6 := @C.wpe _ _ K9_6.eq_1
def B_impl_BuildGraph : C := .seq (.pl <| .st (.ext 4 0) <|
    .st (.act none (.pnew 1 (.v 0) [])) <|
    .st (.act none (.pnew 2 (.c (.agg #[.slice none 0 0, .slice none 0 0])) [])) <|
    .st (.act none (.px (some 3) (.mv (.c (.bool false))))) .done) K9_6
@[simp] def WB_impl_BuildGraph := @C.wpe _ _ B_impl_BuildGraph.eq_1
def R_impl_BuildGraph : FIR := ⟨B_impl_BuildGraph, 4, [(2, some (some 2)), (3, none)]⟩
theorem IR_impl_BuildGraph : cfun Tryz.prog H_impl_BuildGraph Tryz.f9 = some R_impl_BuildGraph := by kernel_rfl
theorem EN_impl_BuildGraph {args : List Value} {h : Heap} {k : Value → Heap → Prop} (hargs : args.length = 1) (hw : B_impl_BuildGraph.wp Tryz.prog (retQ [(2, some (some 2)), (3, none)] k) (env0 args 4) h) : CallE Tryz.prog fn_impl_BuildGraph args h k := enter Tryz.func9 rfl IR_impl_BuildGraph hargs hw

def H_impl_EdgeValid : Hint := ⟨[(0, false), (1, false), (2, true), (4, false)], []⟩
def K80_1 : Pl := .st (.act none (.px (some 55) (.pick (.v 51) (.v 54) (.c (.bool false))))) <|
    .st (.act none (.px (some 3) (.mv (.v 55)))) .done
@[simp] def W80_1 := @Pl.wpe _ _ K80_1.eq_1
def K80_2 : Pl := .st (.act (some (.v 39, false)) (.px (some 48) (.pick (.v 43) (.v 47) (.c (.bool false))))) <|
    .st (.act (some (.v 30, true)) (.px (some 49) (.pick (.v 39) (.c (.bool true)) (.v 48)))) <|
    .st (.act none (.px (some 50) (.pick (.v 30) (.v 49) (.c (.bool false))))) <|
    .st (.act none (.px (some 51) (.mv (.v 50)))) <|
    .st (.act (some (.v 51, true)) (.als 52 none 2)) <|
    .st (.act (some (.v 51, true)) (.pget (some 53) (some 52) 2 9 none)) <|
    .st (.act (some (.v 51, true)) (.ex (some 54) (.call fn_impl_in [.v 53, .c (.int .i64 (-2)), .c (.int .i64 2)]))) K80_1
@[simp] def W80_2 := @Pl.wpe _ _ K80_2.eq_1
def K80_3 : Pl := .st (.act (some (.v 30, true)) (.px (some 38) (.pick (.v 34) (.v 37) (.c (.bool false))))) <|
    .st (.act (some (.v 30, true)) (.px (some 39) (.mv (.v 38)))) <|
    .st (.act (some (.v 39, false)) (.als 40 none 2)) <|
    .st (.act (some (.v 39, false)) (.pget (some 41) (some 40) 2 5 none)) <|
    .st (.act (some (.v 39, false)) (.px (some 42) (.bin .lss (.v 41) (.c (.int .i64 0))))) <|
    .st (.act (some (.v 39, false)) (.px (some 43) (.mv (.v 42)))) <|
    .st (.act (some (.v 43, true)) (.als 44 none 2)) <|
    .st (.act (some (.v 43, true)) (.pget (some 45) (some 44) 2 6 (some 3))) <|
    .st (.act (some (.v 43, true)) (.px (some 46) (.build [.int .i64 0, .int .i64 0, .slice none 0 0] []))) <|
    .st (.act (some (.v 43, true)) (.ex (some 47) (.call fn_impl_ExprSame [.v 45, .v 46]))) K80_2
@[simp] def W80_3 := @Pl.wpe _ _ K80_3.eq_1
def K80_4 : Pl := .st (.act none (.px (some 29) (.pick (.v 25) (.v 28) (.c (.bool false))))) <|
    .st (.act none (.px (some 30) (.mv (.v 29)))) <|
    .st (.act (some (.v 30, true)) (.als 31 none 2)) <|
    .st (.act (some (.v 30, true)) (.pget (some 32) (some 31) 2 5 none)) <|
    .st (.act (some (.v 30, true)) (.px (some 33) (.bin .geq (.v 32) (.c (.int .i64 0))))) <|
    .st (.act (some (.v 30, true)) (.px (some 34) (.mv (.v 33)))) <|
    .st (.act (some (.v 34, true)) (.als 35 none 2)) <|
    .st (.act (some (.v 34, true)) (.pget (some 36) (some 35) 2 6 (some 3))) <|
    .st (.act (some (.v 34, true)) (.ex (some 37) (.call fn_impl_ExprValid [.v 36]))) K80_3
@[simp] def W80_4 := @Pl.wpe _ _ K80_4.eq_1
def K80_5 : Pl := .st (.act none (.px (some 24) (.pick (.v 20) (.v 23) (.c (.bool false))))) <|
    .st (.act none (.px (some 25) (.mv (.v 24)))) <|
    .st (.act (some (.v 25, true)) (.als 26 none 2)) <|
    .st (.act (some (.v 25, true)) (.pget (some 27) (some 26) 2 5 none)) <|
    .st (.act (some (.v 25, true)) (.ex (some 28) (.call fn_impl_in [.v 27, .c (.int .i64 (-1)), .c (.int .i64 2)]))) K80_4
@[simp] def W80_5 := @Pl.wpe _ _ K80_5.eq_1
def K80_6 : Pl := .st (.act none (.px (some 19) (.pick (.v 13) (.v 18) (.c (.bool false))))) <|
    .st (.act none (.px (some 20) (.mv (.v 19)))) <|
    .st (.act (some (.v 20, true)) (.als 21 none 2)) <|
    .st (.act (some (.v 20, true)) (.pget (some 22) (some 21) 2 2 (some 3))) <|
    .st (.act (some (.v 20, true)) (.ex (some 23) (.call fn_impl_ExprValid [.v 22]))) K80_5
@[simp] def W80_6 := @Pl.wpe _ _ K80_6.eq_1
def K80_7 : Pl := .st (.act none (.px (some 12) (.pick (.v 6) (.v 11) (.c (.bool false))))) <|
    .st (.act none (.px (some 13) (.mv (.v 12)))) <|
    .st (.act (some (.v 13, true)) (.als 14 none 2)) <|
    .st (.act (some (.v 13, true)) (.pget (some 15) (some 14) 2 1 none)) <|
    .st (.act (some (.v 13, true)) (.px (some 16) (.mv (.v 1)))) <|
    .st (.act (some (.v 13, true)) (.px (some 17) (.bin .sub (.v 16) (.c (.int .i64 1))))) <|
    .st (.act (some (.v 13, true)) (.ex (some 18) (.call fn_impl_in [.v 15, .c (.int .i64 0), .v 17]))) K80_6
@[simp] def W80_7 := @Pl.wpe _ _ K80_7.eq_1
def K80_8 : Pl := .st (.act none (.px (some 6) (.mv (.v 5)))) <|
    .st (.act (some (.v 6, true)) (.als 7 none 2)) <|
    .st (.act (some (.v 6, true)) (.pget (some 8) (some 7) 2 0 none)) <|
    .st (.act (some (.v 6, true)) (.px (some 9) (.mv (.v 1)))) <|
    .st (.act (some (.v 6, true)) (.px (some 10) (.bin .sub (.v 9) (.c (.int .i64 1))))) <|
    .st (.act (some (.v 6, true)) (.ex (some 11) (.call fn_impl_in [.v 8, .c (.int .i64 0), .v 10]))) K80_7
@[simp] def W80_8 := @Pl.wpe _ _ K80_8.eq_1
def K80_9 : C := .seq (.pl <| .st (.ext 4 52) <|
    .st (.act none (.px (some 4) (.mv (.v 1)))) <|
    .st (.act none (.ex (some 5) (.call fn_impl_in [.v 4, .c (.int .i64 1), .c (.int .i64 4)]))) K80_8) (.ret)
@[simp] def W80_9 := @C.wpe _ _ K80_9.eq_1
def B_impl_EdgeValid : C := .seq (.pl <| .st (.ext 4 0) <|
    .st (.act none (.pnew 2 (.v 0) [])) <|
    .st (.act none (.px (some 3) (.mv (.c (.bool false))))) .done) K80_9
@[simp] def WB_impl_EdgeValid := @C.wpe _ _ B_impl_EdgeValid.eq_1
def R_impl_EdgeValid : FIR := ⟨B_impl_EdgeValid, 4, [(3, none)]⟩
theorem IR_impl_EdgeValid : cfun Tryz.prog H_impl_EdgeValid Tryz.f80 = some R_impl_EdgeValid := by kernel_rfl
theorem EN_impl_EdgeValid {args : List Value} {h : Heap} {k : Value → Heap → Prop} (hargs : args.length = 2) (hw : B_impl_EdgeValid.wp Tryz.prog (retQ [(3, none)] k) (env0 args 4) h) : CallE Tryz.prog fn_impl_EdgeValid args h k := enter Tryz.func80 rfl IR_impl_EdgeValid hargs hw

def H_impl_EnabledSteps : Hint := ⟨[(0, false), (1, false), (2, true), (3, true), (4, false)], []⟩
def K16_1 : Pl := .st (.act none (.px (some 4) (.mv (.v 7)))) .done
@[simp] def W16_1 := @Pl.wpe _ _ K16_1.eq_1
def K16_2 : C := .seq (.pl <| .st (.ext 5 3) <|
    .st (.act none (.pget (some 5) none 2 0 (some 2))) <|
    .st (.act none (.pget (some 6) none 3 0 (some 2))) <|
    .st (.act none (.ex (some 7) (.call fn_impl_System_enabled [.v 5, .v 6]))) K16_1) (.ret)
@[simp] def W16_2 := @C.wpe _ _ K16_2.eq_1
def K16_3 : C := .seq (.pl <| .st (.ext 5 0) <|
    .st (.act none (.px (some 4) (.mv (.c (.slice none 0 0))))) .done) (.ret)
@[simp] def W16_3 := @C.wpe _ _ K16_3.eq_1
def K16_4 : C := .cond 5 (.v 8) K16_3 (.skip)
@[simp] def W16_4 := @C.wpe _ _ K16_4.eq_1
def K16_5 : Pl := .st (.act none (.px (some 8) (.un .not (.v 7)))) .done
@[simp] def W16_5 := @Pl.wpe _ _ K16_5.eq_1
def K16_6 : C := .seq (.seq (.pl <| .st (.ext 5 4) <|
    .st (.act none (.pget (some 5) none 2 0 (some 2))) <|
    .st (.act none (.pget (some 6) none 3 0 (some 2))) <|
    .st (.act none (.ex (some 7) (.call fn_impl_StateValid [.v 5, .v 6]))) K16_5) K16_4) K16_2
@[simp] def W16_6 := @C.wpe _ _ K16_6.eq_1
def B_impl_EnabledSteps : C := .seq (.pl <| .st (.ext 5 0) <|
    .st (.act none (.pnew 2 (.v 0) [])) <|
    .st (.act none (.pnew 3 (.v 1) [])) <|
    .st (.act none (.px (some 4) (.mv (.c (.slice none 0 0))))) .done) K16_6
@[simp] def WB_impl_EnabledSteps := @C.wpe _ _ B_impl_EnabledSteps.eq_1
def R_impl_EnabledSteps : FIR := ⟨B_impl_EnabledSteps, 5, [(4, none)]⟩
theorem IR_impl_EnabledSteps : cfun Tryz.prog H_impl_EnabledSteps Tryz.f16 = some R_impl_EnabledSteps := by kernel_rfl
theorem EN_impl_EnabledSteps {args : List Value} {h : Heap} {k : Value → Heap → Prop} (hargs : args.length = 2) (hw : B_impl_EnabledSteps.wp Tryz.prog (retQ [(4, none)] k) (env0 args 5) h) : CallE Tryz.prog fn_impl_EnabledSteps args h k := enter Tryz.func16 rfl IR_impl_EnabledSteps hargs hw

def H_impl_ExprNodes : Hint := ⟨[(0, false), (1, true), (2, false), (3, false)], []⟩
def K105_1 : C := .seq (.pl <| .st (.ext 4 1) <|
    .st (.act none (.ld (some 4) (.v 3) none)) <|
    .st (.act none (.px (some 2) (.mv (.v 4)))) .done) (.ret)
@[simp] def W105_1 := @C.wpe _ _ K105_1.eq_1
def K105_2 : C := .seq (.pl <| .st (.ext 4 0) <|
    .st (.act none (.px (some 2) (.mv (.c (.int .i64 0))))) .done) (.ret)
@[simp] def W105_2 := @C.wpe _ _ K105_2.eq_1
def K105_3 : C := .cond 4 (.v 6) K105_2 (.skip)
@[simp] def W105_3 := @C.wpe _ _ K105_3.eq_1
def K105_4 : Pl := .st (.act none (.px (some 6) (.un .not (.v 5)))) .done
@[simp] def W105_4 := @Pl.wpe _ _ K105_4.eq_1
def K105_5 : C := .seq (.seq (.pl <| .st (.ext 4 3) <|
    .st (.act none (.pget (some 4) none 1 0 (some 3))) <|
    .st (.act none (.ex (some 5) (.call fn_impl_Expr_walk [.v 4, .c (.int .i64 1), .v 3]))) K105_4) K105_3) K105_1
@[simp] def W105_5 := @C.wpe _ _ K105_5.eq_1
def K105_6 : Pl := .st (.act none (.ex none (.store 1 (.v 3) (.c (.int .i64 0))))) .done
@[simp] def W105_6 := @Pl.wpe _ _ K105_6.eq_1
def K105_7 : C := .seq (.pl <| .st (.ext 4 0) <|
    .st (.act none (.ex (some 3) (.alloc (.c (.int .i64 0))))) K105_6) K105_5
@[simp] def W105_7 := @C.wpe _ _ K105_7.eq_1
def B_impl_ExprNodes : C := .seq (.pl <| .st (.ext 4 0) <|
    .st (.act none (.pnew 1 (.v 0) [])) <|
    .st (.act none (.px (some 2) (.mv (.c (.int .i64 0))))) .done) K105_7
@[simp] def WB_impl_ExprNodes := @C.wpe _ _ B_impl_ExprNodes.eq_1
def R_impl_ExprNodes : FIR := ⟨B_impl_ExprNodes, 4, [(2, none)]⟩
theorem IR_impl_ExprNodes : cfun Tryz.prog H_impl_ExprNodes Tryz.f105 = some R_impl_ExprNodes := by kernel_rfl
theorem EN_impl_ExprNodes {args : List Value} {h : Heap} {k : Value → Heap → Prop} (hargs : args.length = 1) (hw : B_impl_ExprNodes.wp Tryz.prog (retQ [(2, none)] k) (env0 args 4) h) : CallE Tryz.prog fn_impl_ExprNodes args h k := enter Tryz.func105 rfl IR_impl_ExprNodes hargs hw

def H_impl_ExprSame : Hint := ⟨[(0, false), (1, false), (2, true), (3, true), (4, false)], []⟩
def K112_1 : Pl := .st (.act none (.px (some 23) (.pick (.v 17) (.v 22) (.c (.bool false))))) <|
    .st (.act none (.px (some 4) (.mv (.v 23)))) .done
@[simp] def W112_1 := @Pl.wpe _ _ K112_1.eq_1
def K112_2 : C := .seq (.pl <| .st (.ext 5 19) <|
    .st (.act none (.als 5 none 2)) <|
    .st (.act none (.pget (some 6) (some 5) 2 0 none)) <|
    .st (.act none (.als 7 none 3)) <|
    .st (.act none (.pget (some 8) (some 7) 3 0 none)) <|
    .st (.act none (.px (some 9) (.bin .eql (.v 6) (.v 8)))) <|
    .st (.act none (.px (some 10) (.mv (.v 9)))) <|
    .st (.act (some (.v 10, true)) (.als 11 none 2)) <|
    .st (.act (some (.v 10, true)) (.pget (some 12) (some 11) 2 1 none)) <|
    .st (.act (some (.v 10, true)) (.als 13 none 3)) <|
    .st (.act (some (.v 10, true)) (.pget (some 14) (some 13) 3 1 none)) <|
    .st (.act (some (.v 10, true)) (.px (some 15) (.bin .eql (.v 12) (.v 14)))) <|
    .st (.act none (.px (some 16) (.pick (.v 10) (.v 15) (.c (.bool false))))) <|
    .st (.act none (.px (some 17) (.mv (.v 16)))) <|
    .st (.act (some (.v 17, true)) (.als 18 none 2)) <|
    .st (.act (some (.v 17, true)) (.pget (some 19) (some 18) 2 2 none)) <|
    .st (.act (some (.v 17, true)) (.als 20 none 3)) <|
    .st (.act (some (.v 17, true)) (.pget (some 21) (some 20) 3 2 none)) <|
    .st (.act (some (.v 17, true)) (.ex (some 22) (.call fn_slices_EqualFunc_S_impl_Expr_S_impl_Expr_impl_Expr_impl_Expr [.v 19, .v 21, .c (.func (.func 112) #[] #[])]))) K112_1) (.ret)
@[simp] def W112_2 := @C.wpe _ _ K112_2.eq_1
def B_impl_ExprSame : C := .seq (.pl <| .st (.ext 5 0) <|
    .st (.act none (.pnew 2 (.v 0) [])) <|
    .st (.act none (.pnew 3 (.v 1) [])) <|
    .st (.act none (.px (some 4) (.mv (.c (.bool false))))) .done) K112_2
@[simp] def WB_impl_ExprSame := @C.wpe _ _ B_impl_ExprSame.eq_1
def R_impl_ExprSame : FIR := ⟨B_impl_ExprSame, 5, [(4, none)]⟩
theorem IR_impl_ExprSame : cfun Tryz.prog H_impl_ExprSame Tryz.f112 = some R_impl_ExprSame := by kernel_rfl
theorem EN_impl_ExprSame {args : List Value} {h : Heap} {k : Value → Heap → Prop} (hargs : args.length = 2) (hw : B_impl_ExprSame.wp Tryz.prog (retQ [(4, none)] k) (env0 args 5) h) : CallE Tryz.prog fn_impl_ExprSame args h k := enter Tryz.func112 rfl IR_impl_ExprSame hargs hw

def H_impl_ExprValid : Hint := ⟨[(0, false), (1, true), (2, false)], []⟩
def K63_1 : Pl := .st (.act none (.px (some 5) (.bin .gtr (.v 4) (.c (.int .i64 0))))) <|
    .st (.act none (.px (some 2) (.mv (.v 5)))) .done
@[simp] def W63_1 := @Pl.wpe _ _ K63_1.eq_1
def K63_2 : C := .seq (.pl <| .st (.ext 3 3) <|
    .st (.act none (.pget (some 3) none 1 0 (some 3))) <|
    .st (.act none (.ex (some 4) (.call fn_impl_ExprNodes [.v 3]))) K63_1) (.ret)
@[simp] def W63_2 := @C.wpe _ _ K63_2.eq_1
def B_impl_ExprValid : C := .seq (.pl <| .st (.ext 3 0) <|
    .st (.act none (.pnew 1 (.v 0) [])) <|
    .st (.act none (.px (some 2) (.mv (.c (.bool false))))) .done) K63_2
@[simp] def WB_impl_ExprValid := @C.wpe _ _ B_impl_ExprValid.eq_1
def R_impl_ExprValid : FIR := ⟨B_impl_ExprValid, 3, [(2, none)]⟩
theorem IR_impl_ExprValid : cfun Tryz.prog H_impl_ExprValid Tryz.f63 = some R_impl_ExprValid := by kernel_rfl
theorem EN_impl_ExprValid {args : List Value} {h : Heap} {k : Value → Heap → Prop} (hargs : args.length = 1) (hw : B_impl_ExprValid.wp Tryz.prog (retQ [(2, none)] k) (env0 args 3) h) : CallE Tryz.prog fn_impl_ExprValid args h k := enter Tryz.func63 rfl IR_impl_ExprValid hargs hw

def H_impl_Expr_eval : Hint := ⟨[(0, false), (1, false), (2, true), (4, false), (5, false), (6, false), (8, false), (39, false)], []⟩
def K65_1 : C := .seq (.pl <| .st (.ext 8 6) <|
    .st (.act none (.px (some 8) (.mv (.v 4)))) <|
    .st (.act none (.px (some 9) (.mv (.v 5)))) <|
    .st (.act none (.px (some 10) (.bin .sub (.v 8) (.v 9)))) <|
    .st (.act none (.px (some 11) (.bin .add (.v 10) (.c (.int .i64 3))))) <|
    .st (.act none (.px (some 12) (.bin .add (.v 11) (.c (.int .i64 1))))) <|
    .st (.act none (.px (some 13) (.bin .rem (.v 12) (.c (.int .i64 4))))) <|
    .st (.act none (.px (some 3) (.mv (.v 13)))) .done) (.ret)
@[simp] def W65_1 := @C.wpe _ _ K65_1.eq_1
def K65_2 : Pl := .st (.act none (.px (some 3) (.mv (.v 14)))) .done
@[simp] def W65_2 := @Pl.wpe _ _ K65_2.eq_1
def K65_3 : C := .seq (.pl <| .st (.ext 8 7) <|
    .st (.act none (.px (some 8) (.mv (.v 4)))) <|
    .st (.act none (.px (some 9) (.bin .neq (.v 8) (.c (.int .i64 0))))) <|
    .st (.act none (.px (some 10) (.mv (.v 9)))) <|
    .st (.act (some (.v 10, true)) (.px (some 11) (.mv (.v 5)))) <|
    .st (.act (some (.v 10, true)) (.px (some 12) (.bin .neq (.v 11) (.c (.int .i64 0))))) <|
    .st (.act none (.px (some 13) (.pick (.v 10) (.v 12) (.c (.bool false))))) <|
    .st (.act none (.ex (some 14) (.call fn_impl_truth [.v 13]))) K65_2) (.ret)
@[simp] def W65_3 := @C.wpe _ _ K65_3.eq_1
def K65_4 : Pl := .st (.act none (.px (some 3) (.mv (.v 14)))) .done
@[simp] def W65_4 := @Pl.wpe _ _ K65_4.eq_1
def K65_5 : C := .seq (.pl <| .st (.ext 8 7) <|
    .st (.act none (.px (some 8) (.mv (.v 4)))) <|
    .st (.act none (.px (some 9) (.bin .neq (.v 8) (.c (.int .i64 0))))) <|
    .st (.act none (.px (some 10) (.mv (.v 9)))) <|
    .st (.act (some (.v 10, false)) (.px (some 11) (.mv (.v 5)))) <|
    .st (.act (some (.v 10, false)) (.px (some 12) (.bin .neq (.v 11) (.c (.int .i64 0))))) <|
    .st (.act none (.px (some 13) (.pick (.v 10) (.c (.bool true)) (.v 12)))) <|
    .st (.act none (.ex (some 14) (.call fn_impl_truth [.v 13]))) K65_4) (.ret)
@[simp] def W65_5 := @C.wpe _ _ K65_5.eq_1
def K65_6 : Pl := .st (.act none (.px (some 3) (.mv (.v 11)))) .done
@[simp] def W65_6 := @Pl.wpe _ _ K65_6.eq_1
def K65_7 : C := .seq (.pl <| .st (.ext 8 4) <|
    .st (.act none (.px (some 8) (.mv (.v 4)))) <|
    .st (.act none (.px (some 9) (.mv (.v 5)))) <|
    .st (.act none (.px (some 10) (.bin .eql (.v 8) (.v 9)))) <|
    .st (.act none (.ex (some 11) (.call fn_impl_truth [.v 10]))) K65_6) (.ret)
@[simp] def W65_7 := @C.wpe _ _ K65_7.eq_1
def K65_8 : Pl := .st (.act none (.px (some 3) (.mv (.v 11)))) .done
@[simp] def W65_8 := @Pl.wpe _ _ K65_8.eq_1
def K65_9 : C := .seq (.pl <| .st (.ext 8 4) <|
    .st (.act none (.px (some 8) (.mv (.v 4)))) <|
    .st (.act none (.px (some 9) (.mv (.v 5)))) <|
    .st (.act none (.px (some 10) (.bin .lss (.v 8) (.v 9)))) <|
    .st (.act none (.ex (some 11) (.call fn_impl_truth [.v 10]))) K65_8) (.ret)
@[simp] def W65_9 := @C.wpe _ _ K65_9.eq_1
def K65_10 : C := .seq (.pl <| .st (.ext 8 4) <|
    .st (.act none (.px (some 8) (.mv (.v 4)))) <|
    .st (.act none (.px (some 9) (.mv (.v 5)))) <|
    .st (.act none (.px (some 10) (.bin .add (.v 8) (.v 9)))) <|
    .st (.act none (.px (some 11) (.bin .rem (.v 10) (.c (.int .i64 4))))) <|
    .st (.act none (.px (some 3) (.mv (.v 11)))) .done) (.ret)
@[simp] def W65_10 := @C.wpe _ _ K65_10.eq_1
def K65_11 : C := .cond 8 (.v 9) K65_10 (.skip)
@[simp] def W65_11 := @C.wpe _ _ K65_11.eq_1
def K65_12 : C := .seq (.pl <| .st (.ext 8 2) <|
    .st (.act none (.px (some 8) (.bin .eql (.v 7) (.c (.int .i64 8))))) <|
    .st (.act none (.px (some 9) (.mv (.v 8)))) .done) K65_11
@[simp] def W65_12 := @C.wpe _ _ K65_12.eq_1
def K65_13 : C := .cond 8 (.v 9) K65_9 K65_12
@[simp] def W65_13 := @C.wpe _ _ K65_13.eq_1
def K65_14 : C := .seq (.pl <| .st (.ext 8 2) <|
    .st (.act none (.px (some 8) (.bin .eql (.v 7) (.c (.int .i64 7))))) <|
    .st (.act none (.px (some 9) (.mv (.v 8)))) .done) K65_13
@[simp] def W65_14 := @C.wpe _ _ K65_14.eq_1
def K65_15 : C := .cond 8 (.v 9) K65_7 K65_14
@[simp] def W65_15 := @C.wpe _ _ K65_15.eq_1
def K65_16 : C := .seq (.pl <| .st (.ext 8 2) <|
    .st (.act none (.px (some 8) (.bin .eql (.v 7) (.c (.int .i64 6))))) <|
    .st (.act none (.px (some 9) (.mv (.v 8)))) .done) K65_15
@[simp] def W65_16 := @C.wpe _ _ K65_16.eq_1
def K65_17 : C := .cond 8 (.v 9) K65_5 K65_16
@[simp] def W65_17 := @C.wpe _ _ K65_17.eq_1
def K65_18 : C := .seq (.pl <| .st (.ext 8 2) <|
    .st (.act none (.px (some 8) (.bin .eql (.v 7) (.c (.int .i64 5))))) <|
    .st (.act none (.px (some 9) (.mv (.v 8)))) .done) K65_17
@[simp] def W65_18 := @C.wpe _ _ K65_18.eq_1
def K65_19 : C := .cond 8 (.v 9) K65_3 K65_18
@[simp] def W65_19 := @C.wpe _ _ K65_19.eq_1
def K65_20 : C := .block 1 (.seq (.pl <| .st (.ext 8 2) <|
    .st (.act none (.px (some 8) (.bin .eql (.v 7) (.c (.int .i64 4))))) <|
    .st (.act none (.px (some 9) (.mv (.v 8)))) .done) K65_19)
@[simp] def W65_20 := @C.wpe _ _ K65_20.eq_1
def K65_21 : C := .seq (.seq (.pl <| .st (.ext 8 1) <|
    .st (.act none (.als 8 none 2)) <|
    .st (.act none (.pget (some 7) (some 8) 2 0 none)) .done) K65_20) K65_1
@[simp] def W65_21 := @C.wpe _ _ K65_21.eq_1
def K65_22 : Pl := .st (.act none (.px (some 5) (.mv (.v 13)))) .done
@[simp] def W65_22 := @Pl.wpe _ _ K65_22.eq_1
def K65_23 : C := .seq (.pl <| .st (.ext 8 6) <|
    .st (.act none (.als 8 none 2)) <|
    .st (.act none (.pget (some 9) (some 8) 2 2 none)) <|
    .st (.act none (.px (some 10) (.ia 3 (.v 9) (.c (.int .i64 1))))) <|
    .st (.act none (.ld (some 11) (.v 10) (some 3))) <|
    .st (.act none (.px (some 12) (.mv (.v 1)))) <|
    .st (.act none (.ex (some 13) (.call fn_impl_Expr_eval [.v 11, .v 12]))) K65_22) K65_21
@[simp] def W65_23 := @C.wpe _ _ K65_23.eq_1
def K65_24 : Pl := .st (.act none (.px (some 3) (.mv (.v 10)))) .done
@[simp] def W65_24 := @Pl.wpe _ _ K65_24.eq_1
def K65_25 : C := .seq (.pl <| .st (.ext 8 3) <|
    .st (.act none (.px (some 8) (.mv (.v 4)))) <|
    .st (.act none (.px (some 9) (.bin .eql (.v 8) (.c (.int .i64 0))))) <|
    .st (.act none (.ex (some 10) (.call fn_impl_truth [.v 9]))) K65_24) (.ret)
@[simp] def W65_25 := @C.wpe _ _ K65_25.eq_1
def K65_26 : C := .cond 8 (.v 10) K65_25 (.skip)
@[simp] def W65_26 := @C.wpe _ _ K65_26.eq_1
def K65_27 : C := .seq (.seq (.pl <| .st (.ext 8 3) <|
    .st (.act none (.als 8 none 2)) <|
    .st (.act none (.pget (some 9) (some 8) 2 0 none)) <|
    .st (.act none (.px (some 10) (.bin .eql (.v 9) (.c (.int .i64 3))))) .done) K65_26) K65_23
@[simp] def W65_27 := @C.wpe _ _ K65_27.eq_1
def K65_28 : Pl := .st (.act none (.px (some 4) (.mv (.v 13)))) .done
@[simp] def W65_28 := @Pl.wpe _ _ K65_28.eq_1
def K65_29 : C := .seq (.pl <| .st (.ext 8 6) <|
    .st (.act none (.als 8 none 2)) <|
    .st (.act none (.pget (some 9) (some 8) 2 2 none)) <|
    .st (.act none (.px (some 10) (.ia 3 (.v 9) (.c (.int .i64 0))))) <|
    .st (.act none (.ld (some 11) (.v 10) (some 3))) <|
    .st (.act none (.px (some 12) (.mv (.v 1)))) <|
    .st (.act none (.ex (some 13) (.call fn_impl_Expr_eval [.v 11, .v 12]))) K65_28) K65_27
@[simp] def W65_29 := @C.wpe _ _ K65_29.eq_1
def K65_30 : C := .seq (.pl <| .st (.ext 8 2) <|
    .st (.act none (.als 8 none 2)) <|
    .st (.act none (.pget (some 9) (some 8) 2 1 none)) <|
    .st (.act none (.px (some 3) (.mv (.v 9)))) .done) (.ret)
@[simp] def W65_30 := @C.wpe _ _ K65_30.eq_1
def K65_31 : C := .seq (.pl <| .st (.ext 8 5) <|
    .st (.act none (.px (some 8) (.mv (.v 1)))) <|
    .st (.act none (.als 9 none 2)) <|
    .st (.act none (.pget (some 10) (some 9) 2 1 none)) <|
    .st (.act none (.px (some 11) (.ia 1 (.v 8) (.v 10)))) <|
    .st (.act none (.ld (some 12) (.v 11) none)) <|
    .st (.act none (.px (some 3) (.mv (.v 12)))) .done) (.ret)
@[simp] def W65_31 := @C.wpe _ _ K65_31.eq_1
def K65_32 : C := .cond 8 (.v 9) K65_31 (.skip)
@[simp] def W65_32 := @C.wpe _ _ K65_32.eq_1
def K65_33 : C := .seq (.pl <| .st (.ext 8 2) <|
    .st (.act none (.px (some 8) (.bin .eql (.v 6) (.c (.int .i64 2))))) <|
    .st (.act none (.px (some 9) (.mv (.v 8)))) .done) K65_32
@[simp] def W65_33 := @C.wpe _ _ K65_33.eq_1
def K65_34 : C := .cond 8 (.v 9) K65_30 K65_33
@[simp] def W65_34 := @C.wpe _ _ K65_34.eq_1
def K65_35 : C := .block 0 (.seq (.pl <| .st (.ext 8 2) <|
    .st (.act none (.px (some 8) (.bin .eql (.v 6) (.c (.int .i64 1))))) <|
    .st (.act none (.px (some 9) (.mv (.v 8)))) .done) K65_34)
@[simp] def W65_35 := @C.wpe _ _ K65_35.eq_1
def K65_36 : C := .seq (.seq (.pl <| .st (.ext 8 1) <|
    .st (.act none (.als 8 none 2)) <|
    .st (.act none (.pget (some 6) (some 8) 2 0 none)) .done) K65_35) K65_29
@[simp] def W65_36 := @C.wpe _ _ K65_36.eq_1
def B_impl_Expr_eval : C := .seq (.pl <| .st (.ext 8 0) <|
    .st (.act none (.pnew 2 (.v 0) [])) <|
    .st (.act none (.px (some 3) (.mv (.c (.int .i64 0))))) .done) K65_36
@[simp] def WB_impl_Expr_eval := @C.wpe _ _ B_impl_Expr_eval.eq_1
def R_impl_Expr_eval : FIR := ⟨B_impl_Expr_eval, 8, [(3, none)]⟩
theorem IR_impl_Expr_eval : cfun Tryz.prog H_impl_Expr_eval Tryz.f65 = some R_impl_Expr_eval := by kernel_rfl
theorem EN_impl_Expr_eval {args : List Value} {h : Heap} {k : Value → Heap → Prop} (hargs : args.length = 2) (hw : B_impl_Expr_eval.wp Tryz.prog (retQ [(3, none)] k) (env0 args 8) h) : CallE Tryz.prog fn_impl_Expr_eval args h k := enter Tryz.func65 rfl IR_impl_Expr_eval hargs hw

def H_impl_Expr_walk : Hint := ⟨[(0, false), (1, false), (2, false), (3, true), (4, false), (5, false), (6, false), (7, false), (8, false), (15, false)], []⟩
def K119_1 : Pl := .st (.act none (.px (some 14) (.un .not (.v 13)))) <|
    .st (.act none (.px (some 6) (.mv (.v 14)))) .done
@[simp] def W119_1 := @Pl.wpe _ _ K119_1.eq_1
def K119_2 : C := .seq (.pl <| .st (.ext 10 5) <|
    .st (.act none (.als 10 none 3)) <|
    .st (.act none (.pget (some 11) (some 10) 3 2 none)) <|
    .st (.act none (.px (some 12) (.mkf (.func fn_impl_Expr_walk_1) [] [.v 4, .v 5]))) <|
    .st (.act none (.ex (some 13) (.call fn_slices_ContainsFunc_S_impl_Expr_impl_Expr [.v 11, .v 12]))) K119_1) (.ret)
@[simp] def W119_2 := @C.wpe _ _ K119_2.eq_1
def K119_3 : C := .seq (.pl <| .st (.ext 10 0) <|
    .st (.act none (.px (some 6) (.mv (.c (.bool false))))) .done) (.ret)
@[simp] def W119_3 := @C.wpe _ _ K119_3.eq_1
def K119_4 : C := .cond 10 (.v 37) K119_3 (.skip)
@[simp] def W119_4 := @C.wpe _ _ K119_4.eq_1
def K119_5 : Pl := .st (.act (some (.v 24, false)) (.px (some 29) (.un .not (.v 28)))) <|
    .st (.act none (.px (some 30) (.pick (.v 24) (.c (.bool true)) (.v 29)))) <|
    .st (.act none (.px (some 31) (.mv (.v 30)))) <|
    .st (.act (some (.v 31, false)) (.als 32 none 3)) <|
    .st (.act (some (.v 31, false)) (.pget (some 33) (some 32) 3 2 none)) <|
    .st (.act (some (.v 31, false)) (.px (some 34) (.lenV (.v 33)))) <|
    .st (.act (some (.v 31, false)) (.px (some 35) (.mv (.v 7)))) <|
    .st (.act (some (.v 31, false)) (.px (some 36) (.bin .neq (.v 34) (.v 35)))) <|
    .st (.act none (.px (some 37) (.pick (.v 31) (.c (.bool true)) (.v 36)))) .done
@[simp] def W119_5 := @Pl.wpe _ _ K119_5.eq_1
def K119_6 : Pl := .st (.act (some (.v 18, false)) (.px (some 22) (.un .not (.v 21)))) <|
    .st (.act none (.px (some 23) (.pick (.v 18) (.c (.bool true)) (.v 22)))) <|
    .st (.act none (.px (some 24) (.mv (.v 23)))) <|
    .st (.act (some (.v 24, false)) (.als 25 none 3)) <|
    .st (.act (some (.v 24, false)) (.pget (some 26) (some 25) 3 1 none)) <|
    .st (.act (some (.v 24, false)) (.px (some 27) (.mv (.v 8)))) <|
    .st (.act (some (.v 24, false)) (.ex (some 28) (.call fn_impl_in [.v 26, .c (.int .i64 0), .v 27]))) K119_5
@[simp] def W119_6 := @Pl.wpe _ _ K119_6.eq_1
def K119_7 : C := .seq (.seq (.pl <| .st (.ext 10 28) <|
    .st (.act none (.ld (some 10) (.v 4) none)) <|
    .st (.act none (.px (some 11) (.bin .gtr (.v 10) (.c (.int .i64 6))))) <|
    .st (.act none (.px (some 12) (.mv (.v 11)))) <|
    .st (.act (some (.v 12, false)) (.ld (some 13) (.v 5) none)) <|
    .st (.act (some (.v 12, false)) (.px (some 14) (.nilc (.v 13)))) <|
    .st (.act (some (.v 12, false)) (.ld (some 15) (.v 14) none)) <|
    .st (.act (some (.v 12, false)) (.px (some 16) (.bin .gtr (.v 15) (.c (.int .i64 15))))) <|
    .st (.act none (.px (some 17) (.pick (.v 12) (.c (.bool true)) (.v 16)))) <|
    .st (.act none (.px (some 18) (.mv (.v 17)))) <|
    .st (.act (some (.v 18, false)) (.als 19 none 3)) <|
    .st (.act (some (.v 18, false)) (.pget (some 20) (some 19) 3 0 none)) <|
    .st (.act (some (.v 18, false)) (.ex (some 21) (.call fn_impl_in [.v 20, .c (.int .i64 1), .c (.int .i64 9)]))) K119_6) K119_4) K119_2
@[simp] def W119_7 := @C.wpe _ _ K119_7.eq_1
def K119_8 : C := .pl <| .st (.ext 10 0) <|
    .st (.act none (.px (some 7) (.mv (.c (.int .i64 0))))) <|
    .st (.act none (.px (some 8) (.mv (.c (.int .i64 3))))) .done
@[simp] def W119_8 := @C.wpe _ _ K119_8.eq_1
def K119_9 : C := .pl <| .st (.ext 10 0) <|
    .st (.act none (.px (some 7) (.mv (.c (.int .i64 0))))) <|
    .st (.act none (.px (some 8) (.mv (.c (.int .i64 2))))) .done
@[simp] def W119_9 := @C.wpe _ _ K119_9.eq_1
def K119_10 : C := .pl <| .st (.ext 10 0) <|
    .st (.act none (.px (some 7) (.mv (.c (.int .i64 1))))) .done
@[simp] def W119_10 := @C.wpe _ _ K119_10.eq_1
def K119_11 : C := .cond 10 (.v 11) K119_10 (.skip)
@[simp] def W119_11 := @C.wpe _ _ K119_11.eq_1
def K119_12 : C := .seq (.pl <| .st (.ext 10 2) <|
    .st (.act none (.px (some 10) (.bin .eql (.v 9) (.c (.int .i64 3))))) <|
    .st (.act none (.px (some 11) (.mv (.v 10)))) .done) K119_11
@[simp] def W119_12 := @C.wpe _ _ K119_12.eq_1
def K119_13 : C := .cond 10 (.v 11) K119_9 K119_12
@[simp] def W119_13 := @C.wpe _ _ K119_13.eq_1
def K119_14 : C := .seq (.pl <| .st (.ext 10 2) <|
    .st (.act none (.px (some 10) (.bin .eql (.v 9) (.c (.int .i64 2))))) <|
    .st (.act none (.px (some 11) (.mv (.v 10)))) .done) K119_13
@[simp] def W119_14 := @C.wpe _ _ K119_14.eq_1
def K119_15 : C := .cond 10 (.v 11) K119_8 K119_14
@[simp] def W119_15 := @C.wpe _ _ K119_15.eq_1
def K119_16 : C := .block 0 (.seq (.pl <| .st (.ext 10 2) <|
    .st (.act none (.px (some 10) (.bin .eql (.v 9) (.c (.int .i64 1))))) <|
    .st (.act none (.px (some 11) (.mv (.v 10)))) .done) K119_15)
@[simp] def W119_16 := @C.wpe _ _ K119_16.eq_1
def K119_17 : C := .seq (.seq (.pl <| .st (.ext 10 1) <|
    .st (.act none (.als 10 none 3)) <|
    .st (.act none (.pget (some 9) (some 10) 3 0 none)) .done) K119_16) K119_7
@[simp] def W119_17 := @C.wpe _ _ K119_17.eq_1
def K119_18 : C := .seq (.pl <| .st (.ext 10 0) <|
    .st (.act none (.px (some 7) (.mv (.c (.int .i64 2))))) <|
    .st (.act none (.px (some 8) (.mv (.c (.int .i64 0))))) .done) K119_17
@[simp] def W119_18 := @C.wpe _ _ K119_18.eq_1
def K119_19 : C := .seq (.pl <| .st (.ext 10 5) <|
    .st (.act none (.ld (some 10) (.v 5) none)) <|
    .st (.act none (.px (some 11) (.nilc (.v 10)))) <|
    .st (.act none (.ld (some 12) (.v 11) none)) <|
    .st (.act none (.px (some 13) (.bin .add (.v 12) (.c (.int .i64 1))))) <|
    .st (.act none (.px (some 14) (.nilc (.v 10)))) <|
    .st (.act none (.ex none (.store 1 (.v 14) (.v 13)))) .done) K119_18
@[simp] def W119_19 := @C.wpe _ _ K119_19.eq_1
def K119_20 : Pl := .st (.act none (.px (some 6) (.mv (.c (.bool false))))) .done
@[simp] def W119_20 := @Pl.wpe _ _ K119_20.eq_1
def K119_21 : Pl := .st (.act none (.ex (some 5) (.alloc (.v 2)))) K119_20
@[simp] def W119_21 := @Pl.wpe _ _ K119_21.eq_1
def B_impl_Expr_walk : C := .seq (.pl <| .st (.ext 10 0) <|
    .st (.act none (.pnew 3 (.v 0) [])) <|
    .st (.act none (.ex (some 4) (.alloc (.v 1)))) K119_21) K119_19
@[simp] def WB_impl_Expr_walk := @C.wpe _ _ B_impl_Expr_walk.eq_1
def R_impl_Expr_walk : FIR := ⟨B_impl_Expr_walk, 10, [(6, none)]⟩
theorem IR_impl_Expr_walk : cfun Tryz.prog H_impl_Expr_walk Tryz.f119 = some R_impl_Expr_walk := by kernel_rfl
theorem EN_impl_Expr_walk {args : List Value} {h : Heap} {k : Value → Heap → Prop} (hargs : args.length = 3) (hw : B_impl_Expr_walk.wp Tryz.prog (retQ [(6, none)] k) (env0 args 10) h) : CallE Tryz.prog fn_impl_Expr_walk args h k := enter Tryz.func119 rfl IR_impl_Expr_walk hargs hw

def H_impl_Expr_walk_1 : Hint := ⟨[(0, false), (1, false), (2, false), (3, true), (4, false)], []⟩
def K123_1 : Pl := .st (.act none (.px (some 10) (.un .not (.v 9)))) <|
    .st (.act none (.px (some 4) (.mv (.v 10)))) .done
@[simp] def W123_1 := @Pl.wpe _ _ K123_1.eq_1
def K123_2 : C := .seq (.pl <| .st (.ext 5 6) <|
    .st (.act none (.pget (some 5) none 3 0 (some 3))) <|
    .st (.act none (.ld (some 6) (.v 1) none)) <|
    .st (.act none (.px (some 7) (.bin .add (.v 6) (.c (.int .i64 1))))) <|
    .st (.act none (.ld (some 8) (.v 2) none)) <|
    .st (.act none (.ex (some 9) (.call fn_impl_Expr_walk [.v 5, .v 7, .v 8]))) K123_1) (.ret)
@[simp] def W123_2 := @C.wpe _ _ K123_2.eq_1
def B_impl_Expr_walk_1 : C := .seq (.pl <| .st (.ext 5 0) <|
    .st (.act none (.pnew 3 (.v 0) [])) <|
    .st (.act none (.px (some 4) (.mv (.c (.bool false))))) .done) K123_2
@[simp] def WB_impl_Expr_walk_1 := @C.wpe _ _ B_impl_Expr_walk_1.eq_1
def R_impl_Expr_walk_1 : FIR := ⟨B_impl_Expr_walk_1, 5, [(4, none)]⟩
theorem IR_impl_Expr_walk_1 : cfun Tryz.prog H_impl_Expr_walk_1 Tryz.f123 = some R_impl_Expr_walk_1 := by kernel_rfl
theorem EN_impl_Expr_walk_1 {args : List Value} {h : Heap} {k : Value → Heap → Prop} (hargs : args.length = 3) (hw : B_impl_Expr_walk_1.wp Tryz.prog (retQ [(4, none)] k) (env0 args 5) h) : CallE Tryz.prog fn_impl_Expr_walk_1 args h k := enter Tryz.func123 rfl IR_impl_Expr_walk_1 hargs hw

def H_impl_Graph_path : Hint := ⟨[(0, false), (1, false), (2, false), (3, true), (5, false), (6, false)], []⟩
def K49_1 : Pl := .st (.act none (.px (some 5) (.mv (.v 11)))) .done
@[simp] def W49_1 := @Pl.wpe _ _ K49_1.eq_1
def K49_2 : Pl := .st (.act none (.px (some 10) (.mkf (.func fn_impl_Graph_path_1) [] [.v 4]))) <|
    .st (.act none (.ex (some 11) (.call fn_impl_shortest [.v 7, .v 9, .v 10]))) K49_1
@[simp] def W49_2 := @Pl.wpe _ _ K49_2.eq_1
def K49_3 : C := .seq (.pl <| .st (.ext 6 6) <|
    .st (.act none (.als 6 none 3)) <|
    .st (.act none (.pget (some 7) (some 6) 3 1 none)) <|
    .st (.act none (.px (some 8) (.mv (.v 1)))) <|
    .st (.act none (.ex (some 9) (.bls 1 1 [.int .i64 0] [(0, 1, .v 8)]))) K49_2) (.ret)
@[simp] def W49_3 := @C.wpe _ _ K49_3.eq_1
def K49_4 : Pl := .st (.act none (.px (some 5) (.mv (.c (.slice none 0 0))))) .done
@[simp] def W49_4 := @Pl.wpe _ _ K49_4.eq_1
def B_impl_Graph_path : C := .seq (.pl <| .st (.ext 6 0) <|
    .st (.act none (.pnew 3 (.v 0) [])) <|
    .st (.act none (.ex (some 4) (.alloc (.v 2)))) K49_4) K49_3
@[simp] def WB_impl_Graph_path := @C.wpe _ _ B_impl_Graph_path.eq_1
def R_impl_Graph_path : FIR := ⟨B_impl_Graph_path, 6, [(5, none)]⟩
theorem IR_impl_Graph_path : cfun Tryz.prog H_impl_Graph_path Tryz.f49 = some R_impl_Graph_path := by kernel_rfl
theorem EN_impl_Graph_path {args : List Value} {h : Heap} {k : Value → Heap → Prop} (hargs : args.length = 3) (hw : B_impl_Graph_path.wp Tryz.prog (retQ [(5, none)] k) (env0 args 6) h) : CallE Tryz.prog fn_impl_Graph_path args h k := enter Tryz.func49 rfl IR_impl_Graph_path hargs hw

def H_impl_Graph_path_1 : Hint := ⟨[(0, false), (1, false), (3, false)], []⟩
def K96_1 : C := .seq (.pl <| .st (.ext 3 3) <|
    .st (.act none (.px (some 3) (.mv (.v 0)))) <|
    .st (.act none (.ld (some 4) (.v 1) none)) <|
    .st (.act none (.px (some 5) (.bin .eql (.v 3) (.v 4)))) <|
    .st (.act none (.px (some 2) (.mv (.v 5)))) .done) (.ret)
@[simp] def W96_1 := @C.wpe _ _ K96_1.eq_1
def B_impl_Graph_path_1 : C := .seq (.pl <| .st (.ext 3 0) <|
    .st (.act none (.px (some 2) (.mv (.c (.bool false))))) .done) K96_1
@[simp] def WB_impl_Graph_path_1 := @C.wpe _ _ B_impl_Graph_path_1.eq_1
def R_impl_Graph_path_1 : FIR := ⟨B_impl_Graph_path_1, 3, [(2, none)]⟩
theorem IR_impl_Graph_path_1 : cfun Tryz.prog H_impl_Graph_path_1 Tryz.f96 = some R_impl_Graph_path_1 := by kernel_rfl
theorem EN_impl_Graph_path_1 {args : List Value} {h : Heap} {k : Value → Heap → Prop} (hargs : args.length = 2) (hw : B_impl_Graph_path_1.wp Tryz.prog (retQ [(2, none)] k) (env0 args 3) h) : CallE Tryz.prog fn_impl_Graph_path_1 args h k := enter Tryz.func96 rfl IR_impl_Graph_path_1 hargs hw

def H_impl_InitialState : Hint := ⟨[(0, false), (1, true), (2, true), (3, false)], []⟩
def K15_1 : Pl := .st (.act none (.pset none 2 0 2 (.v 5))) <|
    .st (.act none (.px (some 3) (.mv (.c (.bool true))))) .done
@[simp] def W15_1 := @Pl.wpe _ _ K15_1.eq_1
def K15_2 : C := .seq (.pl <| .st (.ext 4 2) <|
    .st (.act none (.pget (some 4) none 1 0 (some 2))) <|
    .st (.act none (.ex (some 5) (.call fn_impl_System_initial [.v 4]))) K15_1) (.ret)
@[simp] def W15_2 := @C.wpe _ _ K15_2.eq_1
def K15_3 : C := .seq (.pl <| .st (.ext 4 1) <|
    .st (.act none (.px (some 4) (.build [.slice none 0 0, .slice none 0 0] []))) <|
    .st (.act none (.pset none 2 0 2 (.v 4))) <|
    .st (.act none (.px (some 3) (.mv (.c (.bool false))))) .done) (.ret)
@[simp] def W15_3 := @C.wpe _ _ K15_3.eq_1
def K15_4 : C := .cond 4 (.v 6) K15_3 (.skip)
@[simp] def W15_4 := @C.wpe _ _ K15_4.eq_1
def K15_5 : Pl := .st (.act none (.px (some 6) (.un .not (.v 5)))) .done
@[simp] def W15_5 := @Pl.wpe _ _ K15_5.eq_1
def K15_6 : C := .seq (.seq (.pl <| .st (.ext 4 3) <|
    .st (.act none (.pget (some 4) none 1 0 (some 2))) <|
    .st (.act none (.ex (some 5) (.call fn_impl_SystemValid [.v 4]))) K15_5) K15_4) K15_2
@[simp] def W15_6 := @C.wpe _ _ K15_6.eq_1
def B_impl_InitialState : C := .seq (.pl <| .st (.ext 4 0) <|
    .st (.act none (.pnew 1 (.v 0) [])) <|
    .st (.act none (.pnew 2 (.c (.agg #[.slice none 0 0, .slice none 0 0])) [])) <|
    .st (.act none (.px (some 3) (.mv (.c (.bool false))))) .done) K15_6
@[simp] def WB_impl_InitialState := @C.wpe _ _ B_impl_InitialState.eq_1
def R_impl_InitialState : FIR := ⟨B_impl_InitialState, 4, [(2, some (some 2)), (3, none)]⟩
theorem IR_impl_InitialState : cfun Tryz.prog H_impl_InitialState Tryz.f15 = some R_impl_InitialState := by kernel_rfl
theorem EN_impl_InitialState {args : List Value} {h : Heap} {k : Value → Heap → Prop} (hargs : args.length = 1) (hw : B_impl_InitialState.wp Tryz.prog (retQ [(2, some (some 2)), (3, none)] k) (env0 args 4) h) : CallE Tryz.prog fn_impl_InitialState args h k := enter Tryz.func15 rfl IR_impl_InitialState hargs hw

def H_impl_StateSame : Hint := ⟨[(0, false), (1, false), (2, true), (3, true), (4, false)], []⟩
def K22_1 : Pl := .st (.act none (.px (some 16) (.pick (.v 10) (.v 15) (.c (.bool false))))) <|
    .st (.act none (.px (some 4) (.mv (.v 16)))) .done
@[simp] def W22_1 := @Pl.wpe _ _ K22_1.eq_1
def K22_2 : Pl := .st (.act none (.px (some 10) (.mv (.v 9)))) <|
    .st (.act (some (.v 10, true)) (.als 11 none 2)) <|
    .st (.act (some (.v 10, true)) (.pget (some 12) (some 11) 2 1 none)) <|
    .st (.act (some (.v 10, true)) (.als 13 none 3)) <|
    .st (.act (some (.v 10, true)) (.pget (some 14) (some 13) 3 1 none)) <|
    .st (.act (some (.v 10, true)) (.ex (some 15) (.call fn_slices_Equal_S_int_int [.v 12, .v 14]))) K22_1
@[simp] def W22_2 := @Pl.wpe _ _ K22_2.eq_1
def K22_3 : C := .seq (.pl <| .st (.ext 5 12) <|
    .st (.act none (.als 5 none 2)) <|
    .st (.act none (.pget (some 6) (some 5) 2 0 none)) <|
    .st (.act none (.als 7 none 3)) <|
    .st (.act none (.pget (some 8) (some 7) 3 0 none)) <|
    .st (.act none (.ex (some 9) (.call fn_slices_Equal_S_int_int [.v 6, .v 8]))) K22_2) (.ret)
@[simp] def W22_3 := @C.wpe _ _ K22_3.eq_1
def B_impl_StateSame : C := .seq (.pl <| .st (.ext 5 0) <|
    .st (.act none (.pnew 2 (.v 0) [])) <|
    .st (.act none (.pnew 3 (.v 1) [])) <|
    .st (.act none (.px (some 4) (.mv (.c (.bool false))))) .done) K22_3
@[simp] def WB_impl_StateSame := @C.wpe _ _ B_impl_StateSame.eq_1
def R_impl_StateSame : FIR := ⟨B_impl_StateSame, 5, [(4, none)]⟩
theorem IR_impl_StateSame : cfun Tryz.prog H_impl_StateSame Tryz.f22 = some R_impl_StateSame := by kernel_rfl
theorem EN_impl_StateSame {args : List Value} {h : Heap} {k : Value → Heap → Prop} (hargs : args.length = 2) (hw : B_impl_StateSame.wp Tryz.prog (retQ [(4, none)] k) (env0 args 5) h) : CallE Tryz.prog fn_impl_StateSame args h k := enter Tryz.func22 rfl IR_impl_StateSame hargs hw

def H_impl_StateValid : Hint := ⟨[(0, false), (1, false), (2, true), (3, true), (4, false)], []⟩
def K36_1 : Pl := .st (.act none (.px (some 11) (.pick (.v 7) (.v 10) (.c (.bool false))))) <|
    .st (.act none (.px (some 4) (.mv (.v 11)))) .done
@[simp] def W36_1 := @Pl.wpe _ _ K36_1.eq_1
def K36_2 : Pl := .st (.act none (.px (some 7) (.mv (.v 6)))) <|
    .st (.act (some (.v 7, true)) (.pget (some 8) none 2 0 (some 2))) <|
    .st (.act (some (.v 7, true)) (.pget (some 9) none 3 0 (some 2))) <|
    .st (.act (some (.v 7, true)) (.ex (some 10) (.call fn_impl_System_has [.v 8, .v 9]))) K36_1
@[simp] def W36_2 := @Pl.wpe _ _ K36_2.eq_1
def K36_3 : C := .seq (.pl <| .st (.ext 5 7) <|
    .st (.act none (.pget (some 5) none 2 0 (some 2))) <|
    .st (.act none (.ex (some 6) (.call fn_impl_SystemValid [.v 5]))) K36_2) (.ret)
@[simp] def W36_3 := @C.wpe _ _ K36_3.eq_1
def B_impl_StateValid : C := .seq (.pl <| .st (.ext 5 0) <|
    .st (.act none (.pnew 2 (.v 0) [])) <|
    .st (.act none (.pnew 3 (.v 1) [])) <|
    .st (.act none (.px (some 4) (.mv (.c (.bool false))))) .done) K36_3
@[simp] def WB_impl_StateValid := @C.wpe _ _ B_impl_StateValid.eq_1
def R_impl_StateValid : FIR := ⟨B_impl_StateValid, 5, [(4, none)]⟩
theorem IR_impl_StateValid : cfun Tryz.prog H_impl_StateValid Tryz.f36 = some R_impl_StateValid := by kernel_rfl
theorem EN_impl_StateValid {args : List Value} {h : Heap} {k : Value → Heap → Prop} (hargs : args.length = 2) (hw : B_impl_StateValid.wp Tryz.prog (retQ [(4, none)] k) (env0 args 5) h) : CallE Tryz.prog fn_impl_StateValid args h k := enter Tryz.func36 rfl IR_impl_StateValid hargs hw

def H_impl_State_copyOf : Hint := ⟨[(0, false), (1, true), (2, true)], []⟩
def K93_1 : Pl := .st (.act none (.px (some 9) (.build [.slice none 0 0, .slice none 0 0] [(0, 1, .v 5), (1, 1, .v 8)]))) <|
    .st (.act none (.pset none 2 0 2 (.v 9))) .done
@[simp] def W93_1 := @Pl.wpe _ _ K93_1.eq_1
def K93_2 : Pl := .st (.act none (.ex (some 8) (.call fn_impl_clone_int [.v 7]))) K93_1
@[simp] def W93_2 := @Pl.wpe _ _ K93_2.eq_1
def K93_3 : C := .seq (.pl <| .st (.ext 3 7) <|
    .st (.act none (.als 3 none 1)) <|
    .st (.act none (.pget (some 4) (some 3) 1 0 none)) <|
    .st (.act none (.als 6 none 1)) <|
    .st (.act none (.pget (some 7) (some 6) 1 1 none)) <|
    .st (.act none (.ex (some 5) (.call fn_impl_clone_int [.v 4]))) K93_2) (.ret)
@[simp] def W93_3 := @C.wpe _ _ K93_3.eq_1
def B_impl_State_copyOf : C := .seq (.pl <| .st (.ext 3 0) <|
    .st (.act none (.pnew 1 (.v 0) [])) <|
    .st (.act none (.pnew 2 (.c (.agg #[.slice none 0 0, .slice none 0 0])) [])) .done) K93_3
@[simp] def WB_impl_State_copyOf := @C.wpe _ _ B_impl_State_copyOf.eq_1
def R_impl_State_copyOf : FIR := ⟨B_impl_State_copyOf, 3, [(2, some (some 2))]⟩
theorem IR_impl_State_copyOf : cfun Tryz.prog H_impl_State_copyOf Tryz.f93 = some R_impl_State_copyOf := by kernel_rfl
theorem EN_impl_State_copyOf {args : List Value} {h : Heap} {k : Value → Heap → Prop} (hargs : args.length = 1) (hw : B_impl_State_copyOf.wp Tryz.prog (retQ [(2, some (some 2))] k) (env0 args 3) h) : CallE Tryz.prog fn_impl_State_copyOf args h k := enter Tryz.func93 rfl IR_impl_State_copyOf hargs hw

def H_impl_State_take : Hint := ⟨[(0, false), (1, false), (2, false), (3, true), (5, true)], []⟩
def K94_1 : Pl := .st (.act none (.px (some 14) (.ia 1 (.v 6) (.v 8)))) <|
    .st (.act none (.ex none (.store 1 (.v 14) (.v 13)))) .done
@[simp] def W94_1 := @Pl.wpe _ _ K94_1.eq_1
def K94_2 : C := .pl <| .st (.ext 5 10) <|
    .st (.act none (.als 5 none 3)) <|
    .st (.act none (.pget (some 6) (some 5) 3 1 none)) <|
    .st (.act none (.als 7 none 4)) <|
    .st (.act none (.pget (some 8) (some 7) 4 5 none)) <|
    .st (.act none (.als 9 none 4)) <|
    .st (.act none (.pget (some 10) (some 9) 4 6 (some 3))) <|
    .st (.act none (.als 11 none 3)) <|
    .st (.act none (.pget (some 12) (some 11) 3 1 none)) <|
    .st (.act none (.ex (some 13) (.call fn_impl_Expr_eval [.v 10, .v 12]))) K94_1
@[simp] def W94_2 := @C.wpe _ _ K94_2.eq_1
def K94_3 : C := .cond 5 (.v 7) K94_2 (.skip)
@[simp] def W94_3 := @C.wpe _ _ K94_3.eq_1
def K94_4 : C := .seq (.pl <| .st (.ext 5 3) <|
    .st (.act none (.als 5 none 4)) <|
    .st (.act none (.pget (some 6) (some 5) 4 5 none)) <|
    .st (.act none (.px (some 7) (.bin .geq (.v 6) (.c (.int .i64 0))))) .done) K94_3
@[simp] def W94_4 := @C.wpe _ _ K94_4.eq_1
def K94_5 : C := .seq (.pl <| .st (.ext 5 6) <|
    .st (.act none (.als 5 none 3)) <|
    .st (.act none (.pget (some 6) (some 5) 3 0 none)) <|
    .st (.act none (.px (some 7) (.mv (.v 1)))) <|
    .st (.act none (.als 8 none 4)) <|
    .st (.act none (.pget (some 9) (some 8) 4 1 none)) <|
    .st (.act none (.px (some 10) (.ia 1 (.v 6) (.v 7)))) <|
    .st (.act none (.ex none (.store 1 (.v 10) (.v 9)))) .done) K94_4
@[simp] def W94_5 := @C.wpe _ _ K94_5.eq_1
def B_impl_State_take : C := .seq (.pl <| .st (.ext 5 0) <|
    .st (.act none (.pnew 3 (.v 0) [])) <|
    .st (.act none (.pnew 4 (.v 2) [])) .done) K94_5
@[simp] def WB_impl_State_take := @C.wpe _ _ B_impl_State_take.eq_1
def R_impl_State_take : FIR := ⟨B_impl_State_take, 5, []⟩
theorem IR_impl_State_take : cfun Tryz.prog H_impl_State_take Tryz.f94 = some R_impl_State_take := by kernel_rfl
theorem EN_impl_State_take {args : List Value} {h : Heap} {k : Value → Heap → Prop} (hargs : args.length = 3) (hw : B_impl_State_take.wp Tryz.prog (retQ [] k) (env0 args 5) h) : CallE Tryz.prog fn_impl_State_take args h k := enter Tryz.func94 rfl IR_impl_State_take hargs hw

def H_impl_SystemValid : Hint := ⟨[(0, false), (1, true), (2, false), (4, false), (17, false), (18, false), (19, false)], [[0, 1, 2, 3]]⟩
def K34_1 : C := .seq (.pl <| .st (.ext 7 0) <|
    .st (.act none (.px (some 2) (.mv (.c (.bool true))))) .done) (.ret)
@[simp] def W34_1 := @C.wpe _ _ K34_1.eq_1
def K34_2 : C := .pl <| .st (.ext 7 1) <|
    .st (.act none (.px (some 7) (.bin .add (.v 6) (.c (.int .i64 1))))) <|
    .st (.act none (.px (some 6) (.mv (.v 7)))) .done
@[simp] def W34_2 := @C.wpe _ _ K34_2.eq_1
def K34_3 : C := .seq (.pl <| .st (.ext 7 0) <|
    .st (.act none (.px (some 2) (.mv (.c (.bool false))))) .done) (.ret)
@[simp] def W34_3 := @C.wpe _ _ K34_3.eq_1
def K34_4 : C := .cond 7 (.v 22) K34_3 (.skip)
@[simp] def W34_4 := @C.wpe _ _ K34_4.eq_1
def K34_5 : Pl := .st (.act none (.px (some 22) (.pick (.v 17) (.c (.bool true)) (.v 21)))) .done
@[simp] def W34_5 := @Pl.wpe _ _ K34_5.eq_1
def K34_6 : Pl := .st (.act none (.px (some 10) (.un .not (.v 9)))) <|
    .st (.act none (.px (some 11) (.mv (.v 10)))) <|
    .st (.act (some (.v 11, false)) (.px (some 12) (.fa 1 (.v 3)))) <|
    .st (.act (some (.v 11, false)) (.ld (some 13) (.v 12) none)) <|
    .st (.act (some (.v 11, false)) (.px (some 14) (.lenV (.v 13)))) <|
    .st (.act (some (.v 11, false)) (.px (some 15) (.bin .gtr (.v 14) (.c (.int .i64 6))))) <|
    .st (.act none (.px (some 16) (.pick (.v 11) (.c (.bool true)) (.v 15)))) <|
    .st (.act none (.px (some 17) (.mv (.v 16)))) <|
    .st (.act (some (.v 17, false)) (.px (some 18) (.fa 1 (.v 3)))) <|
    .st (.act (some (.v 17, false)) (.ld (some 19) (.v 18) none)) <|
    .st (.act (some (.v 17, false)) (.px (some 20) (.mkf (.func fn_impl_SystemValid_1) [] [.v 3]))) <|
    .st (.act (some (.v 17, false)) (.ex (some 21) (.call fn_slices_ContainsFunc_S_impl_Edge_impl_Edge [.v 19, .v 20]))) K34_5
@[simp] def W34_6 := @Pl.wpe _ _ K34_6.eq_1
def K34_7 : C := .seq (.pl <| .st (.ext 7 16) <|
    .st (.act none (.px (some 7) (.fa 0 (.v 3)))) <|
    .st (.act none (.ld (some 8) (.v 7) none)) <|
    .st (.act none (.ex (some 9) (.call fn_impl_in [.v 8, .c (.int .i64 1), .c (.int .i64 4)]))) K34_6) K34_4
@[simp] def W34_7 := @C.wpe _ _ K34_7.eq_1
def K34_8 : Pl := .st (.act none (.ex none (.store 2 (.v 3) (.v 8)))) .done
@[simp] def W34_8 := @Pl.wpe _ _ K34_8.eq_1
def K34_9 : C := .seq (.block 1 (.seq (.pl <| .st (.ext 7 2) <|
    .st (.act none (.px (some 7) (.ia 2 (.v 4) (.v 6)))) <|
    .st (.act none (.ld (some 8) (.v 7) (some 2))) <|
    .st (.act none (.ex (some 3) (.alloc (.c (.agg #[.int .i64 0, .slice none 0 0]))))) K34_8) K34_7)) K34_2
@[simp] def W34_9 := @C.wpe _ _ K34_9.eq_1
def K34_10 : C := .seq (.cond 7 (.v 7) (.skip) (.exit 0)) K34_9
@[simp] def W34_10 := @C.wpe _ _ K34_10.eq_1
def K34_11 : C := .seq (.pl <| .st (.ext 7 1) <|
    .st (.act none (.px (some 7) (.bin .lss (.v 6) (.v 5)))) .done) K34_10
@[simp] def W34_11 := @C.wpe _ _ K34_11.eq_1
def K34_12 : C := .block 0 (.loop 7 [0, 1, 2, 3] K34_11)
@[simp] def W34_12 := @C.wpe _ _ K34_12.eq_1
def K34_13 : C := .seq (.seq (.pl <| .st (.ext 7 1) <|
    .st (.act none (.als 7 none 1)) <|
    .st (.act none (.pget (some 4) (some 7) 1 1 none)) <|
    .st (.act none (.px (some 5) (.lenV (.v 4)))) <|
    .st (.act none (.px (some 6) (.mv (.c (.int .i64 0))))) .done) K34_12) K34_1
@[simp] def W34_13 := @C.wpe _ _ K34_13.eq_1
def K34_14 : C := .seq (.pl <| .st (.ext 7 0) <|
    .st (.act none (.px (some 2) (.mv (.c (.bool false))))) .done) (.ret)
@[simp] def W34_14 := @C.wpe _ _ K34_14.eq_1
def K34_15 : C := .cond 7 (.v 17) K34_14 (.skip)
@[simp] def W34_15 := @C.wpe _ _ K34_15.eq_1
def K34_16 : Pl := .st (.act (some (.v 11, false)) (.px (some 16) (.un .not (.v 15)))) <|
    .st (.act none (.px (some 17) (.pick (.v 11) (.c (.bool true)) (.v 16)))) .done
@[simp] def W34_16 := @Pl.wpe _ _ K34_16.eq_1
def K34_17 : Pl := .st (.act none (.px (some 10) (.un .not (.v 9)))) <|
    .st (.act none (.px (some 11) (.mv (.v 10)))) <|
    .st (.act (some (.v 11, false)) (.als 12 none 1)) <|
    .st (.act (some (.v 11, false)) (.pget (some 13) (some 12) 1 1 none)) <|
    .st (.act (some (.v 11, false)) (.px (some 14) (.lenV (.v 13)))) <|
    .st (.act (some (.v 11, false)) (.ex (some 15) (.call fn_impl_in [.v 14, .c (.int .i64 1), .c (.int .i64 3)]))) K34_16
@[simp] def W34_17 := @Pl.wpe _ _ K34_17.eq_1
def K34_18 : C := .seq (.seq (.pl <| .st (.ext 7 11) <|
    .st (.act none (.als 7 none 1)) <|
    .st (.act none (.pget (some 8) (some 7) 1 0 none)) <|
    .st (.act none (.ex (some 9) (.call fn_impl_valsOk [.v 8]))) K34_17) K34_15) K34_13
@[simp] def W34_18 := @C.wpe _ _ K34_18.eq_1
def B_impl_SystemValid : C := .seq (.pl <| .st (.ext 7 0) <|
    .st (.act none (.pnew 1 (.v 0) [])) <|
    .st (.act none (.px (some 2) (.mv (.c (.bool false))))) .done) K34_18
@[simp] def WB_impl_SystemValid := @C.wpe _ _ B_impl_SystemValid.eq_1
def R_impl_SystemValid : FIR := ⟨B_impl_SystemValid, 7, [(2, none)]⟩
theorem IR_impl_SystemValid : cfun Tryz.prog H_impl_SystemValid Tryz.f34 = some R_impl_SystemValid := by kernel_rfl
theorem EN_impl_SystemValid {args : List Value} {h : Heap} {k : Value → Heap → Prop} (hargs : args.length = 1) (hw : B_impl_SystemValid.wp Tryz.prog (retQ [(2, none)] k) (env0 args 7) h) : CallE Tryz.prog fn_impl_SystemValid args h k := enter Tryz.func34 rfl IR_impl_SystemValid hargs hw

def H_impl_SystemValid_1 : Hint := ⟨[(0, false), (1, false), (2, true), (3, false)], []⟩
def K79_1 : Pl := .st (.act none (.px (some 8) (.un .not (.v 7)))) <|
    .st (.act none (.px (some 3) (.mv (.v 8)))) .done
@[simp] def W79_1 := @Pl.wpe _ _ K79_1.eq_1
def K79_2 : C := .seq (.pl <| .st (.ext 4 5) <|
    .st (.act none (.pget (some 4) none 2 0 (some 10))) <|
    .st (.act none (.px (some 5) (.fa 0 (.v 1)))) <|
    .st (.act none (.ld (some 6) (.v 5) none)) <|
    .st (.act none (.ex (some 7) (.call fn_impl_EdgeValid [.v 4, .v 6]))) K79_1) (.ret)
@[simp] def W79_2 := @C.wpe _ _ K79_2.eq_1
def B_impl_SystemValid_1 : C := .seq (.pl <| .st (.ext 4 0) <|
    .st (.act none (.pnew 2 (.v 0) [])) <|
    .st (.act none (.px (some 3) (.mv (.c (.bool false))))) .done) K79_2
@[simp] def WB_impl_SystemValid_1 := @C.wpe _ _ B_impl_SystemValid_1.eq_1
def R_impl_SystemValid_1 : FIR := ⟨B_impl_SystemValid_1, 4, [(3, none)]⟩
theorem IR_impl_SystemValid_1 : cfun Tryz.prog H_impl_SystemValid_1 Tryz.f79 = some R_impl_SystemValid_1 := by kernel_rfl
theorem EN_impl_SystemValid_1 {args : List Value} {h : Heap} {k : Value → Heap → Prop} (hargs : args.length = 2) (hw : B_impl_SystemValid_1.wp Tryz.prog (retQ [(3, none)] k) (env0 args 4) h) : CallE Tryz.prog fn_impl_SystemValid_1 args h k := enter Tryz.func79 rfl IR_impl_SystemValid_1 hargs hw

def H_impl_System_after : Hint := ⟨[(0, false), (1, false), (2, false), (3, true), (4, true), (5, true), (6, true), (7, true)], []⟩
def K47_1 : C := .seq (.pl <| .st (.ext 8 1) <|
    .st (.act none (.pget (some 8) none 7 0 (some 2))) <|
    .st (.act none (.pset none 6 0 2 (.v 8))) .done) (.ret)
@[simp] def W47_1 := @C.wpe _ _ K47_1.eq_1
def K47_2 : C := .pl <| .st (.ext 8 15) <|
    .st (.act none (.pget (some 8) none 7 0 (some 2))) <|
    .st (.act none (.als 9 none 5)) <|
    .st (.act none (.pget (some 10) (some 9) 5 2 none)) <|
    .st (.act none (.als 11 none 3)) <|
    .st (.act none (.pget (some 12) (some 11) 3 1 none)) <|
    .st (.act none (.als 13 none 5)) <|
    .st (.act none (.pget (some 14) (some 13) 5 2 none)) <|
    .st (.act none (.px (some 15) (.ia 2 (.v 12) (.v 14)))) <|
    .st (.act none (.px (some 16) (.fa 1 (.v 15)))) <|
    .st (.act none (.ld (some 17) (.v 16) none)) <|
    .st (.act none (.als 18 none 5)) <|
    .st (.act none (.pget (some 19) (some 18) 5 3 none)) <|
    .st (.act none (.px (some 20) (.ia 10 (.v 17) (.v 19)))) <|
    .st (.act none (.ld (some 21) (.v 20) (some 10))) <|
    .st (.act none (.ex (some 22) (.call fn_impl_State_take [.v 8, .v 10, .v 21]))) .done
@[simp] def W47_2 := @C.wpe _ _ K47_2.eq_1
def K47_3 : C := .cond 8 (.v 10) K47_2 (.skip)
@[simp] def W47_3 := @C.wpe _ _ K47_3.eq_1
def K47_4 : C := .seq (.seq (.pl <| .st (.ext 8 3) <|
    .st (.act none (.als 8 none 5)) <|
    .st (.act none (.pget (some 9) (some 8) 5 2 none)) <|
    .st (.act none (.px (some 10) (.bin .geq (.v 9) (.c (.int .i64 0))))) .done) K47_3) K47_1
@[simp] def W47_4 := @C.wpe _ _ K47_4.eq_1
def K47_5 : C := .seq (.pl <| .st (.ext 8 15) <|
    .st (.act none (.pget (some 8) none 7 0 (some 2))) <|
    .st (.act none (.als 9 none 5)) <|
    .st (.act none (.pget (some 10) (some 9) 5 0 none)) <|
    .st (.act none (.als 11 none 3)) <|
    .st (.act none (.pget (some 12) (some 11) 3 1 none)) <|
    .st (.act none (.als 13 none 5)) <|
    .st (.act none (.pget (some 14) (some 13) 5 0 none)) <|
    .st (.act none (.px (some 15) (.ia 2 (.v 12) (.v 14)))) <|
    .st (.act none (.px (some 16) (.fa 1 (.v 15)))) <|
    .st (.act none (.ld (some 17) (.v 16) none)) <|
    .st (.act none (.als 18 none 5)) <|
    .st (.act none (.pget (some 19) (some 18) 5 1 none)) <|
    .st (.act none (.px (some 20) (.ia 10 (.v 17) (.v 19)))) <|
    .st (.act none (.ld (some 21) (.v 20) (some 10))) <|
    .st (.act none (.ex (some 22) (.call fn_impl_State_take [.v 8, .v 10, .v 21]))) .done) K47_4
@[simp] def W47_5 := @C.wpe _ _ K47_5.eq_1
def K47_6 : Pl := .st (.act none (.pnew 7 (.c (.agg #[.slice none 0 0, .slice none 0 0])) [])) <|
    .st (.act none (.pset none 7 0 2 (.v 9))) .done
@[simp] def W47_6 := @Pl.wpe _ _ K47_6.eq_1
def K47_7 : C := .seq (.pl <| .st (.ext 8 2) <|
    .st (.act none (.pget (some 8) none 4 0 (some 2))) <|
    .st (.act none (.ex (some 9) (.call fn_impl_State_copyOf [.v 8]))) K47_6) K47_5
@[simp] def W47_7 := @C.wpe _ _ K47_7.eq_1
def B_impl_System_after : C := .seq (.pl <| .st (.ext 8 0) <|
    .st (.act none (.pnew 3 (.v 0) [])) <|
    .st (.act none (.pnew 4 (.v 1) [])) <|
    .st (.act none (.pnew 5 (.v 2) [])) <|
    .st (.act none (.pnew 6 (.c (.agg #[.slice none 0 0, .slice none 0 0])) [])) .done) K47_7
@[simp] def WB_impl_System_after := @C.wpe _ _ B_impl_System_after.eq_1
def R_impl_System_after : FIR := ⟨B_impl_System_after, 8, [(6, some (some 2))]⟩
theorem IR_impl_System_after : cfun Tryz.prog H_impl_System_after Tryz.f47 = some R_impl_System_after := by kernel_rfl
theorem EN_impl_System_after {args : List Value} {h : Heap} {k : Value → Heap → Prop} (hargs : args.length = 3) (hw : B_impl_System_after.wp Tryz.prog (retQ [(6, some (some 2))] k) (env0 args 8) h) : CallE Tryz.prog fn_impl_System_after args h k := enter Tryz.func47 rfl IR_impl_System_after hargs hw

def H_impl_System_build : Hint := ⟨[(0, false), (1, true), (2, true), (3, false), (4, true), (5, false), (6, false), (8, true), (9, false), (10, false), (28, false), (29, false), (30, false)], [[0, 3, 6, 7, 8, 9, 10, 11, 12], [0, 3, 7, 8, 9]]⟩
def K35_1 : Pl := .st (.act none (.px (some 19) (.build [.slice none 0 0, .slice none 0 0] [(0, 1, .v 15), (1, 1, .v 18)]))) <|
    .st (.act none (.pset none 2 0 2 (.v 19))) <|
    .st (.act none (.px (some 3) (.mv (.c (.bool true))))) .done
@[simp] def W35_1 := @Pl.wpe _ _ K35_1.eq_1
def K35_2 : Pl := .st (.act none (.ex (some 18) (.call fn_slices_Clip_S_S_int_S_int [.v 17]))) K35_1
@[simp] def W35_2 := @Pl.wpe _ _ K35_2.eq_1
def K35_3 : C := .seq (.pl <| .st (.ext 13 7) <|
    .st (.act none (.als 13 none 4)) <|
    .st (.act none (.pget (some 14) (some 13) 4 0 none)) <|
    .st (.act none (.als 16 none 4)) <|
    .st (.act none (.pget (some 17) (some 16) 4 1 none)) <|
    .st (.act none (.ex (some 15) (.call fn_slices_Clip_S_impl_State_impl_State [.v 14]))) K35_2) (.ret)
@[simp] def W35_3 := @C.wpe _ _ K35_3.eq_1
def K35_4 : C := .pl <| .st (.ext 13 2) <|
    .st (.act none (.px (some 13) (.mv (.v 5)))) <|
    .st (.act none (.px (some 14) (.bin .add (.v 13) (.c (.int .i64 1))))) <|
    .st (.act none (.px (some 5) (.mv (.v 14)))) .done
@[simp] def W35_4 := @C.wpe _ _ K35_4.eq_1
def K35_5 : C := .seq (.pl <| .st (.ext 13 1) <|
    .st (.act none (.px (some 13) (.build [.slice none 0 0, .slice none 0 0] []))) <|
    .st (.act none (.pset none 2 0 2 (.v 13))) <|
    .st (.act none (.px (some 3) (.mv (.c (.bool false))))) .done) (.ret)
@[simp] def W35_5 := @C.wpe _ _ K35_5.eq_1
def K35_6 : C := .cond 13 (.v 16) K35_5 (.skip)
@[simp] def W35_6 := @C.wpe _ _ K35_6.eq_1
def K35_7 : C := .seq (.pl <| .st (.ext 13 4) <|
    .st (.act none (.als 13 none 4)) <|
    .st (.act none (.pget (some 14) (some 13) 4 0 none)) <|
    .st (.act none (.px (some 15) (.lenV (.v 14)))) <|
    .st (.act none (.px (some 16) (.bin .gtr (.v 15) (.c (.int .i64 60))))) .done) K35_6
@[simp] def W35_7 := @C.wpe _ _ K35_7.eq_1
def K35_8 : Pl := .st (.act none (.als 19 none 4)) <|
    .st (.act none (.pset (some 19) 4 1 1 (.v 18))) .done
@[simp] def W35_8 := @Pl.wpe _ _ K35_8.eq_1
def K35_9 : Pl := .st (.act none (.psl 17 [.slice none 0 0] [(0, 1, .v 16)])) <|
    .st (.act none (.ex (some 18) (.app 24 1 [.slice none 0 0] (.o (.v 14)) (.p 1 17)))) K35_8
@[simp] def W35_9 := @Pl.wpe _ _ K35_9.eq_1
def K35_10 : C := .seq (.pl <| .st (.ext 13 7) <|
    .st (.act none (.als 13 none 4)) <|
    .st (.act none (.pget (some 14) (some 13) 4 1 none)) <|
    .st (.act none (.px (some 15) (.mv (.v 6)))) <|
    .st (.act none (.ex (some 16) (.call fn_slices_Clip_S_int_int [.v 15]))) K35_9) K35_7
@[simp] def W35_10 := @C.wpe _ _ K35_10.eq_1
def K35_11 : Pl := .st (.act none (.px (some 6) (.mv (.v 14)))) .done
@[simp] def W35_11 := @Pl.wpe _ _ K35_11.eq_1
def K35_12 : C := .pl <| .st (.ext 13 2) <|
    .st (.act none (.px (some 13) (.mv (.v 5)))) <|
    .st (.act none (.ex (some 14) (.bls 1 1 [.int .i64 0] [(0, 1, .v 13)]))) K35_11
@[simp] def W35_12 := @C.wpe _ _ K35_12.eq_1
def K35_13 : C := .cond 13 (.v 15) K35_12 (.skip)
@[simp] def W35_13 := @C.wpe _ _ K35_13.eq_1
def K35_14 : C := .seq (.seq (.pl <| .st (.ext 13 3) <|
    .st (.act none (.px (some 13) (.mv (.v 6)))) <|
    .st (.act none (.px (some 14) (.lenV (.v 13)))) <|
    .st (.act none (.px (some 15) (.bin .eql (.v 14) (.c (.int .i64 0))))) .done) K35_13) K35_10
@[simp] def W35_14 := @C.wpe _ _ K35_14.eq_1
def K35_15 : C := .pl <| .st (.ext 13 1) <|
    .st (.act none (.px (some 13) (.bin .add (.v 12) (.c (.int .i64 1))))) <|
    .st (.act none (.px (some 12) (.mv (.v 13)))) .done
@[simp] def W35_15 := @C.wpe _ _ K35_15.eq_1
def K35_16 : Pl := .st (.act none (.px (some 6) (.mv (.v 16)))) .done
@[simp] def W35_16 := @Pl.wpe _ _ K35_16.eq_1
def K35_17 : C := .pl <| .st (.ext 13 4) <|
    .st (.act none (.px (some 13) (.mv (.v 6)))) <|
    .st (.act none (.px (some 14) (.mv (.v 9)))) <|
    .st (.act none (.psl 15 [.int .i64 0] [(0, 1, .v 14)])) <|
    .st (.act none (.ex (some 16) (.app 8 1 [.int .i64 0] (.o (.v 13)) (.p 1 15)))) K35_16
@[simp] def W35_17 := @C.wpe _ _ K35_17.eq_1
def K35_18 : C := .cond 13 (.v 16) K35_17 (.skip)
@[simp] def W35_18 := @C.wpe _ _ K35_18.eq_1
def K35_19 : Pl := .st (.act none (.px (some 16) (.un .not (.v 15)))) .done
@[simp] def W35_19 := @Pl.wpe _ _ K35_19.eq_1
def K35_20 : C := .seq (.pl <| .st (.ext 13 4) <|
    .st (.act none (.px (some 13) (.mv (.v 6)))) <|
    .st (.act none (.px (some 14) (.mv (.v 9)))) <|
    .st (.act none (.ex (some 15) (.call fn_slices_Contains_S_int_int [.v 13, .v 14]))) K35_19) K35_18
@[simp] def W35_20 := @C.wpe _ _ K35_20.eq_1
def K35_21 : Pl := .st (.act none (.als 18 none 4)) <|
    .st (.act none (.pset (some 18) 4 0 1 (.v 17))) .done
@[simp] def W35_21 := @Pl.wpe _ _ K35_21.eq_1
def K35_22 : C := .pl <| .st (.ext 13 6) <|
    .st (.act none (.als 13 none 4)) <|
    .st (.act none (.pget (some 14) (some 13) 4 0 none)) <|
    .st (.act none (.ld (some 15) (.v 8) (some 2))) <|
    .st (.act none (.psl 16 [.slice none 0 0, .slice none 0 0] [(0, 2, .v 15)])) <|
    .st (.act none (.ex (some 17) (.app 48 2 [.slice none 0 0, .slice none 0 0] (.o (.v 14)) (.p 1 16)))) K35_21
@[simp] def W35_22 := @C.wpe _ _ K35_22.eq_1
def K35_23 : C := .seq (.pl <| .st (.ext 13 3) <|
    .st (.act none (.als 13 none 4)) <|
    .st (.act none (.pget (some 14) (some 13) 4 0 none)) <|
    .st (.act none (.px (some 15) (.lenV (.v 14)))) <|
    .st (.act none (.px (some 9) (.mv (.v 15)))) .done) K35_22
@[simp] def W35_23 := @C.wpe _ _ K35_23.eq_1
def K35_24 : C := .cond 13 (.v 14) K35_23 (.skip)
@[simp] def W35_24 := @C.wpe _ _ K35_24.eq_1
def K35_25 : C := .seq (.seq (.pl <| .st (.ext 13 2) <|
    .st (.act none (.px (some 13) (.mv (.v 9)))) <|
    .st (.act none (.px (some 14) (.bin .lss (.v 13) (.c (.int .i64 0))))) .done) K35_24) K35_20
@[simp] def W35_25 := @C.wpe _ _ K35_25.eq_1
def K35_26 : Pl := .st (.act none (.px (some 9) (.mv (.v 16)))) .done
@[simp] def W35_26 := @Pl.wpe _ _ K35_26.eq_1
def K35_27 : C := .seq (.pl <| .st (.ext 13 4) <|
    .st (.act none (.als 13 none 4)) <|
    .st (.act none (.pget (some 14) (some 13) 4 0 none)) <|
    .st (.act none (.px (some 15) (.mkf (.func fn_impl_System_build_1) [] [.v 8]))) <|
    .st (.act none (.ex (some 16) (.call fn_slices_IndexFunc_S_impl_State_impl_State [.v 14, .v 15]))) K35_26) K35_25
@[simp] def W35_27 := @C.wpe _ _ K35_27.eq_1
def K35_28 : Pl := .st (.re 18 (.v 17) (some 2) none) <|
    .st (.act none (.ex none (.store 2 (.v 8) (.v 20)))) .done
@[simp] def W35_28 := @Pl.wpe _ _ K35_28.eq_1
def K35_29 : Pl := .st (.act none (.ex (some 8) (.alloc (.c (.agg #[.slice none 0 0, .slice none 0 0]))))) K35_28
@[simp] def W35_29 := @Pl.wpe _ _ K35_29.eq_1
def K35_30 : Pl := .st (.act none (.ex (some 20) (.call fn_impl_System_after [.v 13, .v 18, .v 19]))) K35_29
@[simp] def W35_30 := @Pl.wpe _ _ K35_30.eq_1
def K35_31 : Pl := .st (.act none (.ex none (.store 2 (.v 8) (.v 20)))) .done
@[simp] def W35_31 := @Pl.wpe _ _ K35_31.eq_1
def K35_32 : Pl := .st (.re 18 (.v 17) (some 2) none) <|
    .st (.act none (.ex (some 20) (.call fn_impl_System_after [.v 13, .v 18, .v 19]))) K35_31
@[simp] def W35_32 := @Pl.wpe _ _ K35_32.eq_1
def K35_33 : Pl := .st (.act none (.ex (some 8) (.alloc (.c (.agg #[.slice none 0 0, .slice none 0 0]))))) K35_32
@[simp] def W35_33 := @Pl.wpe _ _ K35_33.eq_1
def K35_34 : C := .seq (.pl <| .st (.ext 13 8) <|
    .st (.act none (.pget (some 13) none 1 0 (some 2))) <|
    .st (.act none (.als 14 none 4)) <|
    .st (.act none (.pget (some 15) (some 14) 4 0 none)) <|
    .st (.act none (.px (some 16) (.mv (.v 5)))) <|
    .st (.act none (.px (some 17) (.ia 2 (.v 15) (.v 16)))) <|
    .st (.act none (.ld (some 18) (.v 17) (some 2))) <|
    .st (.act none (.pget (some 19) none 7 0 (some 4))) <|
    .both K35_30 K35_33) K35_27
@[simp] def W35_34 := @C.wpe _ _ K35_34.eq_1
def K35_35 : C := .seq (.block 3 (.seq (.pl <| .st (.ext 13 2) <|
    .st (.act none (.px (some 13) (.ia 4 (.v 10) (.v 12)))) <|
    .st (.act none (.ld (some 14) (.v 13) (some 4))) <|
    .st (.act none (.pnew 7 (.c (.agg #[.int .i64 0, .int .i64 0, .int .i64 0, .int .i64 0])) [])) <|
    .st (.act none (.pset none 7 0 4 (.v 14))) .done) K35_34)) K35_15
@[simp] def W35_35 := @C.wpe _ _ K35_35.eq_1
def K35_36 : C := .seq (.cond 13 (.v 13) (.skip) (.exit 2)) K35_35
@[simp] def W35_36 := @C.wpe _ _ K35_36.eq_1
def K35_37 : C := .seq (.pl <| .st (.ext 13 1) <|
    .st (.act none (.px (some 13) (.bin .lss (.v 12) (.v 11)))) .done) K35_36
@[simp] def W35_37 := @C.wpe _ _ K35_37.eq_1
def K35_38 : C := .block 2 (.loop 13 [0, 3, 7, 8, 9] K35_37)
@[simp] def W35_38 := @C.wpe _ _ K35_38.eq_1
def K35_39 : Pl := .st (.act none (.px (some 11) (.lenV (.v 10)))) <|
    .st (.act none (.px (some 12) (.mv (.c (.int .i64 0))))) <|
    .st (.re 18 (.v 17) (some 2) none) .done
@[simp] def W35_39 := @Pl.wpe _ _ K35_39.eq_1
def K35_40 : Pl := .st (.act none (.px (some 12) (.mv (.c (.int .i64 0))))) <|
    .st (.re 18 (.v 17) (some 2) none) <|
    .st (.act none (.px (some 11) (.lenV (.v 10)))) .done
@[simp] def W35_40 := @Pl.wpe _ _ K35_40.eq_1
def K35_41 : Pl := .both K35_39 K35_40
@[simp] def W35_41 := @Pl.wpe _ _ K35_41.eq_1
def K35_42 : Pl := .st (.act none (.ex (some 10) (.call fn_impl_System_enabled [.v 13, .v 18]))) K35_41
@[simp] def W35_42 := @Pl.wpe _ _ K35_42.eq_1
def K35_43 : Pl := .st (.act none (.px (some 11) (.lenV (.v 10)))) .done
@[simp] def W35_43 := @Pl.wpe _ _ K35_43.eq_1
def K35_44 : Pl := .st (.act none (.px (some 12) (.mv (.c (.int .i64 0))))) <|
    .st (.re 18 (.v 17) (some 2) none) <|
    .st (.act none (.ex (some 10) (.call fn_impl_System_enabled [.v 13, .v 18]))) K35_43
@[simp] def W35_44 := @Pl.wpe _ _ K35_44.eq_1
def K35_45 : C := .seq (.seq (.pl <| .st (.ext 13 6) <|
    .st (.act none (.pget (some 13) none 1 0 (some 2))) <|
    .st (.act none (.als 14 none 4)) <|
    .st (.act none (.pget (some 15) (some 14) 4 0 none)) <|
    .st (.act none (.px (some 16) (.mv (.v 5)))) <|
    .st (.act none (.px (some 17) (.ia 2 (.v 15) (.v 16)))) <|
    .st (.act none (.ld (some 18) (.v 17) (some 2))) <|
    .both K35_42 K35_44) K35_38) K35_14
@[simp] def W35_45 := @C.wpe _ _ K35_45.eq_1
def K35_46 : C := .seq (.block 1 (.seq (.pl <| .st (.ext 13 0) <|
    .st (.act none (.px (some 6) (.mv (.c (.slice none 0 0))))) .done) K35_45)) K35_4
@[simp] def W35_46 := @C.wpe _ _ K35_46.eq_1
def K35_47 : C := .cond 13 (.v 17) (.skip) (.exit 0)
@[simp] def W35_47 := @C.wpe _ _ K35_47.eq_1
def K35_48 : C := .seq (.seq (.pl <| .st (.ext 13 5) <|
    .st (.act none (.px (some 13) (.mv (.v 5)))) <|
    .st (.act none (.als 14 none 4)) <|
    .st (.act none (.pget (some 15) (some 14) 4 0 none)) <|
    .st (.act none (.px (some 16) (.lenV (.v 15)))) <|
    .st (.act none (.px (some 17) (.bin .lss (.v 13) (.v 16)))) .done) K35_47) K35_46
@[simp] def W35_48 := @C.wpe _ _ K35_48.eq_1
def K35_49 : C := .block 0 (.loop 13 [0, 3, 6, 7, 8, 9, 10, 11, 12] K35_48)
@[simp] def W35_49 := @C.wpe _ _ K35_49.eq_1
def K35_50 : C := .seq (.seq (.pl <| .st (.ext 13 0) <|
    .st (.act none (.px (some 5) (.mv (.c (.int .i64 0))))) .done) K35_49) K35_3
@[simp] def W35_50 := @C.wpe _ _ K35_50.eq_1
def K35_51 : Pl := .st (.act none (.px (some 16) (.build [.slice none 0 0, .slice none 0 0] [(0, 1, .v 15)]))) <|
    .st (.act none (.pnew 4 (.c (.agg #[.slice none 0 0, .slice none 0 0])) [])) <|
    .st (.act none (.pset none 4 0 2 (.v 16))) .done
@[simp] def W35_51 := @Pl.wpe _ _ K35_51.eq_1
def K35_52 : Pl := .st (.act none (.ex (some 15) (.bls 2 1 [.slice none 0 0, .slice none 0 0] [(0, 2, .v 14)]))) K35_51
@[simp] def W35_52 := @Pl.wpe _ _ K35_52.eq_1
def K35_53 : C := .seq (.pl <| .st (.ext 13 4) <|
    .st (.act none (.pget (some 13) none 1 0 (some 2))) <|
    .st (.act none (.ex (some 14) (.call fn_impl_System_initial [.v 13]))) K35_52) K35_50
@[simp] def W35_53 := @C.wpe _ _ K35_53.eq_1
def B_impl_System_build : C := .seq (.pl <| .st (.ext 13 0) <|
    .st (.act none (.pnew 1 (.v 0) [])) <|
    .st (.act none (.pnew 2 (.c (.agg #[.slice none 0 0, .slice none 0 0])) [])) <|
    .st (.act none (.px (some 3) (.mv (.c (.bool false))))) .done) K35_53
@[simp] def WB_impl_System_build := @C.wpe _ _ B_impl_System_build.eq_1
def R_impl_System_build : FIR := ⟨B_impl_System_build, 13, [(2, some (some 2)), (3, none)]⟩
theorem IR_impl_System_build : cfun Tryz.prog H_impl_System_build Tryz.f35 = some R_impl_System_build := by kernel_rfl
theorem EN_impl_System_build {args : List Value} {h : Heap} {k : Value → Heap → Prop} (hargs : args.length = 1) (hw : B_impl_System_build.wp Tryz.prog (retQ [(2, some (some 2)), (3, none)] k) (env0 args 13) h) : CallE Tryz.prog fn_impl_System_build args h k := enter Tryz.func35 rfl IR_impl_System_build hargs hw

def H_impl_System_build_1 : Hint := ⟨[(0, false), (1, false), (2, true), (3, false)], []⟩
def K81_1 : Pl := .st (.act none (.px (some 3) (.mv (.v 6)))) .done
@[simp] def W81_1 := @Pl.wpe _ _ K81_1.eq_1
def K81_2 : C := .seq (.pl <| .st (.ext 4 3) <|
    .st (.act none (.pget (some 4) none 2 0 (some 2))) <|
    .st (.act none (.ld (some 5) (.v 1) (some 2))) <|
    .st (.act none (.ex (some 6) (.call fn_impl_StateSame [.v 4, .v 5]))) K81_1) (.ret)
@[simp] def W81_2 := @C.wpe _ _ K81_2.eq_1
def B_impl_System_build_1 : C := .seq (.pl <| .st (.ext 4 0) <|
    .st (.act none (.pnew 2 (.v 0) [])) <|
    .st (.act none (.px (some 3) (.mv (.c (.bool false))))) .done) K81_2
@[simp] def WB_impl_System_build_1 := @C.wpe _ _ B_impl_System_build_1.eq_1
def R_impl_System_build_1 : FIR := ⟨B_impl_System_build_1, 4, [(3, none)]⟩
theorem IR_impl_System_build_1 : cfun Tryz.prog H_impl_System_build_1 Tryz.f81 = some R_impl_System_build_1 := by kernel_rfl
theorem EN_impl_System_build_1 {args : List Value} {h : Heap} {k : Value → Heap → Prop} (hargs : args.length = 2) (hw : B_impl_System_build_1.wp Tryz.prog (retQ [(3, none)] k) (env0 args 4) h) : CallE Tryz.prog fn_impl_System_build_1 args h k := enter Tryz.func81 rfl IR_impl_System_build_1 hargs hw

def H_impl_System_enabled : Hint := ⟨[(0, false), (1, false), (2, true), (3, true), (4, false), (5, false), (6, false), (7, true), (8, false), (9, true), (10, false), (11, true), (12, false), (13, true), (15, false), (16, false), (17, false), (23, false), (24, false), (25, false), (53, false), (54, false), (55, false), (61, false), (62, false), (63, false)], [[0, 1, 4, 6, 7, 8, 9, 10, 11, 12, 13, 17, 18, 19, 20, 21, 22, 23, 24, 25], [0, 1, 4, 7, 8, 9, 10, 11, 12, 13, 20, 21, 22, 23, 24, 25], [0, 1, 4, 7, 10, 11, 12, 13, 23, 24, 25], [0, 1, 4, 7, 11, 12, 13]]⟩
def K30_1 : Pl := .st (.act none (.px (some 4) (.mv (.v 27)))) .done
@[simp] def W30_1 := @Pl.wpe _ _ K30_1.eq_1
def K30_2 : C := .seq (.pl <| .st (.ext 26 2) <|
    .st (.act none (.px (some 26) (.mv (.v 5)))) <|
    .st (.act none (.ex (some 27) (.call fn_slices_Clip_S_impl_Step_impl_Step [.v 26]))) K30_1) (.ret)
@[simp] def W30_2 := @C.wpe _ _ K30_2.eq_1
def K30_3 : C := .pl <| .st (.ext 26 1) <|
    .st (.act none (.px (some 26) (.bin .add (.v 16) (.c (.int .i64 1))))) <|
    .st (.act none (.px (some 16) (.mv (.v 26)))) .done
@[simp] def W30_3 := @C.wpe _ _ K30_3.eq_1
def K30_4 : C := .pl <| .st (.ext 26 1) <|
    .st (.act none (.px (some 26) (.bin .add (.v 19) (.c (.int .i64 1))))) <|
    .st (.act none (.px (some 19) (.mv (.v 26)))) .done
@[simp] def W30_4 := @C.wpe _ _ K30_4.eq_1
def K30_5 : C := .pl <| .st (.ext 26 1) <|
    .st (.act none (.px (some 26) (.bin .add (.v 22) (.c (.int .i64 1))))) <|
    .st (.act none (.px (some 22) (.mv (.v 26)))) .done
@[simp] def W30_5 := @C.wpe _ _ K30_5.eq_1
def K30_6 : C := .pl <| .st (.ext 26 1) <|
    .st (.act none (.px (some 26) (.bin .add (.v 25) (.c (.int .i64 1))))) <|
    .st (.act none (.px (some 25) (.mv (.v 26)))) .done
@[simp] def W30_6 := @C.wpe _ _ K30_6.eq_1
def K30_7 : Pl := .st (.act none (.px (some 5) (.mv (.v 33)))) .done
@[simp] def W30_7 := @Pl.wpe _ _ K30_7.eq_1
def K30_8 : C := .pl <| .st (.ext 26 8) <|
    .st (.act none (.px (some 26) (.mv (.v 5)))) <|
    .st (.act none (.px (some 27) (.mv (.v 6)))) <|
    .st (.act none (.px (some 28) (.mv (.v 8)))) <|
    .st (.act none (.px (some 29) (.mv (.v 10)))) <|
    .st (.act none (.px (some 30) (.mv (.v 12)))) <|
    .st (.act none (.px (some 31) (.build [.int .i64 0, .int .i64 0, .int .i64 0, .int .i64 0] [(0, 1, .v 27), (1, 1, .v 28), (2, 1, .v 29), (3, 1, .v 30)]))) <|
    .st (.act none (.psl 32 [.int .i64 0, .int .i64 0, .int .i64 0, .int .i64 0] [(0, 4, .v 31)])) <|
    .st (.act none (.ex (some 33) (.app 32 4 [.int .i64 0, .int .i64 0, .int .i64 0, .int .i64 0] (.o (.v 26)) (.p 1 32)))) K30_7
@[simp] def W30_8 := @C.wpe _ _ K30_8.eq_1
def K30_9 : C := .cond 26 (.v 43) K30_8 (.skip)
@[simp] def W30_9 := @C.wpe _ _ K30_9.eq_1
def K30_10 : Pl := .st (.act none (.px (some 43) (.pick (.v 37) (.v 42) (.c (.bool false))))) .done
@[simp] def W30_10 := @Pl.wpe _ _ K30_10.eq_1
def K30_11 : C := .seq (.pl <| .st (.ext 26 18) <|
    .st (.act none (.px (some 26) (.mv (.v 10)))) <|
    .st (.act none (.px (some 27) (.mv (.v 6)))) <|
    .st (.act none (.px (some 28) (.bin .neq (.v 26) (.v 27)))) <|
    .st (.act none (.px (some 29) (.mv (.v 28)))) <|
    .st (.act (some (.v 29, true)) (.als 30 none 13)) <|
    .st (.act (some (.v 29, true)) (.pget (some 31) (some 30) 13 9 none)) <|
    .st (.act (some (.v 29, true)) (.als 32 none 9)) <|
    .st (.act (some (.v 29, true)) (.pget (some 33) (some 32) 9 9 none)) <|
    .st (.act (some (.v 29, true)) (.px (some 34) (.un .neg (.v 33)))) <|
    .st (.act (some (.v 29, true)) (.px (some 35) (.bin .eql (.v 31) (.v 34)))) <|
    .st (.act none (.px (some 36) (.pick (.v 29) (.v 35) (.c (.bool false))))) <|
    .st (.act none (.px (some 37) (.mv (.v 36)))) <|
    .st (.act (some (.v 37, true)) (.pget (some 38) none 2 0 (some 2))) <|
    .st (.act (some (.v 37, true)) (.pget (some 39) none 3 0 (some 2))) <|
    .st (.act (some (.v 37, true)) (.px (some 40) (.mv (.v 10)))) <|
    .st (.act (some (.v 37, true)) (.px (some 41) (.mv (.v 12)))) <|
    .st (.act (some (.v 37, true)) (.ex (some 42) (.call fn_impl_System_ready [.v 38, .v 39, .v 40, .v 41]))) K30_10) K30_9
@[simp] def W30_11 := @C.wpe _ _ K30_11.eq_1
def K30_12 : C := .seq (.block 8 (.seq (.pl <| .st (.ext 26 3) <|
    .st (.act none (.px (some 26) (.mv (.v 25)))) <|
    .st (.act none (.px (some 27) (.ia 10 (.v 23) (.v 25)))) <|
    .st (.act none (.ld (some 28) (.v 27) (some 10))) <|
    .st (.act none (.pnew 13 (.c (.agg #[.int .i64 0, .int .i64 0, .int .i64 0, .int .i64 0, .slice none 0 0, .int .i64 0, .int .i64 0, .int .i64 0, .slice none 0 0, .int .i64 0])) [])) <|
    .st (.act none (.px (some 12) (.mv (.v 26)))) <|
    .st (.act none (.pset none 13 0 10 (.v 28))) .done) K30_11)) K30_6
@[simp] def W30_12 := @C.wpe _ _ K30_12.eq_1
def K30_13 : C := .seq (.cond 26 (.v 26) (.skip) (.exit 7)) K30_12
@[simp] def W30_13 := @C.wpe _ _ K30_13.eq_1
def K30_14 : C := .seq (.pl <| .st (.ext 26 1) <|
    .st (.act none (.px (some 26) (.bin .lss (.v 25) (.v 24)))) .done) K30_13
@[simp] def W30_14 := @C.wpe _ _ K30_14.eq_1
def K30_15 : C := .block 7 (.loop 26 [0, 1, 4, 7, 11, 12, 13] K30_14)
@[simp] def W30_15 := @C.wpe _ _ K30_15.eq_1
def K30_16 : C := .seq (.pl <| .st (.ext 26 1) <|
    .st (.act none (.als 26 none 11)) <|
    .st (.act none (.pget (some 23) (some 26) 11 1 none)) <|
    .st (.act none (.px (some 24) (.lenV (.v 23)))) <|
    .st (.act none (.px (some 25) (.mv (.c (.int .i64 0))))) .done) K30_15
@[simp] def W30_16 := @C.wpe _ _ K30_16.eq_1
def K30_17 : C := .seq (.block 6 (.seq (.pl <| .st (.ext 26 3) <|
    .st (.act none (.px (some 26) (.mv (.v 22)))) <|
    .st (.act none (.px (some 27) (.ia 2 (.v 20) (.v 22)))) <|
    .st (.act none (.ld (some 28) (.v 27) (some 2))) <|
    .st (.act none (.pnew 11 (.c (.agg #[.int .i64 0, .slice none 0 0])) [])) <|
    .st (.act none (.px (some 10) (.mv (.v 26)))) <|
    .st (.act none (.pset none 11 0 2 (.v 28))) .done) K30_16)) K30_5
@[simp] def W30_17 := @C.wpe _ _ K30_17.eq_1
def K30_18 : C := .seq (.cond 26 (.v 26) (.skip) (.exit 5)) K30_17
@[simp] def W30_18 := @C.wpe _ _ K30_18.eq_1
def K30_19 : C := .seq (.pl <| .st (.ext 26 1) <|
    .st (.act none (.px (some 26) (.bin .lss (.v 22) (.v 21)))) .done) K30_18
@[simp] def W30_19 := @C.wpe _ _ K30_19.eq_1
def K30_20 : C := .block 5 (.loop 26 [0, 1, 4, 7, 10, 11, 12, 13, 23, 24, 25] K30_19)
@[simp] def W30_20 := @C.wpe _ _ K30_20.eq_1
def K30_21 : C := .seq (.pl <| .st (.ext 26 1) <|
    .st (.act none (.als 26 none 2)) <|
    .st (.act none (.pget (some 20) (some 26) 2 1 none)) <|
    .st (.act none (.px (some 21) (.lenV (.v 20)))) <|
    .st (.act none (.px (some 22) (.mv (.c (.int .i64 0))))) .done) K30_20
@[simp] def W30_21 := @C.wpe _ _ K30_21.eq_1
def K30_22 : Pl := .st (.act none (.px (some 5) (.mv (.v 31)))) .done
@[simp] def W30_22 := @Pl.wpe _ _ K30_22.eq_1
def K30_23 : C := .seq (.pl <| .st (.ext 26 6) <|
    .st (.act none (.px (some 26) (.mv (.v 5)))) <|
    .st (.act none (.px (some 27) (.mv (.v 6)))) <|
    .st (.act none (.px (some 28) (.mv (.v 8)))) <|
    .st (.act none (.px (some 29) (.build [.int .i64 0, .int .i64 0, .int .i64 0, .int .i64 0] [(0, 1, .v 27), (1, 1, .v 28), (2, 1, .c (.int .i64 (-1))), (3, 1, .c (.int .i64 (-1)))]))) <|
    .st (.act none (.psl 30 [.int .i64 0, .int .i64 0, .int .i64 0, .int .i64 0] [(0, 4, .v 29)])) <|
    .st (.act none (.ex (some 31) (.app 32 4 [.int .i64 0, .int .i64 0, .int .i64 0, .int .i64 0] (.o (.v 26)) (.p 1 30)))) K30_22) (.exit 3)
@[simp] def W30_23 := @C.wpe _ _ K30_23.eq_1
def K30_24 : C := .cond 26 (.v 29) K30_23 (.skip)
@[simp] def W30_24 := @C.wpe _ _ K30_24.eq_1
def K30_25 : C := .seq (.pl <| .st (.ext 26 4) <|
    .st (.act none (.als 26 none 9)) <|
    .st (.act none (.pget (some 27) (some 26) 9 9 none)) <|
    .st (.act none (.px (some 28) (.bin .eql (.v 27) (.c (.int .i64 0))))) <|
    .st (.act none (.px (some 29) (.mv (.v 28)))) .done) K30_24
@[simp] def W30_25 := @C.wpe _ _ K30_25.eq_1
def K30_26 : C := .cond 26 (.v 37) (.exit 3) K30_25
@[simp] def W30_26 := @C.wpe _ _ K30_26.eq_1
def K30_27 : Pl := .st (.act none (.px (some 31) (.un .not (.v 30)))) <|
    .st (.act none (.px (some 32) (.mv (.v 31)))) <|
    .st (.act (some (.v 32, false)) (.als 33 none 9)) <|
    .st (.act (some (.v 32, false)) (.pget (some 34) (some 33) 9 9 none)) <|
    .st (.act (some (.v 32, false)) (.px (some 35) (.bin .lss (.v 34) (.c (.int .i64 0))))) <|
    .st (.act none (.px (some 36) (.pick (.v 32) (.c (.bool true)) (.v 35)))) <|
    .st (.act none (.px (some 37) (.mv (.v 36)))) .done
@[simp] def W30_27 := @Pl.wpe _ _ K30_27.eq_1
def K30_28 : C := .seq (.block 4 (.seq (.pl <| .st (.ext 26 12) <|
    .st (.act none (.pget (some 26) none 2 0 (some 2))) <|
    .st (.act none (.pget (some 27) none 3 0 (some 2))) <|
    .st (.act none (.px (some 28) (.mv (.v 6)))) <|
    .st (.act none (.px (some 29) (.mv (.v 8)))) <|
    .st (.act none (.ex (some 30) (.call fn_impl_System_ready [.v 26, .v 27, .v 28, .v 29]))) K30_27) K30_26)) K30_21
@[simp] def W30_28 := @C.wpe _ _ K30_28.eq_1
def K30_29 : C := .seq (.block 3 (.seq (.pl <| .st (.ext 26 3) <|
    .st (.act none (.px (some 26) (.mv (.v 19)))) <|
    .st (.act none (.px (some 27) (.ia 10 (.v 17) (.v 19)))) <|
    .st (.act none (.ld (some 28) (.v 27) (some 10))) <|
    .st (.act none (.pnew 9 (.c (.agg #[.int .i64 0, .int .i64 0, .int .i64 0, .int .i64 0, .slice none 0 0, .int .i64 0, .int .i64 0, .int .i64 0, .slice none 0 0, .int .i64 0])) [])) <|
    .st (.act none (.px (some 8) (.mv (.v 26)))) <|
    .st (.act none (.pset none 9 0 10 (.v 28))) .done) K30_28)) K30_4
@[simp] def W30_29 := @C.wpe _ _ K30_29.eq_1
def K30_30 : C := .seq (.cond 26 (.v 26) (.skip) (.exit 2)) K30_29
@[simp] def W30_30 := @C.wpe _ _ K30_30.eq_1
def K30_31 : C := .seq (.pl <| .st (.ext 26 1) <|
    .st (.act none (.px (some 26) (.bin .lss (.v 19) (.v 18)))) .done) K30_30
@[simp] def W30_31 := @C.wpe _ _ K30_31.eq_1
def K30_32 : C := .block 2 (.loop 26 [0, 1, 4, 7, 8, 9, 10, 11, 12, 13, 20, 21, 22, 23, 24, 25] K30_31)
@[simp] def W30_32 := @C.wpe _ _ K30_32.eq_1
def K30_33 : C := .seq (.pl <| .st (.ext 26 1) <|
    .st (.act none (.als 26 none 7)) <|
    .st (.act none (.pget (some 17) (some 26) 7 1 none)) <|
    .st (.act none (.px (some 18) (.lenV (.v 17)))) <|
    .st (.act none (.px (some 19) (.mv (.c (.int .i64 0))))) .done) K30_32
@[simp] def W30_33 := @C.wpe _ _ K30_33.eq_1
def K30_34 : C := .seq (.block 1 (.seq (.pl <| .st (.ext 26 3) <|
    .st (.act none (.px (some 26) (.mv (.v 16)))) <|
    .st (.act none (.px (some 27) (.ia 2 (.v 14) (.v 16)))) <|
    .st (.act none (.ld (some 28) (.v 27) (some 2))) <|
    .st (.act none (.pnew 7 (.c (.agg #[.int .i64 0, .slice none 0 0])) [])) <|
    .st (.act none (.px (some 6) (.mv (.v 26)))) <|
    .st (.act none (.pset none 7 0 2 (.v 28))) .done) K30_33)) K30_3
@[simp] def W30_34 := @C.wpe _ _ K30_34.eq_1
def K30_35 : C := .seq (.cond 26 (.v 26) (.skip) (.exit 0)) K30_34
@[simp] def W30_35 := @C.wpe _ _ K30_35.eq_1
def K30_36 : C := .seq (.pl <| .st (.ext 26 1) <|
    .st (.act none (.px (some 26) (.bin .lss (.v 16) (.v 15)))) .done) K30_35
@[simp] def W30_36 := @C.wpe _ _ K30_36.eq_1
def K30_37 : C := .block 0 (.loop 26 [0, 1, 4, 6, 7, 8, 9, 10, 11, 12, 13, 17, 18, 19, 20, 21, 22, 23, 24, 25] K30_36)
@[simp] def W30_37 := @C.wpe _ _ K30_37.eq_1
def K30_38 : C := .seq (.seq (.pl <| .st (.ext 26 1) <|
    .st (.act none (.als 26 none 2)) <|
    .st (.act none (.pget (some 14) (some 26) 2 1 none)) <|
    .st (.act none (.px (some 15) (.lenV (.v 14)))) <|
    .st (.act none (.px (some 16) (.mv (.c (.int .i64 0))))) .done) K30_37) K30_2
@[simp] def W30_38 := @C.wpe _ _ K30_38.eq_1
def K30_39 : C := .seq (.pl <| .st (.ext 26 0) <|
    .st (.act none (.px (some 5) (.mv (.c (.slice none 0 0))))) .done) K30_38
@[simp] def W30_39 := @C.wpe _ _ K30_39.eq_1
def B_impl_System_enabled : C := .seq (.pl <| .st (.ext 26 0) <|
    .st (.act none (.pnew 2 (.v 0) [])) <|
    .st (.act none (.pnew 3 (.v 1) [])) <|
    .st (.act none (.px (some 4) (.mv (.c (.slice none 0 0))))) .done) K30_39
@[simp] def WB_impl_System_enabled := @C.wpe _ _ B_impl_System_enabled.eq_1
def R_impl_System_enabled : FIR := ⟨B_impl_System_enabled, 26, [(4, none)]⟩
theorem IR_impl_System_enabled : cfun Tryz.prog H_impl_System_enabled Tryz.f30 = some R_impl_System_enabled := by kernel_rfl
theorem EN_impl_System_enabled {args : List Value} {h : Heap} {k : Value → Heap → Prop} (hargs : args.length = 2) (hw : B_impl_System_enabled.wp Tryz.prog (retQ [(4, none)] k) (env0 args 26) h) : CallE Tryz.prog fn_impl_System_enabled args h k := enter Tryz.func30 rfl IR_impl_System_enabled hargs hw

def H_impl_System_has : Hint := ⟨[(0, false), (1, false), (2, true), (3, true), (4, false), (5, false), (6, false), (21, false), (22, false), (23, false)], [[0, 1, 3, 4, 5, 6]]⟩
def K86_1 : C := .seq (.pl <| .st (.ext 10 0) <|
    .st (.act none (.px (some 4) (.mv (.c (.bool true))))) .done) (.ret)
@[simp] def W86_1 := @C.wpe _ _ K86_1.eq_1
def K86_2 : C := .pl <| .st (.ext 10 1) <|
    .st (.act none (.px (some 10) (.bin .add (.v 9) (.c (.int .i64 1))))) <|
    .st (.act none (.px (some 9) (.mv (.v 10)))) .done
@[simp] def W86_2 := @C.wpe _ _ K86_2.eq_1
def K86_3 : C := .seq (.pl <| .st (.ext 10 0) <|
    .st (.act none (.px (some 4) (.mv (.c (.bool false))))) .done) (.ret)
@[simp] def W86_3 := @C.wpe _ _ K86_3.eq_1
def K86_4 : C := .cond 10 (.v 19) K86_3 (.skip)
@[simp] def W86_4 := @C.wpe _ _ K86_4.eq_1
def K86_5 : Pl := .st (.act none (.px (some 19) (.un .not (.v 18)))) .done
@[simp] def W86_5 := @Pl.wpe _ _ K86_5.eq_1
def K86_6 : C := .seq (.pl <| .st (.ext 10 10) <|
    .st (.act none (.px (some 10) (.mv (.v 6)))) <|
    .st (.act none (.als 11 none 2)) <|
    .st (.act none (.pget (some 12) (some 11) 2 1 none)) <|
    .st (.act none (.px (some 13) (.mv (.v 5)))) <|
    .st (.act none (.px (some 14) (.ia 2 (.v 12) (.v 13)))) <|
    .st (.act none (.px (some 15) (.fa 0 (.v 14)))) <|
    .st (.act none (.ld (some 16) (.v 15) none)) <|
    .st (.act none (.px (some 17) (.bin .sub (.v 16) (.c (.int .i64 1))))) <|
    .st (.act none (.ex (some 18) (.call fn_impl_in [.v 10, .c (.int .i64 0), .v 17]))) K86_5) K86_4
@[simp] def W86_6 := @C.wpe _ _ K86_6.eq_1
def K86_7 : C := .seq (.block 1 (.seq (.pl <| .st (.ext 10 3) <|
    .st (.act none (.px (some 10) (.mv (.v 9)))) <|
    .st (.act none (.px (some 11) (.ia 1 (.v 7) (.v 9)))) <|
    .st (.act none (.ld (some 12) (.v 11) none)) <|
    .st (.act none (.px (some 5) (.mv (.v 10)))) <|
    .st (.act none (.px (some 6) (.mv (.v 12)))) .done) K86_6)) K86_2
@[simp] def W86_7 := @C.wpe _ _ K86_7.eq_1
def K86_8 : C := .seq (.cond 10 (.v 10) (.skip) (.exit 0)) K86_7
@[simp] def W86_8 := @C.wpe _ _ K86_8.eq_1
def K86_9 : C := .seq (.pl <| .st (.ext 10 1) <|
    .st (.act none (.px (some 10) (.bin .lss (.v 9) (.v 8)))) .done) K86_8
@[simp] def W86_9 := @C.wpe _ _ K86_9.eq_1
def K86_10 : C := .block 0 (.loop 10 [0, 1, 3, 4, 5, 6] K86_9)
@[simp] def W86_10 := @C.wpe _ _ K86_10.eq_1
def K86_11 : C := .seq (.seq (.pl <| .st (.ext 10 1) <|
    .st (.act none (.als 10 none 3)) <|
    .st (.act none (.pget (some 7) (some 10) 3 0 none)) <|
    .st (.act none (.px (some 8) (.lenV (.v 7)))) <|
    .st (.act none (.px (some 9) (.mv (.c (.int .i64 0))))) .done) K86_10) K86_1
@[simp] def W86_11 := @C.wpe _ _ K86_11.eq_1
def K86_12 : C := .seq (.pl <| .st (.ext 10 0) <|
    .st (.act none (.px (some 4) (.mv (.c (.bool false))))) .done) (.ret)
@[simp] def W86_12 := @C.wpe _ _ K86_12.eq_1
def K86_13 : C := .cond 10 (.v 22) K86_12 (.skip)
@[simp] def W86_13 := @C.wpe _ _ K86_13.eq_1
def K86_14 : Pl := .st (.act (some (.v 17, false)) (.px (some 21) (.un .not (.v 20)))) <|
    .st (.act none (.px (some 22) (.pick (.v 17) (.c (.bool true)) (.v 21)))) .done
@[simp] def W86_14 := @Pl.wpe _ _ K86_14.eq_1
def K86_15 : C := .seq (.seq (.pl <| .st (.ext 10 13) <|
    .st (.act none (.als 10 none 3)) <|
    .st (.act none (.pget (some 11) (some 10) 3 0 none)) <|
    .st (.act none (.px (some 12) (.lenV (.v 11)))) <|
    .st (.act none (.als 13 none 2)) <|
    .st (.act none (.pget (some 14) (some 13) 2 1 none)) <|
    .st (.act none (.px (some 15) (.lenV (.v 14)))) <|
    .st (.act none (.px (some 16) (.bin .neq (.v 12) (.v 15)))) <|
    .st (.act none (.px (some 17) (.mv (.v 16)))) <|
    .st (.act (some (.v 17, false)) (.als 18 none 3)) <|
    .st (.act (some (.v 17, false)) (.pget (some 19) (some 18) 3 1 none)) <|
    .st (.act (some (.v 17, false)) (.ex (some 20) (.call fn_impl_valsOk [.v 19]))) K86_14) K86_13) K86_11
@[simp] def W86_15 := @C.wpe _ _ K86_15.eq_1
def B_impl_System_has : C := .seq (.pl <| .st (.ext 10 0) <|
    .st (.act none (.pnew 2 (.v 0) [])) <|
    .st (.act none (.pnew 3 (.v 1) [])) <|
    .st (.act none (.px (some 4) (.mv (.c (.bool false))))) .done) K86_15
@[simp] def WB_impl_System_has := @C.wpe _ _ B_impl_System_has.eq_1
def R_impl_System_has : FIR := ⟨B_impl_System_has, 10, [(4, none)]⟩
theorem IR_impl_System_has : cfun Tryz.prog H_impl_System_has Tryz.f86 = some R_impl_System_has := by kernel_rfl
theorem EN_impl_System_has {args : List Value} {h : Heap} {k : Value → Heap → Prop} (hargs : args.length = 2) (hw : B_impl_System_has.wp Tryz.prog (retQ [(4, none)] k) (env0 args 10) h) : CallE Tryz.prog fn_impl_System_has args h k := enter Tryz.func86 rfl IR_impl_System_has hargs hw

def H_impl_System_initial : Hint := ⟨[(0, false), (1, true), (2, true)], []⟩
def K45_1 : Pl := .st (.act none (.px (some 10) (.build [.slice none 0 0, .slice none 0 0] [(0, 1, .v 6), (1, 1, .v 9)]))) <|
    .st (.act none (.pset none 2 0 2 (.v 10))) .done
@[simp] def W45_1 := @Pl.wpe _ _ K45_1.eq_1
def K45_2 : Pl := .st (.act none (.ex (some 9) (.call fn_impl_clone_int [.v 8]))) K45_1
@[simp] def W45_2 := @Pl.wpe _ _ K45_2.eq_1
def K45_3 : Pl := .st (.act none (.ex (some 6) (.mks 8 1 [.int .i64 0] (.v 5) (.v 5)))) K45_2
@[simp] def W45_3 := @Pl.wpe _ _ K45_3.eq_1
def K45_4 : Pl := .st (.act none (.px (some 10) (.build [.slice none 0 0, .slice none 0 0] [(0, 1, .v 6), (1, 1, .v 9)]))) <|
    .st (.act none (.pset none 2 0 2 (.v 10))) .done
@[simp] def W45_4 := @Pl.wpe _ _ K45_4.eq_1
def K45_5 : Pl := .st (.act none (.ex (some 6) (.mks 8 1 [.int .i64 0] (.v 5) (.v 5)))) K45_4
@[simp] def W45_5 := @Pl.wpe _ _ K45_5.eq_1
def K45_6 : Pl := .st (.act none (.ex (some 9) (.call fn_impl_clone_int [.v 8]))) K45_5
@[simp] def W45_6 := @Pl.wpe _ _ K45_6.eq_1
def K45_7 : C := .seq (.pl <| .st (.ext 3 8) <|
    .st (.act none (.als 3 none 1)) <|
    .st (.act none (.pget (some 4) (some 3) 1 1 none)) <|
    .st (.act none (.px (some 5) (.lenV (.v 4)))) <|
    .st (.act none (.als 7 none 1)) <|
    .st (.act none (.pget (some 8) (some 7) 1 0 none)) <|
    .both K45_3 K45_6) (.ret)
@[simp] def W45_7 := @C.wpe _ _ K45_7.eq_1
def B_impl_System_initial : C := .seq (.pl <| .st (.ext 3 0) <|
    .st (.act none (.pnew 1 (.v 0) [])) <|
    .st (.act none (.pnew 2 (.c (.agg #[.slice none 0 0, .slice none 0 0])) [])) .done) K45_7
@[simp] def WB_impl_System_initial := @C.wpe _ _ B_impl_System_initial.eq_1
def R_impl_System_initial : FIR := ⟨B_impl_System_initial, 3, [(2, some (some 2))]⟩
theorem IR_impl_System_initial : cfun Tryz.prog H_impl_System_initial Tryz.f45 = some R_impl_System_initial := by kernel_rfl
theorem EN_impl_System_initial {args : List Value} {h : Heap} {k : Value → Heap → Prop} (hargs : args.length = 1) (hw : B_impl_System_initial.wp Tryz.prog (retQ [(2, some (some 2))] k) (env0 args 3) h) : CallE Tryz.prog fn_impl_System_initial args h k := enter Tryz.func45 rfl IR_impl_System_initial hargs hw

def H_impl_System_ready : Hint := ⟨[(0, false), (1, false), (2, false), (3, false), (4, true), (5, true), (8, false), (9, true)], []⟩
def K70_1 : Pl := .st (.act (some (.v 16, true)) (.px (some 22) (.bin .neq (.v 21) (.c (.int .i64 0))))) <|
    .st (.act none (.px (some 23) (.pick (.v 16) (.v 22) (.c (.bool false))))) <|
    .st (.act none (.px (some 6) (.mv (.v 23)))) .done
@[simp] def W70_1 := @Pl.wpe _ _ K70_1.eq_1
def K70_2 : C := .seq (.pl <| .st (.ext 8 16) <|
    .st (.act none (.als 8 none 5)) <|
    .st (.act none (.pget (some 9) (some 8) 5 0 none)) <|
    .st (.act none (.px (some 10) (.mv (.v 2)))) <|
    .st (.act none (.px (some 11) (.ia 1 (.v 9) (.v 10)))) <|
    .st (.act none (.ld (some 12) (.v 11) none)) <|
    .st (.act none (.als 13 none 7)) <|
    .st (.act none (.pget (some 14) (some 13) 7 0 none)) <|
    .st (.act none (.px (some 15) (.bin .eql (.v 12) (.v 14)))) <|
    .st (.act none (.px (some 16) (.mv (.v 15)))) <|
    .st (.act (some (.v 16, true)) (.als 17 none 7)) <|
    .st (.act (some (.v 16, true)) (.pget (some 18) (some 17) 7 2 (some 3))) <|
    .st (.act (some (.v 16, true)) (.als 19 none 5)) <|
    .st (.act (some (.v 16, true)) (.pget (some 20) (some 19) 5 1 none)) <|
    .st (.act (some (.v 16, true)) (.ex (some 21) (.call fn_impl_Expr_eval [.v 18, .v 20]))) K70_1) (.ret)
@[simp] def W70_2 := @C.wpe _ _ K70_2.eq_1
def K70_3 : C := .seq (.pl <| .st (.ext 8 9) <|
    .st (.act none (.als 8 none 4)) <|
    .st (.act none (.pget (some 9) (some 8) 4 1 none)) <|
    .st (.act none (.px (some 10) (.mv (.v 2)))) <|
    .st (.act none (.px (some 11) (.ia 2 (.v 9) (.v 10)))) <|
    .st (.act none (.px (some 12) (.fa 1 (.v 11)))) <|
    .st (.act none (.ld (some 13) (.v 12) none)) <|
    .st (.act none (.px (some 14) (.mv (.v 3)))) <|
    .st (.act none (.px (some 15) (.ia 10 (.v 13) (.v 14)))) <|
    .st (.act none (.ld (some 16) (.v 15) (some 10))) <|
    .st (.act none (.pnew 7 (.c (.agg #[.int .i64 0, .int .i64 0, .int .i64 0, .int .i64 0, .slice none 0 0, .int .i64 0, .int .i64 0, .int .i64 0, .slice none 0 0, .int .i64 0])) [])) <|
    .st (.act none (.pset none 7 0 10 (.v 16))) .done) K70_2
@[simp] def W70_3 := @C.wpe _ _ K70_3.eq_1
def B_impl_System_ready : C := .seq (.pl <| .st (.ext 8 0) <|
    .st (.act none (.pnew 4 (.v 0) [])) <|
    .st (.act none (.pnew 5 (.v 1) [])) <|
    .st (.act none (.px (some 6) (.mv (.c (.bool false))))) .done) K70_3
@[simp] def WB_impl_System_ready := @C.wpe _ _ B_impl_System_ready.eq_1
def R_impl_System_ready : FIR := ⟨B_impl_System_ready, 8, [(6, none)]⟩
theorem IR_impl_System_ready : cfun Tryz.prog H_impl_System_ready Tryz.f70 = some R_impl_System_ready := by kernel_rfl
theorem EN_impl_System_ready {args : List Value} {h : Heap} {k : Value → Heap → Prop} (hargs : args.length = 4) (hw : B_impl_System_ready.wp Tryz.prog (retQ [(6, none)] k) (env0 args 8) h) : CallE Tryz.prog fn_impl_System_ready args h k := enter Tryz.func70 rfl IR_impl_System_ready hargs hw

def H_impl_clone_int : Hint := ⟨[(0, false), (2, false)], []⟩
def K91_1 : Pl := .st (.act none (.px (some 1) (.mv (.v 4)))) .done
@[simp] def W91_1 := @Pl.wpe _ _ K91_1.eq_1
def K91_2 : Pl := .st (.act none (.ex (some 4) (.call fn_slices_Clip_S_int_int [.v 3]))) K91_1
@[simp] def W91_2 := @Pl.wpe _ _ K91_2.eq_1
def K91_3 : C := .seq (.pl <| .st (.ext 2 3) <|
    .st (.act none (.px (some 2) (.mv (.v 0)))) <|
    .st (.act none (.ex (some 3) (.call fn_slices_Clone_S_int_int [.v 2]))) K91_2) (.ret)
@[simp] def W91_3 := @C.wpe _ _ K91_3.eq_1
def B_impl_clone_int : C := .seq (.pl <| .st (.ext 2 0) <|
    .st (.act none (.px (some 1) (.mv (.c (.slice none 0 0))))) .done) K91_3
@[simp] def WB_impl_clone_int := @C.wpe _ _ B_impl_clone_int.eq_1
def R_impl_clone_int : FIR := ⟨B_impl_clone_int, 2, [(1, none)]⟩
theorem IR_impl_clone_int : cfun Tryz.prog H_impl_clone_int Tryz.f91 = some R_impl_clone_int := by kernel_rfl
theorem EN_impl_clone_int {args : List Value} {h : Heap} {k : Value → Heap → Prop} (hargs : args.length = 1) (hw : B_impl_clone_int.wp Tryz.prog (retQ [(1, none)] k) (env0 args 2) h) : CallE Tryz.prog fn_impl_clone_int args h k := enter Tryz.func91 rfl IR_impl_clone_int hargs hw

def H_impl_in : Hint := ⟨[(0, false), (1, false), (2, false), (6, false)], []⟩
def K48_1 : C := .seq (.pl <| .st (.ext 4 8) <|
    .st (.act none (.px (some 4) (.mv (.v 0)))) <|
    .st (.act none (.px (some 5) (.mv (.v 1)))) <|
    .st (.act none (.px (some 6) (.bin .geq (.v 4) (.v 5)))) <|
    .st (.act none (.px (some 7) (.mv (.v 6)))) <|
    .st (.act (some (.v 7, true)) (.px (some 8) (.mv (.v 0)))) <|
    .st (.act (some (.v 7, true)) (.px (some 9) (.mv (.v 2)))) <|
    .st (.act (some (.v 7, true)) (.px (some 10) (.bin .leq (.v 8) (.v 9)))) <|
    .st (.act none (.px (some 11) (.pick (.v 7) (.v 10) (.c (.bool false))))) <|
    .st (.act none (.px (some 3) (.mv (.v 11)))) .done) (.ret)
@[simp] def W48_1 := @C.wpe _ _ K48_1.eq_1
def B_impl_in : C := .seq (.pl <| .st (.ext 4 0) <|
    .st (.act none (.px (some 3) (.mv (.c (.bool false))))) .done) K48_1
@[simp] def WB_impl_in := @C.wpe _ _ B_impl_in.eq_1
def R_impl_in : FIR := ⟨B_impl_in, 4, [(3, none)]⟩
theorem IR_impl_in : cfun Tryz.prog H_impl_in Tryz.f48 = some R_impl_in := by kernel_rfl
theorem EN_impl_in {args : List Value} {h : Heap} {k : Value → Heap → Prop} (hargs : args.length = 3) (hw : B_impl_in.wp Tryz.prog (retQ [(3, none)] k) (env0 args 4) h) : CallE Tryz.prog fn_impl_in args h k := enter Tryz.func48 rfl IR_impl_in hargs hw


end Go.Proofs.YtonjglbachhdcaaGreat

/-
  Facts for the simplifier; loops; structures; marks; words as sets.
-/
namespace Go.Proofs.YtonjglbachhdcaaGreat
open Go
set_option linter.all false
set_option linter.unusedVariables false
set_option linter.unusedSimpArgs false
set_option linter.defProp false
set_option maxRecDepth 1000000
universe u

section
variable {α : Type} [Ty α] {h : Heap} {v : Value}
/-- the places of a slice's elements, and its length -/
theorem Rep.X {l : List α} (hr : Rep h v l) {n : Nat} (hn : n = Ty.sz α) : (∀ (kd : IntKind) (i : Nat), i < l.length → iaV n v (.int kd i) = some (elp n v i)) ∧ (∀ (kd : IntKind) (i : Int), 0 ≤ i → i < l.length → iaV n v (.int kd i) = some (elp n v i.toNat)) ∧ lenVV v = some (.int .i64 l.length) :=
  ⟨fun _ _ h1 => hr.ian hn h1, fun _ _ h0 h1 => hr.ia' hn h0 h1, hr.len⟩
end
section
variable {h : Heap} {v : Value}
theorem Rep.I {l : List Int} (hr : Rep h v l) : ((∀ (kd : IntKind) (i : Nat), i < l.length → iaV 1 v (.int kd i) = some (elp 1 v i)) ∧ (∀ (kd : IntKind) (i : Int), 0 ≤ i → i < l.length → iaV 1 v (.int kd i) = some (elp 1 v i.toNat)) ∧ lenVV v = some (.int .i64 l.length)) ∧
    ∀ (i : Nat) (hi : i < l.length), hload h (some (elp 1 v i)) none = some (.int .i64 l[i]) := ⟨hr.X rfl, fun _ hi => hr.ldI hi⟩
theorem Rep.B {l : List Bool} (hr : Rep h v l) : ((∀ (kd : IntKind) (i : Nat), i < l.length → iaV 1 v (.int kd i) = some (elp 1 v i)) ∧ (∀ (kd : IntKind) (i : Int), 0 ≤ i → i < l.length → iaV 1 v (.int kd i) = some (elp 1 v i.toNat)) ∧ lenVV v = some (.int .i64 l.length)) ∧
    ∀ (i : Nat) (hi : i < l.length), hload h (some (elp 1 v i)) none = some (.bool l[i]) := ⟨hr.X rfl, fun _ hi => hr.ldB hi⟩
theorem Rep.S {l : List ByteArray} (hr : Rep h v l) : ((∀ (kd : IntKind) (i : Nat), i < l.length → iaV 1 v (.int kd i) = some (elp 1 v i)) ∧ (∀ (kd : IntKind) (i : Int), 0 ≤ i → i < l.length → iaV 1 v (.int kd i) = some (elp 1 v i.toNat)) ∧ lenVV v = some (.int .i64 l.length)) ∧
    ∀ (i : Nat) (hi : i < l.length), hload h (some (elp 1 v i)) none = some (.string l[i]) := ⟨hr.X rfl, fun _ hi => hr.ldS hi⟩
/-- a list of lists: where an element's header lies -/
theorem Rep.ldL {α : Type} [Ty α] {l : List (List α)} (hr : Rep h v l) {i : Nat} (hi : i < l.length) : ∃ u, hload h (some (elp 1 v i)) none = some u ∧ Rep h u l[i] := hr.ld hi
end

theorem IteW.mkr {p A B : Prop} (h2 : ¬ p → B) (h1 : p → A) : IteW p A B := ⟨h1, h2⟩

/-- THE LOOP over a state of plain data: 'Enc s' says how the state lies in the environment and the memory; 'm' goes down -/
theorem wp_while {P : Program} {Q : Ex → Env → Heap → Prop} {e : Env} {h : Heap} {n : Nat} {fg : List Nat} {a : C} {σ : Type} (Enc : σ → Env → Heap → Prop) (m : σ → Nat) (s0 : σ) (h0 : Enc s0 (efgt (e.take n) fg) h)
    (hs : ∀ (J : Env → Heap → Prop) s e h, (∀ s' e h, m s' < m s → Enc s' e h → J e h) → Enc s e h → a.wp P (loopQ n fg J Q) e h) : (C.loop n fg a).wp P Q e h := by
  refine wp_loop (fun k e h => ∃ s, m s = k ∧ Enc s e h) ⟨_, s0, rfl, h0⟩ ?_
  rintro I' k e h hI ⟨s, rfl, hE⟩
  exact hs I' s e h (fun s' e h hlt hE => hI (m s') e h hlt ⟨s', rfl, hE⟩) hE

theorem own1 {α : Type} [Ty α] (ha : Ty.agg α = false) {r : Heap} {cs : List Value} {x : α} : Ty.own r cs x ↔ ∃ v, cs = [v] ∧ Own r v x := by
  constructor
  · intro ho
    have hl := Ty.len (Ty.own_rep ho)
    rw [Ty.one ha] at hl
    match cs, hl with
    | [v], _ => exact ⟨v, rfl, [v], by simp [valC, ha], ho⟩
  · rintro ⟨v, rfl, c, h1, h2⟩
    have hl := Ty.len (Ty.own_rep h2)
    rw [Ty.one ha] at hl
    match c, hl with
    | [u], _ => simp [valC, ha] at h1; subst h1; exact h2
theorem rep1 {α : Type} [Ty α] (ha : Ty.agg α = false) {r : Heap} {cs : List Value} {x : α} : Ty.rep r cs x ↔ ∃ v, cs = [v] ∧ Rep r v x := by
  constructor
  · intro ho
    have hl := Ty.len ho
    rw [Ty.one ha] at hl
    match cs, hl with
    | [v], _ => exact ⟨v, rfl, [v], by simp [valC, ha], ho⟩
  · rintro ⟨v, rfl, c, h1, h2⟩
    have hl := Ty.len h2
    rw [Ty.one ha] at hl
    match c, hl with
    | [u], _ => simp [valC, ha] at h1; subst h1; exact h2

section
variable {α : Type} [Ty α] {h : Heap} {v : Value} {l : List α} {i : Nat}
/-- one cell of an element -/
theorem Rep.fld [Flat α] (hr : Rep h v l) (hi : i < l.length) {n j : Nat} (hn : n = Ty.sz α) {u : Value} (hj : (Flat.enc l[i])[j]? = some u) : hload h (some (elpo n v i j)) none = some u := by
  subst hn
  obtain ⟨p, cap, rfl, hc, hp, hl⟩ := Rep_list.1 hr
  obtain ⟨b, off, vs, rfl, h1, h2⟩ := hl i hi
  rw [← (Flat.rep_iff.1 h2).1] at hj
  have := (hcells_get h1).2 j u hj
  simp [elpo, add_none, hload, this]
end

/-- a value of many cells, as it is put into a box and taken out -/
theorem Rep.A {α : Type} [Ty α] {h : Heap} {v : Value} {x : α} (hr : Rep h v x) (ha : Ty.agg α = true) {n : Nat} (hn : n = Ty.sz α) : pgetV (some v) 0 (some n) = some v ∧ v.cells.size = n ∧ allOne v.cells.toList = true ∧ Value.agg v.cells = v := by
  obtain ⟨cs, rfl, h1⟩ := hr
  have h2 := Ty.len h1
  have h3 := Ty.cell h1
  subst hn
  simp only [valC, ha, if_true]
  refine ⟨?_, by simpa using h2, ?_, rfl⟩
  · simp [h2]
  · rw [← allOne_eq]; simpa using h3

/-- owned, at its cells -/
def owC {α : Type} [Ty α] (cs : List Value) (x : α) : HP := fun r => Ty.own r cs x

section
variable {g h : Heap} {Γ : List HP}
theorem HS.join2 {p p1 p2 : HP} (H : HS g (p1 :: p2 :: Γ) h) (hp : ∀ r1 r2, Dj r1 r2 → p1 r1 → p2 r2 → p (r1.add r2)) : HS g (p :: Γ) h := by
  obtain ⟨g1, r1, rfl, d1, h1, g', r2, rfl, d2, h2, H⟩ := H
  obtain ⟨d3, d4⟩ := add_Dj.1 d1
  refine ⟨g', r1.add r2, ?_, Dj_add.2 ⟨d3, d2⟩, hp r1 r2 d4.symm h1 h2, H⟩
  rw [add_assoc, d4.comm]
theorem HS.unvia {α β : Type} [Ty β] (f : α → β) {v : Value} {x : α} (H : HS g (@ow α (Ty.via f) v x :: Γ) h) : ∃ cs : List Value, v = .agg cs.toArray ∧ HS g (owC cs (f x) :: Γ) h := by
  obtain ⟨g', r, rfl, d, ⟨cs, rfl, ho⟩, H⟩ := H
  exact ⟨cs, rfl, g', r, rfl, d, ho, H⟩
theorem HS.via {α β : Type} [Ty β] (f : α → β) {cs : List Value} {x : α} (H : HS g (owC cs (f x) :: Γ) h) : HS g (@ow α (Ty.via f) (.agg cs.toArray) x :: Γ) h :=
  H.imp fun _ ho => ⟨cs, rfl, ho⟩
theorem HS.unprod {α β : Type} [Ty α] [Ty β] {cs : List Value} {x : α} {y : β} (H : HS g (owC cs (x, y) :: Γ) h) : ∃ c1 c2, cs = c1 ++ c2 ∧ HS g (owC c1 x :: owC c2 y :: Γ) h := by
  obtain ⟨g', r, rfl, d, ⟨c1, c2, r1, r2, rfl, rfl, d2, h1, h2⟩, H⟩ := H
  obtain ⟨d3, d4⟩ := Dj_add.1 d
  exact ⟨c1, c2, rfl, g'.add r2, r1, by rw [add_assoc, d2.comm], add_Dj.2 ⟨d3, d2.symm⟩, h1, g', r2, rfl, d4, h2, H⟩
theorem HS.unone {α : Type} [Ty α] (ha : Ty.agg α = false) {cs : List Value} {x : α} (H : HS g (owC cs x :: Γ) h) : ∃ v, cs = [v] ∧ HS g (ow v x :: Γ) h := by
  obtain ⟨g', r, rfl, d, ho, H⟩ := H
  have ho2 : Ty.own r cs x := ho
  obtain ⟨v, rfl, h3⟩ := (own1 ha).1 ho2
  exact ⟨v, rfl, g', r, rfl, d, h3, H⟩
theorem HS.one {α : Type} [Ty α] (ha : Ty.agg α = false) {v : Value} {x : α} (H : HS g (ow v x :: Γ) h) : HS g (owC [v] x :: Γ) h := H.imp fun _ ho => (own1 ha).2 ⟨v, rfl, ho⟩
theorem HS.prod {α β : Type} [Ty α] [Ty β] (ha : Ty.agg α = false) {v : Value} {cs : List Value} {x : α} {y : β} (H : HS g (ow v x :: owC cs y :: Γ) h) : HS g (owC (v :: cs) (x, y) :: Γ) h :=
  H.join2 fun r1 r2 d h1 h2 => ⟨[v], cs, r1, r2, rfl, rfl, d, (own1 ha).2 ⟨v, rfl, h1⟩, h2⟩
end

/-- HOW MUCH a piece of data holds: the lengths of all its lists, added up -/
class Sz (α : Type) where
  sz : α → Nat
instance : Sz Int := ⟨fun _ => 0⟩
instance : Sz Bool := ⟨fun _ => 0⟩
def szL {α : Type} [Sz α] : List α → Nat
  | [] => 0
  | x :: l => Sz.sz x + szL l
instance instSzList {α : Type} [Sz α] : Sz (List α) := ⟨fun l => l.length + szL l⟩
/-- 'cnt': how many places are written; 'wr k': the piece of data with the places written over, from k on -/
class Mk (α : Type) where
  cnt : α → Nat
  wr : Int → α → α
  cnt_wr : ∀ k x, cnt (wr k x) = cnt x
  wr_wr : ∀ k j x, wr k (wr j x) = wr k x

def cntL {α : Type} [Mk α] : List α → Nat
  | [] => 0
  | x :: l => Mk.cnt x + cntL l
def mkL {α : Type} [Mk α] : Int → List α → List α
  | _, [] => []
  | k, x :: l => Mk.wr k x :: mkL (k + Mk.cnt x) l

section
variable {α : Type} [Mk α]
theorem cntL_mk : ∀ (k : Int) (l : List α), cntL (mkL k l) = cntL l
  | _, [] => rfl
  | k, x :: l => by simp [cntL, mkL, Mk.cnt_wr, cntL_mk (k + Mk.cnt x) l]
theorem mkL_mk : ∀ (k j : Int) (l : List α), mkL k (mkL j l) = mkL k l
  | _, _, [] => rfl
  | k, j, x :: l => by simp [mkL, Mk.cnt_wr, Mk.wr_wr, mkL_mk (k + Mk.cnt x) (j + Mk.cnt x) l]
@[simp] theorem mkL_length : ∀ (k : Int) (l : List α), (mkL k l).length = l.length
  | _, [] => rfl
  | k, x :: l => by simp [mkL, mkL_length (k + Mk.cnt x) l]
theorem mkL_get : ∀ (k : Int) (l : List α) (i : Nat) (hi : i < l.length), (mkL k l)[i]'(by simpa using hi) = Mk.wr (k + cntL (l.take i)) l[i]
  | _, [], i, hi => by simp at hi
  | k, x :: l, 0, _ => by simp [mkL, cntL]
  | k, x :: l, i + 1, hi => by
    simp only [mkL, List.getElem_cons_succ, List.take_succ_cons, cntL]
    rw [mkL_get (k + Mk.cnt x) l i (by simpa using hi)]
    congr 1
    push_cast
    omega
instance instMkList : Mk (List α) := ⟨cntL, mkL, cntL_mk, mkL_mk⟩
end

instance instMkInt : Mk Int := ⟨fun _ => 1, fun k _ => k, fun _ _ => rfl, fun _ _ _ => rfl⟩
instance instMkBool : Mk Bool := ⟨fun _ => 1, fun k _ => decide (k.tmod 3 = 0), fun _ _ => rfl, fun _ _ _ => rfl⟩
/-- how far the writing has come -/
structure Mkd {α : Type} [Mk α] (k : Int) (x y : List α) (i : Nat) : Prop where
  len : y.length = x.length
  done : y.take i = (mkL k x).take i
  rest : y.drop i = x.drop i

section
variable {α : Type} [Mk α] {k : Int} {x y : List α} {i : Nat}
theorem Mkd.zero : Mkd k x x 0 := ⟨rfl, rfl, rfl⟩
theorem Mkd.get (h : Mkd k x y i) (hi : i < x.length) : y[i]'(by rw [h.len]; exact hi) = x[i] := by
  have := congrArg (fun l => l[0]?) h.rest
  simp [List.getElem?_drop, hi, h.len] at this
  exact this
theorem Mkd.step (h : Mkd k x y i) (hi : i < x.length) : Mkd k x (y.set i (Mk.wr (k + cntL (x.take i)) x[i])) (i + 1) := by
  refine ⟨by simp [h.len], ?_, ?_⟩
  · have := take_set_succ (x := mkL k x) h.done (by simpa using hi) (by simpa using h.len)
    rwa [mkL_get k x i hi] at this
  · rw [List.drop_set_of_lt (by omega)]
    have := congrArg (List.drop 1) h.rest
    simpa [List.drop_drop] using this
theorem Mkd.all (h : Mkd k x y i) (hi : x.length ≤ i) : y = mkL k x := eq_of_take h.done (by simpa using hi) (by simpa using h.len)
end
theorem take_step {α : Type} {x y : List α} {i : Nat} (h : x.take i = y.take i) (h1 : i < x.length) (h2 : i < y.length) (he : x[i] = y[i]) : x.take (i + 1) = y.take (i + 1) := by
  rw [List.take_add_one, List.take_add_one, h, List.getElem?_eq_getElem h1, List.getElem?_eq_getElem h2, he]
/-- an amount to shift by is not negative -/
@[simp] theorem ite_lt_zero {α : Type} {b : Int} {x y : α} (h : 0 ≤ b) : (if b < 0 then x else y) = y := if_neg (by omega)

/- bits -/
def setB (a : BitVec 64) (j : Nat) : BitVec 64 := a ||| (1#64 <<< j)
def clrB (a : BitVec 64) (j : Nat) : BitVec 64 := a &&& ~~~(1#64 <<< j)
/-- eight words -/
structure W8 where
  l : List (BitVec 64)
  len : l.length = 8
def W8.zero : W8 := ⟨List.replicate 8 0, rfl⟩
def W8.put (w : W8) (j : Nat) (x : BitVec 64) : W8 := ⟨w.l.set j x, by simp [w.len]⟩
def W8.at (w : W8) (j : Nat) : BitVec 64 := w.l.getD j 0
def W8.enc (w : W8) : List Value := w.l.map fun b => .int .u64 b.toNat
instance instTyW8 : Ty W8 where
  agg := true
  sz := 8
  rep := fun _ cs x => cs = x.enc
  own := fun r cs x => r = Heap.nil ∧ cs = x.enc
  one := fun h => by simp at h
  len := by rintro h cs x rfl; simp [W8.enc, x.len]
  cell := by
    rintro h cs x rfl v hv
    simp only [W8.enc, List.mem_map] at hv
    obtain ⟨b, _, rfl⟩ := hv
    rfl
  mono := fun _ hr => hr
  own_rep := fun ho => ho.2
instance instFlatW8 : Flat W8 := ⟨W8.enc, fun _ => True, by simp [Ty.rep], by simp [Ty.own]⟩
theorem W8.enc_at (w : W8) {j : Nat} (hj : j < 8) : w.enc[j]? = some (.int .u64 (w.at j).toNat) := by
  have : j < w.l.length := by rw [w.len]; exact hj
  simp [W8.enc, W8.at, this]
section
variable {α : Type} [Ty α] {h : Heap} {v : Value} {l : List α} {i : Nat}
theorem Rep.iaA (hr : Rep h v l) (hi : i < l.length) {n m : Nat} {kd : IntKind} {j : Nat} (hj : j < m) : iaAV m 1 (elp n v i) (.int kd j) = some (elpo n v i j) := by
  obtain ⟨p, cap, rfl, hc, hp, hl⟩ := Rep_list.1 hr
  obtain ⟨b, off, vs, rfl, _⟩ := hl i hi
  have : (j : Int) < m := by omega
  simp [iaAV, elp, elpo, this]
/-- rows of words -/
theorem Rep.W {l : List W8} (hr : Rep h v l) : ((∀ (kd : IntKind) (i : Nat), i < l.length → iaV 8 v (.int kd i) = some (elp 8 v i)) ∧ (∀ (kd : IntKind) (i : Int), 0 ≤ i → i < l.length → iaV 8 v (.int kd i) = some (elp 8 v i.toNat)) ∧ lenVV v = some (.int .i64 l.length)) ∧
    (∀ (kd : IntKind) (i j : Nat), i < l.length → j < 8 → iaAV 8 1 (elp 8 v i) (.int kd j) = some (elpo 8 v i j)) ∧
    ∀ (i j : Nat) (hi : i < l.length), j < 8 → hload h (some (elpo 8 v i j)) none = some (.int .u64 (l[i].at j).toNat) :=
  ⟨hr.X rfl, fun _ _ _ hi hj => hr.iaA hi hj, fun _ _ hi hj => hr.fld hi rfl (W8.enc_at _ hj)⟩
end

theorem Rep.isNil {α : Type} [Ty α] {h : Heap} {v : Value} {l : List α} (hr : Rep h v l) : ∃ b, isNilV false v = some (.bool b) ∧ (b = true → l = []) := by
  obtain ⟨p, cap, rfl, h1, h2, h3⟩ := Rep_list.1 hr
  refine ⟨p.isNone, rfl, fun hp => ?_⟩
  cases l with
  | nil => rfl
  | cons x l => obtain ⟨b, off, vs, h4, _⟩ := h3 0 (by simp); subst h4; simp at hp

theorem Own.clip {α : Type} [Ty α] {r : Heap} {v : Value} {l : List α} (O : Own r v l) {esz : Nat} {k : IntKind} :
    ∃ v', sliceVV esz v none (some (some (.int k l.length))) (some (some (.int k l.length))) = some v' ∧ Own r v' l := by
  rcases Own_list.1 O with ⟨p, rfl, rfl, rfl, hp⟩ | ⟨b, off, cap, cells, el, r', rfl, ⟨h1, hM⟩, h2, rfl, h4, h5⟩
  · refine ⟨.slice p 0 0, ?_, Own_list.2 (.inl ⟨p, rfl, rfl, rfl, hp⟩)⟩
    simp [sliceVV, bndV]
  · refine ⟨.slice (some ⟨b, off, none⟩) l.length l.length, ?_, Own_list.2 (.inr ⟨b, off, l.length, cells, el, r', rfl, ⟨Nat.le_refl _, hM⟩, ?_, rfl, h4, h5⟩)⟩
    · simp [sliceVV, bndV, add_none, h1]
    · have : l.length * Ty.sz α ≤ cap * Ty.sz α := Nat.mul_le_mul_right _ h1
      omega
theorem HS.clip {α : Type} [Ty α] {g h : Heap} {Γ : List HP} {v : Value} {l : List α} (H : HS g (ow v l :: Γ) h) {esz : Nat} {k : IntKind} :
    ∃ v', sliceVV esz v none (some (some (.int k l.length))) (some (some (.int k l.length))) = some v' ∧ HS g (ow v' l :: Γ) h := by
  obtain ⟨g', r, rfl, d, O, H⟩ := H
  obtain ⟨v', h1, O'⟩ := O.clip (esz := esz) (k := k)
  exact ⟨v', h1, g', r, rfl, d, O', H⟩
/-- a slice that is written out, without elements -/
theorem HS.bls0 {P : Program} {k : Env → Heap → Prop} {e : Env} {g h : Heap} {Γ : List HP} (H : HS g Γ h) (α : Type) [Ty α] {esz : Nat} {zero : List Value} {dst : Nat}
    (K : ∀ v' h', HS g (ow v' ([] : List α) :: Γ) h' → k (eset e dst (some v')) h') : (A.ex (some dst) (.bls esz 0 zero [])).wp P k e h := by
  refine ⟨[], rfl, fun b el hb => Fgt.keep ?_⟩
  rw [set_new hb]
  exact K _ _ ⟨h, _, rfl, Dj_one.2 hb, Own_list.2 (.inr ⟨b, 0, 0, [], el, Heap.nil, rfl, ⟨Nat.le_refl _, by simp⟩, by simp, by simp, rfl, rfl⟩), H⟩
@[simp] theorem faV_ptr {b o off : Nat} : faV off (.pointer (some ⟨b, o, none⟩)) = some (.pointer (some ⟨b, o + off, none⟩)) := by simp [faV, add_none]
attribute [simp] Option.bind_some

end Go.Proofs.YtonjglbachhdcaaGreat

/-
  Maps as pieces of the memory; pieces that are only read become part of what is read.
-/
namespace Go.Proofs.YtonjglbachhdcaaGreat
open Go
set_option linter.all false
set_option linter.unusedVariables false
set_option linter.unusedSimpArgs false
set_option linter.defProp false
set_option maxRecDepth 1000000

section
variable {g h : Heap} {Γ : List HP}
/-- the later pieces become part of what is only read -/
theorem HS.rebase : ∀ {Δ Γ : List HP} {h : Heap}, HS g (Δ ++ Γ) h → ∃ g1, HS g Γ g1 ∧ HS g1 Δ h
  | [], _, h, H => ⟨h, H, HS.init⟩
  | _ :: _, _, _, ⟨g', r, e, d, hp, H⟩ => by
    obtain ⟨g1, h1, h2⟩ := H.rebase
    exact ⟨g1, h1, g', r, e, d, hp, h2⟩
end

/- MAPS -/
/-- a map of its own: its entries as pairs, in the order in which they came -/
def mpo {κ ν : Type} (kf : κ → Value) (vf : ν → Value) (b : Nat) (l : List (κ × ν)) : HP := fun r => ∃ es clock, r = Heap.one b (.map es clock) ∧ es.toList.map (fun e => (e.key, e.val)) = l.map fun p => (kf p.1, vf p.2)
/-- what a key leads to -/
def mlk {κ ν : Type} [DecidableEq κ] (l : List (κ × ν)) (a : κ) : Option ν := (l.find? fun p => decide (p.1 = a)).map (·.2)
theorem mfind_spec {κ ν : Type} [DecidableEq κ] {kf : κ → Value} {vf : ν → Value} {kt : KT} (hkt : ∀ a b, keyEq kt (kf a) (kf b) = some (decide (a = b))) {a : κ} : ∀ {es : List MapEntry} {l : List (κ × ν)} {i0 : Nat}, es.map (fun e => (e.key, e.val)) = l.map (fun p => (kf p.1, vf p.2)) →
    ∃ i, mfind kt (kf a) es i0 = some ((mlk l a).map fun y => (i, vf y))
  | [], [], _, _ => ⟨0, rfl⟩
  | [], _ :: _, _, h => by simp at h
  | _ :: _, [], _, h => by simp at h
  | x :: es, p :: l, i0, h => by
    simp only [List.map_cons, List.cons.injEq, Prod.mk.injEq] at h
    obtain ⟨⟨h1, h2⟩, h3⟩ := h
    obtain ⟨i, hi⟩ := mfind_spec hkt (a := a) (i0 := i0 + 1) h3
    unfold mfind
    rw [h1, hkt, h2]
    by_cases he : a = p.1
    · subst he
      refine ⟨i0, ?_⟩
      simp [mlk]
    · refine ⟨i, ?_⟩
      simp only [he, decide_false]
      rw [hi]
      simp [mlk, List.find?_cons, Ne.symm he, show ¬ p.1 = a from fun e => he e.symm]
section
variable {P : Program} {k : Env → Heap → Prop} {e : Env} {g h : Heap} {Γ : List HP} {κ ν : Type} [DecidableEq κ] {kf : κ → Value} {vf : ν → Value} {b : Nat} {l : List (κ × ν)} {kt : KT}
theorem HS.mkm (H : HS g Γ h) (kf : κ → Value) (vf : ν → Value) {dst : Nat} (K : ∀ b h', HS g (mpo kf vf b [] :: Γ) h' → k (eset e dst (some (.map (some b)))) h') : (A.ex (some dst) .mkm).wp P k e h := by
  intro b hb
  refine Fgt.keep ?_
  rw [set_new hb]
  exact K _ _ ⟨h, _, rfl, Dj_one.2 hb, ⟨_, _, rfl, rfl⟩, H⟩
theorem HS.mget (H : HS g (mpo kf vf b l :: Γ) h) {zero : Value} {ok : Bool} {m x : O} {a : κ} {dst : Nat} (hm : m.get e = some (.map (some b))) (hx : x.get e = some (kf a)) (hkt : ∀ a b, keyEq kt (kf a) (kf b) = some (decide (a = b)))
    (K : k (eset e dst (some (if ok then .tuple #[((mlk l a).map vf).getD zero, .bool (mlk l a).isSome] else ((mlk l a).map vf).getD zero))) h) : (A.ex (some dst) (.mget kt zero ok m x)).wp P k e h := by
  obtain ⟨g', r, rfl, d, ⟨es, clock, rfl, hes⟩, H⟩ := H
  obtain ⟨i, hi⟩ := mfind_spec hkt (a := a) (i0 := 0) hes
  refine ⟨b, es, clock, kf a, _, hm, le_add' d _ _ (by simp [Heap.one]), hx, by rw [hkt]; rfl, hi, Fgt.keep ?_⟩
  cases hl : mlk l a with
  | none => rw [hl] at K; cases ok <;> exact K
  | some y => rw [hl] at K; cases ok <;> exact K
theorem HS.mput (H : HS g (mpo kf vf b l :: Γ) h) {m x y : O} {a : κ} {v : ν} (hm : m.get e = some (.map (some b))) (hx : x.get e = some (kf a)) (hy : y.get e = some (vf v)) (hkt : ∀ a b, keyEq kt (kf a) (kf b) = some (decide (a = b))) (hn : mlk l a = none)
    (K : ∀ h', HS g (mpo kf vf b (l ++ [(a, v)]) :: Γ) h' → k e h') : (A.ex none (.mput kt m x y)).wp P k e h := by
  obtain ⟨g', r, rfl, d, ⟨es, clock, rfl, hes⟩, H⟩ := H
  obtain ⟨i, hi⟩ := mfind_spec hkt (a := a) (i0 := 0) hes
  rw [hn] at hi
  refine ⟨b, es, clock, kf a, vf v, none, hm, le_add' d _ _ (by simp [Heap.one]), hx, hy, by rw [hkt]; rfl, hi, Fgt.keep ?_⟩
  refine K _ ⟨g', Heap.one b (.map (es.push { key := kf a, val := vf v, born := clock }) (clock + 1)), ?_, ?_, ⟨_, _, rfl, ?_⟩, H⟩
  · have hb := Dj_one.1 d
    rw [← set_new hb]
    rw [← set_new hb]
    funext z
    simp only [Heap.set]
    split <;> rfl
  · exact Dj_one.2 (Dj_one.1 d)
  · simp [hes]
theorem HS.mlen (H : HS g (mpo kf vf b l :: Γ) h) {m : O} {dst : Nat} (hm : m.get e = some (.map (some b))) (K : k (eset e dst (some (.int .i64 l.length))) h) : (A.ex (some dst) (.mlen m)).wp P k e h := by
  obtain ⟨g', r, rfl, d, ⟨es, clock, rfl, hes⟩, H⟩ := H
  have hl : es.size = l.length := by
    have := congrArg List.length hes
    simpa using this
  refine ⟨b, es, clock, hm, le_add' d _ _ (by simp [Heap.one]), Fgt.keep ?_⟩
  rw [hl]
  exact K
end
end Go.Proofs.YtonjglbachhdcaaGreat

/-
  Expressions: trees of numbers; edges, processes, systems: how they lie in cells.
-/
namespace Go.Proofs.YtonjglbachhdcaaGreat
open Go
set_option linter.all false
set_option linter.unusedVariables false
set_option linter.unusedSimpArgs false
set_option linter.defProp false
set_option maxRecDepth 1000000

section
variable {α : Type}
theorem repL_map {t t' : Ty α} {h : Heap} {p : Option Addr} {l : List α} (hs : t.sz = t'.sz) (hr : ∀ cs x, x ∈ l → t.rep h cs x → t'.rep h cs x) (H : @repL α t h p l) : @repL α t' h p l := by
  intro i hi
  obtain ⟨b, off, vs, h1, h2, h3⟩ := H i hi
  refine ⟨b, off, vs, h1, ?_, hr _ _ (List.getElem_mem hi) h3⟩
  have h2 : hcells h b (off + i * t.sz) t.sz = some vs := h2
  show hcells h b (off + i * t'.sz) t'.sz = some vs
  rw [← hs]; exact h2
theorem repS_map {t t' : Ty α} {h : Heap} {cs : List Value} {l : List α} (hs : t.sz = t'.sz) (hr : ∀ cs x, x ∈ l → t.rep h cs x → t'.rep h cs x) (H : @repS α t h cs l) : @repS α t' h cs l := by
  obtain ⟨p, cap, h1, h2, h3, h4⟩ := H
  exact ⟨p, cap, h1, h2, h3, repL_map hs hr h4⟩
theorem ownL_map {t t' : Ty α} (hs : t.sz = t'.sz) : ∀ {l : List α} {cs : List Value} {r : Heap}, (∀ r cs x, x ∈ l → t.own r cs x → t'.own r cs x) → @ownL α t l cs r → @ownL α t' l cs r
  | [], _, _, _, H => H
  | x :: l, cs, r, ho, ⟨r1, r2, h1, h2, h3, h4⟩ => by
    refine ⟨r1, r2, h1, h2, ?_, ?_⟩
    · have := ho r1 _ x (by simp) h3
      show t'.own r1 (cs.take t'.sz) x
      rw [← hs]; exact this
    · have := ownL_map hs (fun r cs x hx => ho r cs x (by simp [hx])) h4
      show @ownL α t' l (cs.drop t'.sz) r2
      rw [← hs]; exact this
theorem ownS_map {t t' : Ty α} (hs : t.sz = t'.sz) {l : List α} {cs : List Value} {r : Heap} (ho : ∀ r cs x, x ∈ l → t.own r cs x → t'.own r cs x) (H : @ownS α t r cs l) : @ownS α t' r cs l := by
  rcases H with h1 | ⟨b, off, cap, cells, el, r', h1, h2, h3, h4, h5, h6⟩
  · exact .inl h1
  · refine .inr ⟨b, off, cap, cells, el, r', h1, h2, ?_, h4, h5, ownL_map hs ho h6⟩
    have h3 : off + cap * t.sz ≤ cells.length := h3
    show off + cap * t'.sz ≤ cells.length
    rw [← hs]; exact h3
end

theorem exists_max {P : Nat → Nat → Prop} (hu : ∀ i n, P i n → P i (n + 1)) : ∀ m, (∀ i, i < m → ∃ n, P i n) → ∃ N, ∀ i, i < m → P i N
  | 0, _ => ⟨0, fun i hi => absurd hi (Nat.not_lt_zero i)⟩
  | m + 1, h => by
    have up : ∀ i n k, P i n → P i (n + k) := by
      intro i n k hp
      induction k with
      | zero => exact hp
      | succ k ih => exact hu _ _ ih
    obtain ⟨N, hN⟩ := exists_max hu m fun i hi => h i (by omega)
    obtain ⟨M, hM⟩ := h m (by omega)
    refine ⟨N + M, fun i hi => ?_⟩
    by_cases e : i = m
    · subst e; rw [Nat.add_comm]; exact up _ _ _ hM
    · exact up _ _ _ (hN i (by omega))

/-- an expression -/
inductive Exq where
  | mk (kind val : Int) (kids : List Exq)
namespace Exq
def kind : Exq → Int | .mk k _ _ => k
def val : Exq → Int | .mk _ v _ => v
def kids : Exq → List Exq | .mk _ _ l => l
@[simp] theorem kind_mk {k v : Int} {l : List Exq} : (Exq.mk k v l).kind = k := rfl
@[simp] theorem val_mk {k v : Int} {l : List Exq} : (Exq.mk k v l).val = v := rfl
@[simp] theorem kids_mk {k v : Int} {l : List Exq} : (Exq.mk k v l).kids = l := rfl
theorem ext_iff' {a b : Exq} : a = b ↔ a.kind = b.kind ∧ a.val = b.val ∧ a.kids = b.kids := by
  cases a; cases b; simp
theorem ind {p : Exq → Prop} (h : ∀ x : Exq, (∀ y ∈ x.kids, p y) → p x) : ∀ x, p x
  | .mk k v l => h _ fun y hy => ind h y
termination_by x => SizeOf.sizeOf x
decreasing_by
  have h1 : y ∈ l := hy
  have := List.sizeOf_lt_of_mem h1
  simp only [Exq.mk.sizeOf_spec]
  omega
def tup (x : Exq) : Int × Int × List Exq := (x.kind, x.val, x.kids)

@[reducible] def T0 : Ty Exq where
  agg := true
  sz := 3
  rep := fun _ _ _ => False
  own := fun _ _ _ => False
  one := fun h => by simp at h
  len := fun h => h.elim
  cell := fun h => h.elim
  mono := fun _ h => h
  own_rep := fun h => h.elim
/-- the product of the fields, where the kids lie as t says -/
@[reducible] def tyTup (t : Ty Exq) : Ty (Int × Int × List Exq) := @instTyProd Int (Int × List Exq) instTyInt (@instTyProd Int (List Exq) instTyInt (@instTyList Exq t))
@[reducible] def T : Nat → Ty Exq
  | 0 => T0
  | n + 1 => @Ty.via Exq (Int × Int × List Exq) (tyTup (T n)) tup
theorem T_sz : ∀ n, (T n).sz = 3
  | 0 => rfl
  | _ + 1 => rfl

theorem tup_rep {t t' : Ty Exq} (hs : t.sz = t'.sz) {h : Heap} {cs : List Value} {x : Exq} (hr : ∀ cs y, y ∈ x.kids → t.rep h cs y → t'.rep h cs y) (H : (tyTup t).rep h cs x.tup) : (tyTup t').rep h cs x.tup := by
  obtain ⟨c1, c2, e1, h1, c3, c4, e2, h2, h3⟩ := H
  exact ⟨c1, c2, e1, h1, c3, c4, e2, h2, repS_map hs hr h3⟩
theorem tup_own {t t' : Ty Exq} (hs : t.sz = t'.sz) {r : Heap} {cs : List Value} {x : Exq} (hr : ∀ r cs y, y ∈ x.kids → t.own r cs y → t'.own r cs y) (H : (tyTup t).own r cs x.tup) : (tyTup t').own r cs x.tup := by
  obtain ⟨c1, c2, r1, r2, e1, e2, d1, h1, c3, c4, r3, r4, e3, e4, d2, h2, h3⟩ := H
  exact ⟨c1, c2, r1, r2, e1, e2, d1, h1, c3, c4, r3, r4, e3, e4, d2, h2, ownS_map hs hr h3⟩
theorem rep_up : ∀ (n : Nat) {h : Heap} {cs : List Value} {x : Exq}, (T n).rep h cs x → (T (n + 1)).rep h cs x
  | 0, _, _, _, H => H.elim
  | n + 1, h, cs, x, H => tup_rep (t := T n) (t' := T (n + 1)) (by rw [T_sz, T_sz]) (fun _ _ _ => rep_up n) H
theorem own_up : ∀ (n : Nat) {r : Heap} {cs : List Value} {x : Exq}, (T n).own r cs x → (T (n + 1)).own r cs x
  | 0, _, _, _, H => H.elim
  | n + 1, h, cs, x, H => tup_own (t := T n) (t' := T (n + 1)) (by rw [T_sz, T_sz]) (fun _ _ _ _ => own_up n) H
theorem own_le {n m : Nat} (hle : n ≤ m) {r : Heap} {cs : List Value} {x : Exq} (H : (T n).own r cs x) : (T m).own r cs x := by
  obtain ⟨k, rfl⟩ := Nat.exists_eq_add_of_le hle
  induction k with
  | zero => exact H
  | succ k ih => exact own_up _ (ih (by omega))
end Exq

instance instTyExq : Ty Exq where
  agg := true
  sz := 3
  rep := fun h cs x => ∃ n, (Exq.T n).rep h cs x
  own := fun r cs x => ∃ n, (Exq.T n).own r cs x
  one := fun h => by simp at h
  len := fun ⟨n, h⟩ => ((Exq.T n).len h).trans (Exq.T_sz n)
  cell := fun ⟨n, h⟩ => (Exq.T n).cell h
  mono := fun hl ⟨n, h⟩ => ⟨n, (Exq.T n).mono hl h⟩
  own_rep := fun ⟨n, h⟩ => ⟨n, (Exq.T n).own_rep h⟩

namespace Exq
theorem rep_iff {h : Heap} {cs : List Value} {x : Exq} : Ty.rep h cs x ↔ Ty.rep h cs x.tup := by
  constructor
  · rintro ⟨n, H⟩
    cases n with
    | zero => exact H.elim
    | succ n => exact tup_rep (t := T n) (t' := instTyExq) (T_sz n) (fun _ _ _ h => ⟨n, h⟩) H
  · rintro ⟨c1, c2, e1, h1, c3, c4, e2, h2, p, cap, e3, h3, h4, hl⟩
    have hl : ∀ i, i < x.kids.length → ∃ n, ∃ (hi : i < x.kids.length), ∃ b off vs, p = some ⟨b, off, none⟩ ∧ hcells h b (off + i * 3) 3 = some vs ∧ (T n).rep h vs x.kids[i] := by
      intro i hi
      obtain ⟨b, off, vs, g1, g2, n, g3⟩ := hl i hi
      exact ⟨n, hi, b, off, vs, g1, g2, g3⟩
    obtain ⟨N, hN⟩ := exists_max (P := fun i n => ∃ (hi : i < x.kids.length), ∃ b off vs, p = some ⟨b, off, none⟩ ∧ hcells h b (off + i * 3) 3 = some vs ∧ (T n).rep h vs x.kids[i]) (fun i n ⟨hi, b, off, vs, g1, g2, g3⟩ => ⟨hi, b, off, vs, g1, g2, rep_up n g3⟩) _ hl
    refine ⟨N + 1, c1, c2, e1, h1, c3, c4, e2, h2, p, cap, e3, h3, h4, fun i hi => ?_⟩
    obtain ⟨_, b, off, vs, g1, g2, g3⟩ := hN i hi
    refine ⟨b, off, vs, g1, ?_, g3⟩
    show hcells h b (off + i * (T N).sz) (T N).sz = some vs
    rw [T_sz]; exact g2
theorem ownL_max : ∀ {l : List Exq} {cs : List Value} {r : Heap}, ownL l cs r → ∃ N, @ownL Exq (T N) l cs r
  | [], _, _, H => ⟨0, H⟩
  | x :: l, cs, r, ⟨r1, r2, h1, h2, ⟨n, h3⟩, h4⟩ => by
    obtain ⟨N, h5⟩ := ownL_max h4
    refine ⟨n + N, r1, r2, h1, h2, ?_, ?_⟩
    · show (T (n + N)).own r1 (cs.take (T (n + N)).sz) x
      rw [T_sz]; exact own_le (by omega) h3
    · show @ownL Exq (T (n + N)) l (cs.drop (T (n + N)).sz) r2
      rw [T_sz]; exact ownL_map (t := T N) (t' := T (n + N)) (by rw [T_sz, T_sz]) (fun _ _ _ _ => own_le (by omega)) h5
theorem own_iff {r : Heap} {cs : List Value} {x : Exq} : Ty.own r cs x ↔ Ty.own r cs x.tup := by
  constructor
  · rintro ⟨n, H⟩
    cases n with
    | zero => exact H.elim
    | succ n => exact tup_own (t := T n) (t' := instTyExq) (T_sz n) (fun _ _ _ _ h => ⟨n, h⟩) H
  · rintro ⟨c1, c2, r1, r2, e1, e2, d1, h1, c3, c4, r3, r4, e3, e4, d2, h2, h3⟩
    rcases h3 with h3 | ⟨b, off, cap, cells, el, r', g1, g2, g3, g4, g5, g6⟩
    · exact ⟨1, c1, c2, r1, r2, e1, e2, d1, h1, c3, c4, r3, r4, e3, e4, d2, h2, .inl h3⟩
    · obtain ⟨N, h7⟩ := ownL_max g6
      refine ⟨N + 1, c1, c2, r1, r2, e1, e2, d1, h1, c3, c4, r3, r4, e3, e4, d2, h2, .inr ⟨b, off, cap, cells, el, r', g1, g2, ?_, g4, g5, h7⟩⟩
      show off + cap * (T N).sz ≤ cells.length
      rw [T_sz]; exact g3
end Exq

/-- a number of the machine -/
def I64 (n : Int) : Prop := -9223372036854775808 ≤ n ∧ n < 9223372036854775808
theorem I64.lo {n : Int} (h : I64 n) : -9223372036854775808 ≤ n := h.1
theorem I64.hi {n : Int} (h : I64 n) : n < 9223372036854775808 := h.2

section
variable {g h r : Heap} {Γ : List HP} {v : Value} {cs : List Value}
theorem repExq {x : Exq} : Ty.rep h cs x ↔ ∃ w, cs = [.int .i64 x.kind, .int .i64 x.val, w] ∧ I64 x.kind ∧ I64 x.val ∧ Rep h w x.kids := by
  rw [Exq.rep_iff]
  constructor
  · rintro ⟨c1, c2, rfl, ⟨rfl, h1⟩, c3, c4, rfl, ⟨rfl, h2⟩, h3⟩
    obtain ⟨w, rfl, h4⟩ := (rep1 (α := List Exq) rfl).1 h3
    exact ⟨w, rfl, h1, h2, h4⟩
  · rintro ⟨w, rfl, h1, h2, h3⟩
    exact ⟨[_], [_, _], rfl, ⟨rfl, h1⟩, [_], [_], rfl, ⟨rfl, h2⟩, (rep1 (α := List Exq) rfl).2 ⟨w, rfl, h3⟩⟩
theorem ownExq {x : Exq} : Ty.own r cs x ↔ ∃ w, cs = [.int .i64 x.kind, .int .i64 x.val, w] ∧ I64 x.kind ∧ I64 x.val ∧ Own r w x.kids := by
  rw [Exq.own_iff]
  constructor
  · rintro ⟨c1, c2, r1, r2, rfl, rfl, d1, ⟨rfl, rfl, h1⟩, c3, c4, r3, r4, rfl, rfl, d2, ⟨rfl, rfl, h2⟩, h3⟩
    obtain ⟨w, rfl, h4⟩ := (own1 (α := List Exq) rfl).1 h3
    exact ⟨w, rfl, h1, h2, by rw [nil_add, nil_add]; exact h4⟩
  · rintro ⟨w, rfl, h1, h2, h3⟩
    exact ⟨[_], [_, _], Heap.nil, r, rfl, by simp, by simp, ⟨rfl, rfl, h1⟩, [_], [_], Heap.nil, r, rfl, by simp, by simp, ⟨rfl, rfl, h2⟩, (own1 (α := List Exq) rfl).2 ⟨w, rfl, h3⟩⟩
theorem Rep_Exq {x : Exq} : Rep h v x ↔ ∃ w, v = .agg #[.int .i64 x.kind, .int .i64 x.val, w] ∧ I64 x.kind ∧ I64 x.val ∧ Rep h w x.kids := by
  constructor
  · rintro ⟨cs, rfl, H⟩
    obtain ⟨w, rfl, h1⟩ := repExq.1 H
    exact ⟨w, rfl, h1⟩
  · rintro ⟨w, rfl, h1⟩
    exact ⟨_, rfl, repExq.2 ⟨w, rfl, h1⟩⟩
theorem HS.unExq {x : Exq} (H : HS g (ow v x :: Γ) h) : ∃ w, v = .agg #[.int .i64 x.kind, .int .i64 x.val, w] ∧ I64 x.kind ∧ I64 x.val ∧ HS g (ow w x.kids :: Γ) h := by
  obtain ⟨g', r, rfl, d, ⟨cs, rfl, O⟩, H⟩ := H
  obtain ⟨w, rfl, h1, h2, h3⟩ := ownExq.1 O
  exact ⟨w, rfl, h1, h2, g', r, rfl, d, h3, H⟩
theorem HS.mkExq {x : Exq} {w : Value} (H : HS g (ow w x.kids :: Γ) h) (h1 : I64 x.kind) (h2 : I64 x.val) : HS g (ow (.agg #[.int .i64 x.kind, .int .i64 x.val, w]) x :: Γ) h :=
  H.imp fun _ O => ⟨_, rfl, ownExq.2 ⟨w, rfl, h1, h2, O⟩⟩
theorem HS.mkExq' {kd vl : Int} {l : List Exq} {w : Value} (H : HS g (ow w l :: Γ) h) (h1 : I64 kd) (h2 : I64 vl) : HS g (ow (.agg #[.int .i64 kd, .int .i64 vl, w]) (Exq.mk kd vl l) :: Γ) h :=
  HS.mkExq (x := Exq.mk kd vl l) H h1 h2
theorem Rep.aExq {x : Exq} (hr : Rep h v x) : pgetV (some v) 0 (some 3) = some v ∧ v.cells.size = 3 ∧ allOne v.cells.toList = true ∧ Value.agg v.cells = v := hr.A rfl rfl
end

noncomputable instance : DecidableEq Exq := fun _ _ => Classical.propDecidable _

/-- an edge -/
structure Ed where
  frm : Int
  to : Int
  guard : Exq
  var : Int
  value : Exq
  sync : Int
instance instTyEd : Ty Ed := Ty.via fun (e : Ed) => (e.frm, e.to, e.guard, e.var, e.value, e.sync)
noncomputable instance : DecidableEq Ed := fun _ _ => Classical.propDecidable _
/-- a process -/
structure Pr where
  locs : Int
  edges : List Ed
instance instTyPr : Ty Pr := Ty.via fun (p : Pr) => (p.locs, p.edges)
noncomputable instance : DecidableEq Pr := fun _ _ => Classical.propDecidable _
/-- a system -/
structure Sy where
  init : List Int
  procs : List Pr
instance instTySy : Ty Sy := Ty.via fun (s : Sy) => (s.init, s.procs)
noncomputable instance : DecidableEq Sy := fun _ _ => Classical.propDecidable _
theorem Ed.ext_iff' {a b : Ed} : a = b ↔ a.frm = b.frm ∧ a.to = b.to ∧ a.guard = b.guard ∧ a.var = b.var ∧ a.value = b.value ∧ a.sync = b.sync := by
  cases a; cases b; simp
theorem Pr.ext_iff' {a b : Pr} : a = b ↔ a.locs = b.locs ∧ a.edges = b.edges := by
  cases a; cases b; simp
theorem Sy.ext_iff' {a b : Sy} : a = b ↔ a.init = b.init ∧ a.procs = b.procs := by
  cases a; cases b; simp

/-- an edge's cells, where its two expressions' operands are known -/
def Ed.cs (e : Ed) (w1 w2 : Value) : List Value := [.int .i64 e.frm, .int .i64 e.to, .int .i64 e.guard.kind, .int .i64 e.guard.val, w1, .int .i64 e.var, .int .i64 e.value.kind, .int .i64 e.value.val, w2, .int .i64 e.sync]
structure Ed.ok (e : Ed) : Prop where
  frm : I64 e.frm
  to : I64 e.to
  gk : I64 e.guard.kind
  gv : I64 e.guard.val
  var : I64 e.var
  vk : I64 e.value.kind
  vv : I64 e.value.val
  sync : I64 e.sync

section
variable {g h r : Heap} {Γ : List HP} {v : Value} {cs : List Value}
theorem repEd {e : Ed} : Ty.rep h cs e ↔ ∃ w1 w2, cs = e.cs w1 w2 ∧ e.ok ∧ Rep h w1 e.guard.kids ∧ Rep h w2 e.value.kids := by
  constructor
  · rintro ⟨c1, c2, rfl, ⟨rfl, h1⟩, c3, c4, rfl, ⟨rfl, h2⟩, c5, c6, rfl, h3, c7, c8, rfl, ⟨rfl, h4⟩, c9, c0, rfl, h5, rfl, h6⟩
    obtain ⟨w1, rfl, g1, g2, g3⟩ := repExq.1 h3
    obtain ⟨w2, rfl, g4, g5, g6⟩ := repExq.1 h5
    exact ⟨w1, w2, rfl, ⟨h1, h2, g1, g2, h4, g4, g5, h6⟩, g3, g6⟩
  · rintro ⟨w1, w2, rfl, ok, h1, h2⟩
    exact ⟨[_], _, rfl, ⟨rfl, ok.frm⟩, [_], _, rfl, ⟨rfl, ok.to⟩, [_, _, _], _, rfl, repExq.2 ⟨_, rfl, ok.gk, ok.gv, h1⟩, [_], _, rfl, ⟨rfl, ok.var⟩, [_, _, _], _, rfl, repExq.2 ⟨_, rfl, ok.vk, ok.vv, h2⟩, rfl, ok.sync⟩
theorem ownEd {e : Ed} : Ty.own r cs e ↔ ∃ w1 w2 r1 r2, cs = e.cs w1 w2 ∧ e.ok ∧ r = r1.add r2 ∧ Dj r1 r2 ∧ Own r1 w1 e.guard.kids ∧ Own r2 w2 e.value.kids := by
  constructor
  · rintro ⟨c1, c2, _, _, rfl, rfl, _, ⟨rfl, rfl, h1⟩, c3, c4, _, _, rfl, rfl, _, ⟨rfl, rfl, h2⟩, c5, c6, ra, rb, rfl, rfl, d, h3, c7, c8, _, _, rfl, rfl, _, ⟨rfl, rfl, h4⟩, c9, c0, rc, rd, rfl, rfl, d2, h5, rfl, rfl, h6⟩
    obtain ⟨w1, rfl, g1, g2, g3⟩ := ownExq.1 h3
    obtain ⟨w2, rfl, g4, g5, g6⟩ := ownExq.1 h5
    exact ⟨w1, w2, ra, rc, rfl, ⟨h1, h2, g1, g2, h4, g4, g5, h6⟩, by simp, by simpa using d, g3, g6⟩
  · rintro ⟨w1, w2, r1, r2, rfl, ok, rfl, d, h1, h2⟩
    exact ⟨[_], _, Heap.nil, r1.add r2, rfl, by simp, by simp, ⟨rfl, rfl, ok.frm⟩, [_], _, Heap.nil, r1.add r2, rfl, by simp, by simp, ⟨rfl, rfl, ok.to⟩, [_, _, _], _, r1, r2, rfl, rfl, d, ownExq.2 ⟨_, rfl, ok.gk, ok.gv, h1⟩,
      [_], _, Heap.nil, r2, rfl, by simp, by simp, ⟨rfl, rfl, ok.var⟩, [_, _, _], _, r2, Heap.nil, rfl, by simp, by simp, ownExq.2 ⟨_, rfl, ok.vk, ok.vv, h2⟩, rfl, rfl, ok.sync⟩
theorem Rep_Ed {e : Ed} : Rep h v e ↔ ∃ w1 w2, v = .agg (e.cs w1 w2).toArray ∧ e.ok ∧ Rep h w1 e.guard.kids ∧ Rep h w2 e.value.kids := by
  constructor
  · rintro ⟨cs, rfl, H⟩
    obtain ⟨w1, w2, rfl, h1⟩ := repEd.1 H
    exact ⟨w1, w2, rfl, h1⟩
  · rintro ⟨w1, w2, rfl, h1⟩
    exact ⟨_, rfl, repEd.2 ⟨w1, w2, rfl, h1⟩⟩
theorem HS.unEd {e : Ed} (H : HS g (ow v e :: Γ) h) : ∃ w1 w2, v = .agg (e.cs w1 w2).toArray ∧ e.ok ∧ HS g (ow w1 e.guard.kids :: ow w2 e.value.kids :: Γ) h := by
  obtain ⟨g', r, rfl, d, ⟨cs, rfl, O⟩, H⟩ := H
  obtain ⟨w1, w2, r1, r2, rfl, ok, rfl, d2, h1, h2⟩ := ownEd.1 O
  obtain ⟨d3, d4⟩ := Dj_add.1 d
  exact ⟨w1, w2, rfl, ok, g'.add r2, r1, by rw [add_assoc, d2.comm], add_Dj.2 ⟨d3, d2.symm⟩, h1, g', r2, rfl, d4, h2, H⟩
theorem HS.mkEd {e : Ed} {w1 w2 : Value} (H : HS g (ow w1 e.guard.kids :: ow w2 e.value.kids :: Γ) h) (ok : e.ok) : HS g (ow (.agg (e.cs w1 w2).toArray) e :: Γ) h :=
  H.join2 fun r1 r2 d h1 h2 => ⟨_, rfl, ownEd.2 ⟨w1, w2, r1, r2, rfl, ok, rfl, d, h1, h2⟩⟩
theorem Rep_Pr {p : Pr} : Rep h v p ↔ ∃ w, v = .agg #[.int .i64 p.locs, w] ∧ I64 p.locs ∧ Rep h w p.edges := by
  constructor
  · rintro ⟨cs, rfl, c1, c2, rfl, ⟨rfl, h1⟩, h2⟩
    obtain ⟨w, rfl, h3⟩ := (rep1 (α := List Ed) rfl).1 h2
    exact ⟨w, rfl, h1, h3⟩
  · rintro ⟨w, rfl, h1, h2⟩
    exact ⟨_, rfl, [_], [_], rfl, ⟨rfl, h1⟩, (rep1 (α := List Ed) rfl).2 ⟨w, rfl, h2⟩⟩
theorem HS.unPr {p : Pr} (H : HS g (ow v p :: Γ) h) : ∃ w, v = .agg #[.int .i64 p.locs, w] ∧ I64 p.locs ∧ HS g (ow w p.edges :: Γ) h := by
  obtain ⟨g', r, rfl, d, ⟨cs, rfl, c1, c2, r1, r2, rfl, rfl, d2, ⟨rfl, rfl, h1⟩, h2⟩, H⟩ := H
  obtain ⟨w, rfl, h3⟩ := (own1 (α := List Ed) rfl).1 h2
  exact ⟨w, rfl, h1, g', r2, by simp, by simpa using d, h3, H⟩
theorem HS.mkPr {p : Pr} {w : Value} (H : HS g (ow w p.edges :: Γ) h) (h1 : I64 p.locs) : HS g (ow (.agg #[.int .i64 p.locs, w]) p :: Γ) h :=
  H.imp fun r O => ⟨_, rfl, [_], [_], Heap.nil, r, rfl, by simp, by simp, ⟨rfl, rfl, h1⟩, (own1 (α := List Ed) rfl).2 ⟨w, rfl, O⟩⟩
theorem Rep_Sy {s : Sy} : Rep h v s ↔ ∃ w1 w2, v = .agg #[w1, w2] ∧ Rep h w1 s.init ∧ Rep h w2 s.procs := by
  constructor
  · rintro ⟨cs, rfl, c1, c2, rfl, h1, h2⟩
    obtain ⟨w1, rfl, h3⟩ := (rep1 (α := List Int) rfl).1 h1
    obtain ⟨w2, rfl, h4⟩ := (rep1 (α := List Pr) rfl).1 h2
    exact ⟨w1, w2, rfl, h3, h4⟩
  · rintro ⟨w1, w2, rfl, h1, h2⟩
    exact ⟨_, rfl, [_], [_], rfl, (rep1 (α := List Int) rfl).2 ⟨w1, rfl, h1⟩, (rep1 (α := List Pr) rfl).2 ⟨w2, rfl, h2⟩⟩
theorem HS.unSy {s : Sy} (H : HS g (ow v s :: Γ) h) : ∃ w1 w2, v = .agg #[w1, w2] ∧ HS g (ow w1 s.init :: ow w2 s.procs :: Γ) h := by
  obtain ⟨g', r, rfl, d, ⟨cs, rfl, c1, c2, r1, r2, rfl, rfl, d2, h1, h2⟩, H⟩ := H
  obtain ⟨w1, rfl, h3⟩ := (own1 (α := List Int) rfl).1 h1
  obtain ⟨w2, rfl, h4⟩ := (own1 (α := List Pr) rfl).1 h2
  obtain ⟨d3, d4⟩ := Dj_add.1 d
  exact ⟨w1, w2, rfl, g'.add r2, r1, by rw [add_assoc, d2.comm], add_Dj.2 ⟨d3, d2.symm⟩, h3, g', r2, rfl, d4, h4, H⟩
theorem HS.mkSy {s : Sy} {w1 w2 : Value} (H : HS g (ow w1 s.init :: ow w2 s.procs :: Γ) h) : HS g (ow (.agg #[w1, w2]) s :: Γ) h :=
  H.join2 fun r1 r2 d h1 h2 => ⟨_, rfl, [_], [_], r1, r2, rfl, rfl, d, (own1 (α := List Int) rfl).2 ⟨w1, rfl, h1⟩, (own1 (α := List Pr) rfl).2 ⟨w2, rfl, h2⟩⟩
theorem Rep.aEd {x : Ed} (hr : Rep h v x) : pgetV (some v) 0 (some 10) = some v ∧ v.cells.size = 10 ∧ allOne v.cells.toList = true ∧ Value.agg v.cells = v := hr.A rfl rfl
theorem Rep.aSy {x : Sy} (hr : Rep h v x) : pgetV (some v) 0 (some 2) = some v ∧ v.cells.size = 2 ∧ allOne v.cells.toList = true ∧ Value.agg v.cells = v := hr.A rfl rfl
end

end Go.Proofs.YtonjglbachhdcaaGreat

/-
  Parts of elements, written and read where they lie; copies of lists whose elements are replaced one by one; sizes and marks of expressions and systems.
-/
namespace Go.Proofs.YtonjglbachhdcaaGreat
open Go
set_option linter.all false
set_option linter.unusedVariables false
set_option linter.unusedSimpArgs false
set_option linter.defProp false
set_option maxRecDepth 1000000

theorem setC_get {cs c : List Value} {n j : Nat} (h : n + c.length ≤ cs.length) : (setC cs n c)[j]? = if j < n then cs[j]? else if j < n + c.length then c[j - n]? else cs[j]? := by
  unfold setC
  simp only [List.getElem?_append, List.getElem?_take, List.getElem?_drop, List.length_append, List.length_take]
  rw [Nat.min_eq_left (by omega : n ≤ cs.length)]
  by_cases h1 : j < n
  · rw [if_pos (by omega), if_pos h1, if_pos h1, if_pos h1]
  · by_cases h2 : j < n + c.length
    · rw [if_pos h2, if_neg h1, if_neg h1, if_pos h2]
    · rw [if_neg h2, if_neg h1, if_neg h2]
      congr 1; omega
theorem setC_over {cs d c : List Value} {n fo : Nat} (hd : fo + d.length ≤ c.length) (hl : n + c.length ≤ cs.length) : setC (setC cs (n + fo) d) n c = setC cs n c := by
  apply List.ext_getElem?
  intro j
  rw [setC_get (by rw [setC_length (by omega)]; exact hl), setC_get hl, setC_get (by omega)]
  by_cases h1 : j < n
  · rw [if_pos h1, if_pos h1, if_pos (by omega)]
  · by_cases h2 : j < n + c.length
    · rw [if_neg h1, if_neg h1, if_pos h2, if_pos h2]
    · rw [if_neg h1, if_neg h1, if_neg h2, if_neg h2, if_neg (by omega), if_neg (by omega)]
theorem setC_slot {cs d : List Value} {n fo m : Nat} (hd : fo + d.length ≤ m) (hl : n + m ≤ cs.length) : ((setC cs (n + fo) d).drop n).take m = setC ((cs.drop n).take m) fo d := by
  apply List.ext_getElem?
  intro j
  rw [setC_get (by simp; omega)]
  simp only [List.getElem?_take, List.getElem?_drop]
  by_cases h1 : j < m
  · rw [if_pos h1, if_pos h1, setC_get (by omega)]
    by_cases h2 : j < fo
    · rw [if_pos (by omega), if_pos h2]
    · by_cases h3 : j < fo + d.length
      · rw [if_neg (by omega), if_pos (by omega), if_neg h2, if_pos h3]
        congr 1; omega
      · rw [if_neg (by omega), if_neg (by omega), if_neg h2, if_neg h3]
  · rw [if_neg h1, if_neg h1, if_neg (by omega), if_neg (by omega)]

section
variable {α : Type} [Ty α] {P : Program} {k : Env → Heap → Prop} {e : Env} {g h : Heap} {Γ : List HP} {v w : Value} {l : List α} {i : Nat} {cs : List Value}
/-- writing a part of an element that was taken away -/
theorem HS.holest (H : HS g (hole v l i (.agg cs.toArray) :: Γ) h) (ha : Ty.agg α = true) {a x : O} {n fo m : Nat} (hn : n = Ty.sz α) (hp : a.get e = some (elpo n v i fo)) (hx : x.get e = some w) (hu : w.cells.size = m) (hu1 : allOne w.cells.toList = true) (hf : fo + m ≤ n)
    (K : ∀ h', HS g (hole v l i (.agg (setC cs fo w.cells.toList).toArray) :: Γ) h' → k e h') : (A.ex none (.store m a x)).wp P k e h := by
  subst hn
  obtain ⟨g', r, rfl, d, Ho, H⟩ := H
  obtain ⟨b, off, cap, cells, el, r', rfl, hi, ⟨h1, hM⟩, h2, rfl, h4, h5, h6⟩ := Ho
  have hs := slot_le (s := Ty.sz α) hi h1
  obtain ⟨d3, d4⟩ := Dj_add.1 d
  have hb : (g'.add ((Heap.one b (.cells cells.toArray el (0, 0))).add r')) b = some (.cells cells.toArray el (0, 0)) := by
    have := Dj_one.1 d3
    simp [Heap.add, Heap.one, this, h4]
  have hw : w.cells.toList.length = m := by simpa using hu
  have hcs : cs = ((cells.drop off).drop (i * Ty.sz α)).take (Ty.sz α) := by
    simpa [valC, ha] using h5
  have hdr : (setC cells (off + i * Ty.sz α + fo) w.cells.toList).drop off = setC (cells.drop off) (i * Ty.sz α + fo) w.cells.toList := by
    rw [Nat.add_assoc, drop_setC (by rw [hw]; omega)]
  refine ⟨b, off + i * Ty.sz α + fo, w, g'.add ((Heap.one b (.cells (setC cells (off + i * Ty.sz α + fo) w.cells.toList).toArray el (0, 0))).add r'), ?_, hx, hu, ?_,
    Fgt.keep (K _ ⟨g', _, rfl, Dj_add.2 ⟨Dj_one.2 (Dj_one.1 d3), d4⟩, ⟨b, off, cap, _, el, r', rfl, hi, ⟨h1, hM⟩, ?_, rfl, h4, ?_, ?_⟩, H⟩)⟩
  · rw [hp]; simp [elpo, add_none]
  · unfold hstore
    rw [hb]
    simp only
    rw [if_pos (by refine ⟨trivial, ?_, ?_⟩; · simp [hu]; omega
                   · rw [allOne_eq]; exact hu1), add_one_set (Dj_one.1 d3) h4]
  · rw [setC_length (by rw [hw]; omega)]; exact h2
  · rw [hdr, setC_slot (by rw [hw]; exact hf) (by simp; omega), ← hcs]
    simp [valC, ha]
  · intro r1' c' y dd o
    have hlen := Ty.len (Ty.own_rep o)
    rw [hdr, setC_over (by rw [hw, hlen]; exact hf) (by rw [hlen]; simp; omega)]
    exact h6 r1' c' y dd o

/-- an element's parts, where its cells are known -/
theorem hld_parts {n : Nat} (hv : hload h (some (elp n v i)) (some n) = some (.agg cs.toArray)) : (∀ fo, faV fo (elp n v i) = some (elpo n v i fo)) ∧ (∀ a b, faV b (elpo n v i a) = some (elpo n v i (a + b))) ∧
    (∀ fo, fo < n → hload h (some (elpo n v i fo)) none = cs[fo]?) ∧ (∀ fo m, fo + m ≤ n → hload h (some (elpo n v i fo)) (some m) = some (.agg ((cs.drop fo).take m).toArray)) := by
  unfold elp at hv
  split at hv
  case h_2 => simp [undef, hload] at hv
  case h_1 p c d =>
    have hz : ∃ b off, p.add (i * n) = ⟨b, off, none⟩ := by
      generalize hq : p.add (i * n) = q at hv
      obtain ⟨b, off, sp⟩ := q
      cases sp with
      | none => exact ⟨b, off, rfl⟩
      | some s => simp [hload] at hv
    obtain ⟨b, off, hz⟩ := hz
    rw [hz] at hv
    simp only [hload, Option.map_eq_some_iff] at hv
    obtain ⟨l, h1, h2⟩ := hv
    have h2 : l = cs := by simpa using h2
    subst h2
    have h3 := hcells_get h1
    have hsub : ∀ m fo, fo + m ≤ n → hcells h b (off + fo) m = some ((l.drop fo).take m) := by
      intro m
      induction m with
      | zero => intro fo _; simp [hcells]
      | succ m ih =>
        intro fo hf
        have h4 := ih (fo + 1) (by omega)
        have h5 := h3.2 fo (l[fo]'(by rw [h3.1]; omega)) (List.getElem?_eq_getElem _)
        simp only [hcells, h5]
        rw [show off + fo + 1 = off + (fo + 1) by omega, h4]
        simp only [Option.some.injEq]
        rw [List.drop_eq_getElem_cons (by rw [h3.1]; omega : fo < l.length), List.take_succ_cons]
    refine ⟨fun fo => ?_, fun a c => ?_, fun fo hf => ?_, fun fo m hf => ?_⟩
    · simp only [elp, elpo, hz, add_none, faV]
    · simp only [elpo, hz, add_none, faV]
      simp [Nat.add_assoc]
    · have h5 := h3.2 fo (l[fo]'(by rw [h3.1]; omega)) (List.getElem?_eq_getElem _)
      simp only [elpo, hz, add_none, hload, h5]
      exact (List.getElem?_eq_getElem _).symm
    · simp only [elpo, hz, add_none, hload, hsub m fo hf]
      rfl
theorem HS.holeP (H : HS g (hole v l i (.agg cs.toArray) :: Γ) h) (ha : Ty.agg α = true) {n : Nat} (hn : n = Ty.sz α) : hload h (some (elp n v i)) (some n) = some (.agg cs.toArray) := by
  have := H.holeld
  subst hn
  simpa [szo, ha] using this
end

/-- an element of a copy: as it was copied, or replaced -/
inductive Mix (α : Type) where
  | raw (cs : List Value)
  | new (x : α)
section
variable {α : Type} [Ty α]
def Mix.rep (h : Heap) (cs : List Value) : Mix α → Prop
  | .raw c => cs = c ∧ c.length = Ty.sz α ∧ ∀ v ∈ c, v.oneCell' = true
  | .new x => Ty.rep h cs x
def Mix.own (r : Heap) (cs : List Value) : Mix α → Prop
  | .raw c => r = Heap.nil ∧ cs = c ∧ c.length = Ty.sz α ∧ ∀ v ∈ c, v.oneCell' = true
  | .new x => Ty.own r cs x
instance instTyMix : Ty (Mix α) where
  agg := Ty.agg α
  sz := Ty.sz α
  rep := Mix.rep
  own := Mix.own
  one := Ty.one
  len := by
    intro h cs x hx
    cases x with
    | raw c => obtain ⟨rfl, h1, _⟩ := hx; exact h1
    | new x => exact Ty.len (x := x) hx
  cell := by
    intro h cs x hx
    cases x with
    | raw c => obtain ⟨rfl, _, h1⟩ := hx; exact h1
    | new x => exact Ty.cell (x := x) hx
  mono := by
    intro h h' cs x hl hx
    cases x with
    | raw c => exact hx
    | new x => exact Ty.mono (x := x) hl hx
  own_rep := by
    intro r cs x hx
    cases x with
    | raw c => exact hx.2
    | new x => exact Ty.own_rep (x := x) hx
/-- a copy's elements, as they were copied -/
structure Raws (h : Heap) (l : List α) (M : List (Mix α)) : Prop where
  len : M.length = l.length
  at' : ∀ (i : Nat) (hi : i < l.length), ∃ c, M[i]? = some (.raw c) ∧ Ty.rep h c l[i]

end

/-- how far the replacing has come -/
structure Mixed {α : Type} [Ty α] (h : Heap) (l : List α) (f : α → α) (M : List (Mix α)) (i : Nat) : Prop where
  len : M.length = l.length
  done : M.take i = ((l.map f).take i).map Mix.new
  rest : ∀ (j : Nat) (hj : j < l.length), i ≤ j → ∃ c, M[j]? = some (.raw c) ∧ Ty.rep h c l[j]
section
variable {α : Type} [Ty α] {h : Heap} {l : List α} {f : α → α} {M : List (Mix α)} {i : Nat}
theorem Mixed.zero (R : Raws h l M) : Mixed h l f M 0 := ⟨R.len, rfl, fun j hj _ => R.at' j hj⟩
theorem Mixed.le {h' : Heap} (H : Mixed h l f M i) (hl : h.le h') : Mixed h' l f M i := ⟨H.len, H.done, fun j hj hij => by
  obtain ⟨c, h1, h2⟩ := H.rest j hj hij
  exact ⟨c, h1, Ty.mono hl h2⟩⟩
theorem Mixed.get (H : Mixed h l f M i) (hi : i < l.length) : ∃ c, M[i]'(by rw [H.len]; exact hi) = .raw c ∧ Ty.rep h c l[i] := by
  obtain ⟨c, h1, h2⟩ := H.rest i hi (Nat.le_refl i)
  refine ⟨c, ?_, h2⟩
  rw [List.getElem?_eq_getElem (by rw [H.len]; exact hi)] at h1
  exact Option.some.inj h1
theorem Mixed.step (H : Mixed h l f M i) (hi : i < l.length) : Mixed h l f (M.set i (.new (f l[i]))) (i + 1) := by
  refine ⟨by simp [H.len], ?_, fun j hj hij => ?_⟩
  · have h1 : M.take i = (l.map fun x => Mix.new (f x)).take i := by rw [H.done, List.map_take, List.map_map]; rfl
    have := take_set_succ (x := l.map fun x => Mix.new (f x)) h1 (by simpa using hi) (by simp [H.len])
    rw [List.getElem_map] at this
    rw [this, List.map_take, List.map_map]
    rfl
  · rw [List.getElem?_set_ne (by omega)]
    exact H.rest j hj (by omega)
theorem Mixed.all (H : Mixed h l f M i) (hi : l.length ≤ i) : M = (l.map f).map Mix.new := by
  have := H.done
  rw [List.take_of_length_le (by rw [H.len]; exact hi), List.take_of_length_le (by simpa using hi)] at this
  exact this
end

/- SIZES AND MARKS -/
mutual
def Exq.size : Exq → Nat
  | .mk _ _ l => Exq.sizes l
def Exq.sizes : List Exq → Nat
  | [] => 0
  | x :: l => 1 + x.size + Exq.sizes l
end
instance instSzExq : Sz Exq := ⟨Exq.size⟩
instance instSzEd : Sz Ed := ⟨fun e => Sz.sz e.guard + Sz.sz e.value⟩
instance instSzPr : Sz Pr := ⟨fun p => Sz.sz p.edges⟩
instance instSzSy : Sz Sy := ⟨fun s => Sz.sz s.init + Sz.sz s.procs⟩

mutual
def Exq.cnt : Exq → Nat
  | .mk _ _ l => 2 + Exq.cnts l
def Exq.cnts : List Exq → Nat
  | [] => 0
  | x :: l => x.cnt + Exq.cnts l
end
mutual
def Exq.wr : Int → Exq → Exq
  | k, .mk _ _ l => .mk k (k + 1) (Exq.wrs (k + 2) l)
def Exq.wrs : Int → List Exq → List Exq
  | _, [] => []
  | k, x :: l => x.wr k :: Exq.wrs (k + x.cnt) l
end
mutual
theorem Exq.cnt_wr : ∀ (k : Int) (x : Exq), (Exq.wr k x).cnt = x.cnt
  | k, .mk _ _ l => by simp only [Exq.wr, Exq.cnt, Exq.cnts_wrs (k + 2) l]
theorem Exq.cnts_wrs : ∀ (k : Int) (l : List Exq), Exq.cnts (Exq.wrs k l) = Exq.cnts l
  | _, [] => rfl
  | k, x :: l => by simp only [Exq.wrs, Exq.cnts, Exq.cnt_wr k x, Exq.cnts_wrs (k + x.cnt) l]
end
mutual
theorem Exq.wr_wr : ∀ (k j : Int) (x : Exq), Exq.wr k (Exq.wr j x) = Exq.wr k x
  | k, j, .mk _ _ l => by simp only [Exq.wr, Exq.wrs_wrs (k + 2) (j + 2) l]
theorem Exq.wrs_wrs : ∀ (k j : Int) (l : List Exq), Exq.wrs k (Exq.wrs j l) = Exq.wrs k l
  | _, _, [] => rfl
  | k, j, x :: l => by simp only [Exq.wrs, Exq.cnt_wr j x, Exq.wr_wr k j x, Exq.wrs_wrs (k + x.cnt) (j + x.cnt) l]
end
instance instMkExq : Mk Exq := ⟨Exq.cnt, Exq.wr, Exq.cnt_wr, Exq.wr_wr⟩
instance instMkEd : Mk Ed := ⟨fun e => Mk.cnt e.frm + Mk.cnt e.to + Mk.cnt e.guard + Mk.cnt e.var + Mk.cnt e.value + Mk.cnt e.sync,
  fun k e => ⟨Mk.wr k e.frm, Mk.wr (k + Mk.cnt e.frm) e.to, Mk.wr (k + Mk.cnt e.frm + Mk.cnt e.to) e.guard, Mk.wr (k + Mk.cnt e.frm + Mk.cnt e.to + Mk.cnt e.guard) e.var,
    Mk.wr (k + Mk.cnt e.frm + Mk.cnt e.to + Mk.cnt e.guard + Mk.cnt e.var) e.value, Mk.wr (k + Mk.cnt e.frm + Mk.cnt e.to + Mk.cnt e.guard + Mk.cnt e.var + Mk.cnt e.value) e.sync⟩,
  fun k a => by simp [Mk.cnt_wr], fun k j a => by simp [Mk.cnt_wr, Mk.wr_wr]⟩
instance instMkPr : Mk Pr := ⟨fun p => Mk.cnt p.locs + Mk.cnt p.edges, fun k p => ⟨Mk.wr k p.locs, Mk.wr (k + Mk.cnt p.locs) p.edges⟩, fun k a => by simp [Mk.cnt_wr], fun k j a => by simp [Mk.cnt_wr, Mk.wr_wr]⟩
instance instMkSy : Mk Sy := ⟨fun p => Mk.cnt p.init + Mk.cnt p.procs, fun k p => ⟨Mk.wr k p.init, Mk.wr (k + Mk.cnt p.init) p.procs⟩, fun k a => by simp [Mk.cnt_wr], fun k j a => by simp [Mk.cnt_wr, Mk.wr_wr]⟩
end Go.Proofs.YtonjglbachhdcaaGreat

/-
  Expressions and systems in plain Lean: when they are valid, what they are worth, which variables they name.
-/
namespace Go.Proofs.YtonjglbachhdcaaGreat
open Go
set_option linter.all false
set_option linter.unusedVariables false
set_option linter.unusedSimpArgs false
set_option linter.defProp false
set_option maxRecDepth 1000000

/-- values of the variables -/
def VOk (vs : List Int) : Prop := vs.length = 3 ∧ ∀ x ∈ vs, 0 ≤ x ∧ x ≤ 3
theorem VOk.len {vs : List Int} (h : VOk vs) : vs.length = 3 := h.1
theorem VOk.at {vs : List Int} (h : VOk vs) {i : Nat} (hi : i < vs.length) : 0 ≤ vs[i] ∧ vs[i] ≤ 3 := h.2 _ (List.getElem_mem hi)
noncomputable instance {vs : List Int} : Decidable (VOk vs) := Classical.propDecidable _

namespace Exq
def arity (k : Int) : Int := if k = 1 ∨ k = 2 then 0 else if k = 3 then 1 else if 4 ≤ k ∧ k ≤ 9 then 2 else -1
def most (k : Int) : Int := if k = 1 then 3 else if k = 2 then 2 else 0
/-- one node is well made -/
structure Nd (x : Exq) : Prop where
  ar : (x.kids.length : Int) = arity x.kind
  lo : 0 ≤ x.val
  hi : x.val ≤ most x.kind
/-- well made, so many levels -/
def Shp : Nat → Exq → Prop
  | 0, _ => False
  | n + 1, x => x.Nd ∧ ∀ y ∈ x.kids, Shp n y
mutual
def nod : Exq → Nat
  | .mk _ _ l => 1 + nods l
def nods : List Exq → Nat
  | [] => 0
  | x :: l => x.nod + nods l
end
theorem nod_eq (x : Exq) : x.nod = 1 + nods x.kids := by cases x; rfl
theorem nods_take : ∀ {l : List Exq} {i : Nat} (hi : i < l.length), nods (l.take (i + 1)) = nods (l.take i) + l[i].nod
  | x :: l, 0, _ => by simp [nods]
  | x :: l, i + 1, hi => by
    have := nods_take (l := l) (i := i) (by simpa using hi)
    simp only [List.take_succ_cons, nods, List.getElem_cons_succ, this]; omega
theorem nods_le : ∀ (l : List Exq) (i : Nat), nods (l.take i) ≤ nods l
  | [], i => by simp
  | x :: l, 0 => by simp [nods]
  | x :: l, i + 1 => by
    simp only [List.take_succ_cons, nods]
    have := nods_le l i
    omega
/-- valid -/
def Ok (x : Exq) : Prop := x.Shp 6 ∧ x.nod ≤ 15
noncomputable instance {x : Exq} : Decidable x.Ok := Classical.propDecidable _
def zero : Exq := .mk 0 0 []

theorem Nd.kind {x : Exq} (h : x.Nd) : 1 ≤ x.kind ∧ x.kind ≤ 9 := by
  have := h.ar
  unfold arity at this
  split at this <;> (try split at this) <;> (try split at this) <;> omega
theorem Shp.nd {n : Nat} {x : Exq} (h : x.Shp n) : x.Nd := by
  cases n with
  | zero => exact h.elim
  | succ n => exact h.1
theorem Shp.kid {n : Nat} {x : Exq} (h : x.Shp (n + 1)) {i : Nat} (hi : i < x.kids.length) : x.kids[i].Shp n := h.2 _ (List.getElem_mem hi)
theorem Shp.bnd : ∀ {n : Nat} {x : Exq}, x.Shp n → x.nod < 2 ^ n
  | 0, _, h => h.elim
  | n + 1, x, h => by
    have h1 := h.1.ar
    have h2 : x.kids.length ≤ 2 := by
      unfold arity at h1
      split at h1 <;> (try split at h1) <;> (try split at h1) <;> omega
    have h3 : nods x.kids + x.kids.length ≤ x.kids.length * 2 ^ n := by
      have key : ∀ l : List Exq, (∀ y ∈ l, Shp n y) → nods l + l.length ≤ l.length * 2 ^ n := by
        intro l
        induction l with
        | nil => intro _; simp [nods]
        | cons y l ih =>
          intro hl
          have g1 := Shp.bnd (hl y (by simp))
          have g2 := ih fun z hz => hl z (by simp [hz])
          simp only [nods, List.length_cons, Nat.add_mul]
          omega
      exact key _ h.2
    have h4 : x.kids.length * 2 ^ n ≤ 2 * 2 ^ n := Nat.mul_le_mul_right _ h2
    have h5 : 0 < 2 ^ n := Nat.pow_pos (by decide)
    rw [nod_eq, Nat.pow_succ]
    by_cases h6 : x.kids.length = 0
    · have : x.kids = [] := List.length_eq_zero_iff.1 h6
      rw [this]; simp only [nods]; omega
    · rcases (show x.kids.length = 1 ∨ x.kids.length = 2 by omega) with h7 | h7 <;> rw [h7] at h3 h4 <;> omega

/- WHAT IT IS WORTH -/
def tr (p : Prop) [Decidable p] : Int := if p then 1 else 0
def evk (vs : List Int) (k v a b : Int) : Int :=
  if k = 1 then v else if k = 2 then vs.getD v.toNat 0 else if k = 3 then tr (a = 0) else if k = 4 then tr (a ≠ 0 ∧ b ≠ 0) else if k = 5 then tr (a ≠ 0 ∨ b ≠ 0)
  else if k = 6 then tr (a = b) else if k = 7 then tr (a < b) else if k = 8 then (a + b).tmod 4 else (a - b + 4).tmod 4
mutual
def ev (vs : List Int) : Exq → Int
  | .mk k v l => evk vs k v ((evs vs l).getD 0 0) ((evs vs l).getD 1 0)
def evs (vs : List Int) : List Exq → List Int
  | [] => []
  | x :: l => x.ev vs :: evs vs l
end
theorem evs_eq {vs : List Int} : ∀ l, evs vs l = l.map (ev vs)
  | [] => rfl
  | x :: l => by simp only [evs, List.map_cons, evs_eq l]
def kev (x : Exq) (vs : List Int) (j : Nat) : Int := (x.kids.map (ev vs)).getD j 0
theorem ev_eq {vs : List Int} (x : Exq) : x.ev vs = evk vs x.kind x.val (x.kev vs 0) (x.kev vs 1) := by
  cases x with
  | mk k v l => simp only [ev, evs_eq]; rfl
theorem kev_at {vs : List Int} {x : Exq} {j : Nat} (hj : j < x.kids.length) : x.kev vs j = x.kids[j].ev vs := by
  simp [kev, hj]
theorem tr01 {p : Prop} [Decidable p] : 0 ≤ tr p ∧ tr p ≤ 1 := by unfold tr; split <;> omega
theorem ev_bnd {vs : List Int} (hv : VOk vs) : ∀ {n : Nat} {x : Exq}, x.Shp n → 0 ≤ x.ev vs ∧ x.ev vs ≤ 3
  | 0, _, h => h.elim
  | n + 1, x, h => by
    have hn := h.1
    rw [ev_eq]
    unfold evk
    have h1 := hn.lo
    have h2 := hn.hi
    have h3 := hn.ar
    have hk := hn.kind
    split
    · rename_i h4; rw [h4] at h2; simp [most] at h2; omega
    split
    · rename_i _ h4
      rw [h4] at h2; simp [most] at h2
      have h5 : x.val.toNat < vs.length := by rw [hv.len]; omega
      rw [List.getD_eq_getElem?_getD, List.getElem?_eq_getElem h5]
      exact hv.at h5
    split
    · have := tr01 (p := x.kev vs 0 = 0); omega
    have ha : (x.kids.length : Int) = 2 := by
      rw [h3]; unfold arity; rw [if_neg (by omega), if_neg (by assumption), if_pos (by omega)]
    have hl : x.kids.length = 2 := by omega
    have g0 := ev_bnd hv (h.kid (i := 0) (by omega))
    have g1 := ev_bnd hv (h.kid (i := 1) (by omega))
    rw [kev_at (by omega), kev_at (by omega)]
    split
    · have := tr01 (p := x.kids[0].ev vs ≠ 0 ∧ x.kids[1].ev vs ≠ 0); omega
    split
    · have := tr01 (p := x.kids[0].ev vs ≠ 0 ∨ x.kids[1].ev vs ≠ 0); omega
    split
    · have := tr01 (p := x.kids[0].ev vs = x.kids[1].ev vs); omega
    split
    · have := tr01 (p := x.kids[0].ev vs < x.kids[1].ev vs); omega
    split
    · rw [Int.tmod_eq_emod_of_nonneg (by omega)]; omega
    · rw [Int.tmod_eq_emod_of_nonneg (by omega)]; omega

/- WHICH VARIABLES IT NAMES -/
mutual
def mkv : Exq → List Bool → List Bool
  | .mk k v l, M => mkvs l (if k = 2 then M.set v.toNat true else M)
def mkvs : List Exq → List Bool → List Bool
  | [], M => M
  | x :: l, M => mkvs l (x.mkv M)
end
end Exq

/- SYSTEMS -/
structure Ed.Ok (e : Ed) (n : Int) : Prop where
  n1 : 1 ≤ n
  n4 : n ≤ 4
  f0 : 0 ≤ e.frm
  f1 : e.frm < n
  t0 : 0 ≤ e.to
  t1 : e.to < n
  gd : e.guard.Ok
  v0 : -1 ≤ e.var
  v1 : e.var ≤ 2
  vl : (0 ≤ e.var ∧ e.value.Ok) ∨ (e.var < 0 ∧ e.value = Exq.zero)
  s0 : -2 ≤ e.sync
  s1 : e.sync ≤ 2
noncomputable instance {e : Ed} {n : Int} : Decidable (e.Ok n) := Classical.propDecidable _
structure Pr.Ok (p : Pr) : Prop where
  n1 : 1 ≤ p.locs
  n4 : p.locs ≤ 4
  el : p.edges.length ≤ 6
  ed : ∀ e ∈ p.edges, e.Ok p.locs
noncomputable instance {p : Pr} : Decidable p.Ok := Classical.propDecidable _
structure Sy.Ok (s : Sy) : Prop where
  vs : VOk s.init
  p1 : 1 ≤ s.procs.length
  p3 : s.procs.length ≤ 3
  pr : ∀ p ∈ s.procs, p.Ok
noncomputable instance {s : Sy} : Decidable s.Ok := Classical.propDecidable _
theorem Sy.Ok.at {s : Sy} (h : s.Ok) {i : Nat} (hi : i < s.procs.length) : s.procs[i].Ok := h.pr _ (List.getElem_mem hi)
theorem Pr.Ok.at {p : Pr} (h : p.Ok) {i : Nat} (hi : i < p.edges.length) : p.edges[i].Ok p.locs := h.ed _ (List.getElem_mem hi)
/-- labels -/
structure LOk (l : List Exq) : Prop where
  len : l.length = 3
  ok : ∀ x ∈ l, x.Ok
noncomputable instance {l : List Exq} : Decidable (LOk l) := Classical.propDecidable _

/- WHICH VARIABLES MATTER -/
def relL (labels : List Exq) (M : List Bool) : List Bool := labels.foldl (fun M x => x.mkv M) M
def relG (s : Sy) (M : List Bool) : List Bool := s.procs.foldl (fun M p => p.edges.foldl (fun M e => e.guard.mkv M) M) M
def Ed.relv (M : List Bool) (e : Ed) : List Bool := if 0 ≤ e.var ∧ M.getD e.var.toNat false = true then e.value.mkv M else M
def relV (s : Sy) (M : List Bool) : List Bool := s.procs.foldl (fun M p => p.edges.foldl Ed.relv M) M
def Sy.rel (s : Sy) (labels : List Exq) : List Bool := relV s (relV s (relV s (relG s (relL labels [false, false, false]))))
end Go.Proofs.YtonjglbachhdcaaGreat

/-
  What the helpers of the laws do: copying, counting, comparing, marking. Printed by a program.
-/
namespace Go.Proofs.YtonjglbachhdcaaGreat
open Go
set_option linter.all false
set_option linter.unusedVariables false
set_option linter.unusedSimpArgs false
set_option linter.defProp false
set_option maxRecDepth 1000000

end Go.Proofs.YtonjglbachhdcaaGreat

/-
  What the helpers of the laws do with expressions, edges, processes and systems: copying, counting, comparing. Printed by a program.
-/
namespace Go.Proofs.YtonjglbachhdcaaGreat
open Go
set_option linter.all false
set_option linter.unusedVariables false
set_option linter.unusedSimpArgs false
set_option linter.defProp false
set_option maxRecDepth 1000000

theorem i64_0 : I64 0 := ⟨by decide, by decide⟩
def Ed.zero : Ed := ⟨0, 0, Exq.zero, 0, Exq.zero, 0⟩
def Pr.zero : Pr := ⟨0, []⟩
end Go.Proofs.YtonjglbachhdcaaGreat

/-
  Instances of functions over slices: copies, and whether some element meets a condition. Printed by a program.
-/
namespace Go.Proofs.YtonjglbachhdcaaGreat
open Go
set_option linter.all false
set_option linter.unusedVariables false
set_option linter.unusedSimpArgs false
set_option linter.defProp false
set_option maxRecDepth 1000000

theorem c_IndexFunc_int {h : Heap} {a fv : Value} {x : List (Int)} (Ra : Rep h a x) {f : FuncId} {c1 c2 : List Value} (hf : fnOf fv = some (f, c1, c2)) (p : (Int) → Bool)
    (hp : ∀ h1, h.le h1 → ∀ (i : Nat) (hi : i < x.length) (u : Value), Rep h1 u x[i] → CallE Tryz.prog f (c1 ++ u :: c2) h1 (fun v h' => h1.le h' ∧ v = .bool (p x[i]))) :
    CallE Tryz.prog fn_slices_IndexFunc_S_int_int [a, fv] h (fun v h' => h.le h' ∧ v = .int .i64 (match x.findIdx? p with | some i => (i : Int) | none => -1)) := by
  refine CallE.gen fun k hk => EN_slices_IndexFunc_S_int_int rfl ?_
  have hL := Ra.lt
  simp -implicitDefEqProofs (disch := first | omega | (simp only [List.length_set, List.length_replicate, List.length_append, List.length_map, List.length_take, List.length_cons, List.length_nil]; omega)) [wrap64, Ra.len]
  refine wp_count x.length (fun i e h' => e = [some a, some fv, none, none, some (.int .i64 x.length), some (.int .i64 i)] ∧ h.le h' ∧ ∀ (j : Nat) (hj : j < x.length), j < i → p x[j] = false) ⟨rfl, Heap.le.refl h, fun j _ hj => absurd hj (Nat.not_lt_zero j)⟩ ?_
  rintro J i _ h1 hJ hi ⟨rfl, hl, hn⟩
  simp -implicitDefEqProofs (disch := first | omega | (simp only [List.length_set, List.length_replicate, List.length_append, List.length_map, List.length_take, List.length_cons, List.length_nil]; omega)) [wrap64]
  refine IteW.mk (fun hlt => ?_) (fun hge => ?_)
  · have hlx : i < x.length := by omega
    obtain ⟨u, hu, Ru⟩ := (Ra.le hl).ld hlx
    change hload _ (some (elp 1 a i)) none = some u at hu
    simp -implicitDefEqProofs (disch := first | omega | (simp only [List.length_set, List.length_replicate, List.length_append, List.length_map, List.length_take, List.length_cons, List.length_nil]; omega)) [wrap64, (Ra.le hl).X (n := 1) rfl, hu, hf]
    refine (hp h1 hl i hlx u Ru).go ?_
    rintro _ h2 ⟨hl2, rfl⟩
    simp -implicitDefEqProofs (disch := first | omega | (simp only [List.length_set, List.length_replicate, List.length_append, List.length_map, List.length_take, List.length_cons, List.length_nil]; omega)) [wrap64]
    refine IteW.mk (fun hq => ?_) (fun hq => ?_)
    · simp -implicitDefEqProofs (disch := first | omega | (simp only [List.length_set, List.length_replicate, List.length_append, List.length_map, List.length_take, List.length_cons, List.length_nil]; omega)) [wrap64]
      refine RetK.keep (hk _ _ ⟨hl.trans hl2, ?_⟩)
      have h3 : x.findIdx? p = some i := by
        rw [List.findIdx?_eq_some_iff_getElem]
        exact ⟨hlx, hq, fun j hj => by rw [hn j (by omega) hj]; simp⟩
      rw [h3]
    · simp -implicitDefEqProofs (disch := first | omega | (simp only [List.length_set, List.length_replicate, List.length_append, List.length_map, List.length_take, List.length_cons, List.length_nil]; omega)) [wrap64]
      refine hJ _ _ hlx ⟨rfl, hl.trans hl2, fun j hj hji => ?_⟩
      by_cases hji2 : j = i
      · subst hji2; simpa using hq
      · exact hn j hj (by omega)
  · simp -implicitDefEqProofs (disch := first | omega | (simp only [List.length_set, List.length_replicate, List.length_append, List.length_map, List.length_take, List.length_cons, List.length_nil]; omega)) [wrap64]
    refine RetK.keep (hk _ _ ⟨hl, ?_⟩)
    have h3 : x.findIdx? p = none := by
      rw [List.findIdx?_eq_none_iff]
      intro y hy
      obtain ⟨j, hj, rfl⟩ := List.mem_iff_getElem.1 hy
      exact hn j hj (by omega)
    rw [h3]

theorem c_ContainsFunc_int {h : Heap} {a fv : Value} {x : List (Int)} (Ra : Rep h a x) {f : FuncId} {c1 c2 : List Value} (hf : fnOf fv = some (f, c1, c2)) (p : (Int) → Bool)
    (hp : ∀ h1, h.le h1 → ∀ (i : Nat) (hi : i < x.length) (u : Value), Rep h1 u x[i] → CallE Tryz.prog f (c1 ++ u :: c2) h1 (fun v h' => h1.le h' ∧ v = .bool (p x[i]))) :
    CallE Tryz.prog fn_slices_ContainsFunc_S_int_int [a, fv] h (fun v h' => h.le h' ∧ v = .bool (x.any p)) := by
  refine CallE.gen fun k hk => EN_slices_ContainsFunc_S_int_int rfl ?_
  simp -implicitDefEqProofs (disch := first | omega | (simp only [List.length_set, List.length_replicate, List.length_append, List.length_map, List.length_take, List.length_cons, List.length_nil]; omega)) [wrap64]
  refine (c_IndexFunc_int Ra hf p hp).go ?_
  rintro _ h1 ⟨hl, rfl⟩
  simp -implicitDefEqProofs (disch := first | omega | (simp only [List.length_set, List.length_replicate, List.length_append, List.length_map, List.length_take, List.length_cons, List.length_nil]; omega)) [wrap64]
  refine RetK.keep (hk _ _ ⟨hl, ?_⟩)
  congr 1
  rw [← List.findIdx?_isSome]
  cases x.findIdx? p <;> simp

end Go.Proofs.YtonjglbachhdcaaGreat

/-
  Valid expressions, by the program.
-/
namespace Go.Proofs.YtonjglbachhdcaaGreat
open Go
set_option linter.all false
set_option linter.unusedVariables false
set_option linter.unusedSimpArgs false
set_option linter.defProp false
set_option maxRecDepth 1000000

@[simp] theorem nilcV_ptr {a : Addr} : nilcV (.pointer (some a)) = some (.pointer (some a)) := rfl
theorem c_in {h : Heap} {n lo hi : Int} : CallE Tryz.prog fn_impl_in [.int .i64 n, .int .i64 lo, .int .i64 hi] h (fun u h' => h' = h ∧ u = .bool (decide (lo ≤ n ∧ n ≤ hi))) := by
  refine CallE.gen fun k hk => EN_impl_in rfl ?_
  by_cases h1 : lo ≤ n
  · simp -implicitDefEqProofs (disch := first | omega | (simp only [List.length_set, List.length_replicate, List.length_append, List.length_map, List.length_take, List.length_cons, List.length_nil]; omega)) [wrap64, h1]
    exact RetK.keep (hk _ _ ⟨rfl, by simp [h1]⟩)
  · simp -implicitDefEqProofs (disch := first | omega | (simp only [List.length_set, List.length_replicate, List.length_append, List.length_map, List.length_take, List.length_cons, List.length_nil]; omega)) [wrap64, h1]
    exact RetK.keep (hk _ _ ⟨rfl, by simp [h1]⟩)
/-- what counting the nodes does: the number goes on, as long as all is well -/
def WalkQ (g : Heap) (Γ : List HP) (b n m : Nat) (x : Exq) (neg : Bool) (v : Value) (h' : Heap) : Prop :=
  ∃ (n' : Nat) (ok : Bool), v = .bool (ok != neg) ∧ HS g (bx b [.int .i64 n'] :: Γ) h' ∧ (ok = true ↔ x.Shp m ∧ n + x.nod ≤ 15) ∧ (ok = true → n' = n + x.nod)

theorem c_IndexFunc_walk {g h : Heap} {Γ : List HP} {a fv : Value} {l : List Exq} {b n m : Nat} (Ra : Rep g a l) {f : FuncId} {c1 c2 : List Value} (hf : fnOf fv = some (f, c1, c2)) (H : HS g (bx b [.int .i64 n] :: Γ) h) (hn : n ≤ 15)
    (hp : ∀ (i : Nat) (hi : i < l.length) (u : Value) (n : Nat) (h1 : Heap), Rep g u l[i] → HS g (bx b [.int .i64 n] :: Γ) h1 → n ≤ 15 → CallE Tryz.prog f (c1 ++ u :: c2) h1 (WalkQ g Γ b n m l[i] true)) :
    CallE Tryz.prog fn_slices_IndexFunc_S_impl_Expr_impl_Expr [a, fv] h (fun v h' => ∃ (n' : Nat) (j : Int), v = .int .i64 j ∧ HS g (bx b [.int .i64 n'] :: Γ) h' ∧ (j < 0 ↔ (∀ y ∈ l, y.Shp m) ∧ n + Exq.nods l ≤ 15) ∧ (j < 0 → n' = n + Exq.nods l)) := by
  refine CallE.gen fun k hk => EN_slices_IndexFunc_S_impl_Expr_impl_Expr rfl ?_
  have hL := Ra.lt
  simp -implicitDefEqProofs (disch := first | omega | (simp only [List.length_set, List.length_replicate, List.length_append, List.length_map, List.length_take, List.length_cons, List.length_nil]; omega)) [wrap64, Ra.len]
  refine wp_count l.length (fun i e h' => e = [some a, some fv, none, none, some (.int .i64 l.length), some (.int .i64 i)] ∧ HS g (bx b [.int .i64 ((n + Exq.nods (l.take i) : Nat) : Int)] :: Γ) h' ∧ n + Exq.nods (l.take i) ≤ 15 ∧ ∀ (j : Nat) (hj : j < l.length), j < i → l[j].Shp m) ⟨rfl, by simpa [Exq.nods] using H, by simpa [Exq.nods] using hn, fun j _ hj => absurd hj (Nat.not_lt_zero j)⟩ ?_
  clear H
  rintro J i _ h1 hJ hi ⟨rfl, H, hle, hall⟩
  simp -implicitDefEqProofs (disch := first | omega | (simp only [List.length_set, List.length_replicate, List.length_append, List.length_map, List.length_take, List.length_cons, List.length_nil]; omega)) [wrap64]
  refine IteW.mk (fun hlt => ?_) (fun hge => ?_)
  · have hlx : i < l.length := by omega
    have hnt := Exq.nods_take hlx
    have hnl := Exq.nods_le l (i + 1)
    obtain ⟨u, hu, Ru⟩ := Ra.ld hlx
    have hu2 := hload_le H.base hu
    change hload _ (some (elp 3 a i)) (some 3) = some u at hu2
    simp -implicitDefEqProofs (disch := first | omega | (simp only [List.length_set, List.length_replicate, List.length_append, List.length_map, List.length_take, List.length_cons, List.length_nil]; omega)) [wrap64, Ra.X (n := 3) rfl, hu2, hf]
    refine (hp i hlx u _ h1 Ru H hle).go ?_
    rintro _ h2 ⟨n', ok, rfl, H, hok, hn'⟩
    simp -implicitDefEqProofs (disch := first | omega | (simp only [List.length_set, List.length_replicate, List.length_append, List.length_map, List.length_take, List.length_cons, List.length_nil]; omega)) [wrap64]
    refine IteW.mk (fun hq => ?_) (fun hq => ?_)
    · simp -implicitDefEqProofs (disch := first | omega | (simp only [List.length_set, List.length_replicate, List.length_append, List.length_map, List.length_take, List.length_cons, List.length_nil]; omega)) [wrap64]
      refine RetK.keep (hk _ _ ⟨n', _, rfl, H, ⟨fun hh => absurd hh (by omega), fun ⟨e1, e2⟩ => ?_⟩, fun hh => absurd hh (by omega)⟩)
      have : ok = true := hok.2 ⟨e1 _ (List.getElem_mem hlx), by omega⟩
      rw [this] at hq
      simp at hq
    · have hok1 : ok = true := by simpa using hq
      have e1 := hok.1 hok1
      have e2 := hn' hok1
      subst e2
      simp -implicitDefEqProofs (disch := first | omega | (simp only [List.length_set, List.length_replicate, List.length_append, List.length_map, List.length_take, List.length_cons, List.length_nil]; omega)) [wrap64]
      refine hJ _ _ hlx ⟨rfl, ?_, by omega, fun j hj hji => ?_⟩
      · rw [hnt, ← Nat.add_assoc]; exact H
      · by_cases hji2 : j = i
        · subst hji2; exact e1.1
        · exact hall j hj (by omega)
  · simp -implicitDefEqProofs (disch := first | omega | (simp only [List.length_set, List.length_replicate, List.length_append, List.length_map, List.length_take, List.length_cons, List.length_nil]; omega)) [wrap64]
    rw [List.take_of_length_le (by omega)] at H hle
    refine RetK.keep (hk _ _ ⟨_, _, rfl, H, ⟨fun _ => ⟨fun y hy => ?_, hle⟩, fun _ => by omega⟩, fun _ => rfl⟩)
    obtain ⟨j, hj, rfl⟩ := List.mem_iff_getElem.1 hy
    exact hall j hj (by omega)

theorem c_ContainsFunc_walk {g h : Heap} {Γ : List HP} {a fv : Value} {l : List Exq} {b n m : Nat} (Ra : Rep g a l) {f : FuncId} {c1 c2 : List Value} (hf : fnOf fv = some (f, c1, c2)) (H : HS g (bx b [.int .i64 n] :: Γ) h) (hn : n ≤ 15)
    (hp : ∀ (i : Nat) (hi : i < l.length) (u : Value) (n : Nat) (h1 : Heap), Rep g u l[i] → HS g (bx b [.int .i64 n] :: Γ) h1 → n ≤ 15 → CallE Tryz.prog f (c1 ++ u :: c2) h1 (WalkQ g Γ b n m l[i] true)) :
    CallE Tryz.prog fn_slices_ContainsFunc_S_impl_Expr_impl_Expr [a, fv] h (fun v h' => ∃ (n' : Nat) (ok : Bool), v = .bool (!ok) ∧ HS g (bx b [.int .i64 n'] :: Γ) h' ∧ (ok = true ↔ (∀ y ∈ l, y.Shp m) ∧ n + Exq.nods l ≤ 15) ∧ (ok = true → n' = n + Exq.nods l)) := by
  refine CallE.gen fun k hk => EN_slices_ContainsFunc_S_impl_Expr_impl_Expr rfl ?_
  simp -implicitDefEqProofs (disch := first | omega | (simp only [List.length_set, List.length_replicate, List.length_append, List.length_map, List.length_take, List.length_cons, List.length_nil]; omega)) [wrap64]
  refine (c_IndexFunc_walk Ra hf H hn hp).go ?_
  rintro _ h1 ⟨n', j, rfl, H, hj, hn'⟩
  simp -implicitDefEqProofs (disch := first | omega | (simp only [List.length_set, List.length_replicate, List.length_append, List.length_map, List.length_take, List.length_cons, List.length_nil]; omega)) [wrap64]
  refine RetK.keep (hk _ _ ⟨n', decide (j < 0), ?_, H, by rw [decide_eq_true_iff]; exact hj, by rw [decide_eq_true_iff]; exact hn'⟩)
  congr 1
  by_cases e : j < 0
  · simp [e]
  · simp [e]; omega

theorem c_walk : ∀ (x : Exq) {g h : Heap} {Γ : List HP} {v : Value} {b n d : Nat} {dv : Int}, dv = d → Rep g v x → HS g (bx b [.int .i64 n] :: Γ) h → n ≤ 15 → 1 ≤ d → d ≤ 7 →
    CallE Tryz.prog fn_impl_Expr_walk [v, .int .i64 dv, .pointer (some ⟨b, 0, none⟩)] h (WalkQ g Γ b n (7 - d) x false) := by
  refine Exq.ind fun x ih g h Γ v b n d dv hdv R H hn hd1 hd7 => ?_
  obtain ⟨w, rfl, k1, k2, R1⟩ := Rep_Exq.1 R
  have hnod := x.nod_eq
  have hkl := R1.lt
  obtain ⟨ln, hln⟩ : ∃ ln : Int, ln = x.kids.length := ⟨_, rfl⟩
  have hlen := R1.len
  rw [← hln] at hlen
  refine CallE.gen fun k hk => EN_impl_Expr_walk rfl ?_
  simp -implicitDefEqProofs (disch := first | omega | (simp only [List.length_set, List.length_replicate, List.length_append, List.length_map, List.length_take, List.length_cons, List.length_nil]; omega)) [wrap64]
  refine H.alloc rfl fun b4 h1 H => ?_
  simp -implicitDefEqProofs (disch := first | omega | (simp only [List.length_set, List.length_replicate, List.length_append, List.length_map, List.length_take, List.length_cons, List.length_nil]; omega)) [wrap64]
  refine H.alloc rfl fun b5 h2 H => ?_
  simp only [cells_int, cells_pointer] at H
  simp -implicitDefEqProofs (disch := first | omega | (simp only [List.length_set, List.length_replicate, List.length_append, List.length_map, List.length_take, List.length_cons, List.length_nil]; omega)) [wrap64, H.bxld0, H.sw2.bxld0]
  refine HS.bxst (o := 0) (sz := 1) (u := .int .i64 ((n : Int) + 1)) H.sw2 rfl rfl rfl rfl (by simp) fun h3 H => ?_
  have H : HS g (bx b [.int .i64 ((n + 1 : Nat) : Int)] :: bx b5 [.pointer (some ⟨b, 0, none⟩)] :: bx b4 [.int .i64 dv] :: Γ) h3 := H
  -- what is wanted where it fails
  have hno : ¬ (x.Shp (7 - d) ∧ n + x.nod ≤ 15) → k (.bool false) h3 := fun hh => hk _ _ ⟨_, false, rfl, H.sw1.drop.sw1.drop, ⟨fun e => by simp at e, fun e => absurd e hh⟩, fun e => by simp at e⟩
  -- and where the operands were asked
  have hfin : x.Nd → d ≤ 6 → ∀ {h4 : Heap} {n' : Nat} {ok : Bool}, (ok = true ↔ (∀ y ∈ x.kids, y.Shp (6 - d)) ∧ n + 1 + Exq.nods x.kids ≤ 15) → (ok = true → n' = n + 1 + Exq.nods x.kids) →
      HS g (bx b [.int .i64 n'] :: bx b5 [.pointer (some ⟨b, 0, none⟩)] :: bx b4 [.int .i64 dv] :: Γ) h4 → k (.bool ok) h4 := by
    intro hnd hd6 h4 n' ok g1 g2 H4
    refine hk _ _ ⟨n', ok, by simp, H4.sw1.drop.sw1.drop, ?_, fun e => by have := g2 e; omega⟩
    rw [g1, show 7 - d = (6 - d) + 1 by omega]
    exact ⟨fun ⟨h5, h6⟩ => ⟨⟨hnd, h5⟩, by omega⟩, fun ⟨h5, h6⟩ => ⟨h5.2, by omega⟩⟩
  -- an operand
  have hkid : d ≤ 6 → ∀ (i : Nat) (hi : i < x.kids.length) (u : Value) (n : Nat) (h1 : Heap), Rep g u x.kids[i] → HS g (bx b [.int .i64 n] :: bx b5 [.pointer (some ⟨b, 0, none⟩)] :: bx b4 [.int .i64 dv] :: Γ) h1 → n ≤ 15 →
      CallE Tryz.prog fn_impl_Expr_walk_1 ([] ++ u :: [.pointer (some ⟨b4, 0, none⟩), .pointer (some ⟨b5, 0, none⟩)]) h1 (WalkQ g (bx b5 [.pointer (some ⟨b, 0, none⟩)] :: bx b4 [.int .i64 dv] :: Γ) b n (6 - d) x.kids[i] true) := by
    intro hd6 i hi u n h1 Ru H hn
    refine CallE.gen fun k hk => EN_impl_Expr_walk_1 rfl ?_
    have Fu := Ru.aExq
    simp -implicitDefEqProofs (disch := first | omega | (simp only [List.length_set, List.length_replicate, List.length_append, List.length_map, List.length_take, List.length_cons, List.length_nil]; omega)) [wrap64, Fu, H.sw2.bxld0, H.sw1.bxld0]
    refine (ih _ (List.getElem_mem hi) (d := d + 1) (dv := dv + 1) (by omega) Ru H hn (by omega) (by omega)).go ?_
    rintro _ h2 ⟨n', ok, rfl, H, g1, g2⟩
    rw [show 7 - (d + 1) = 6 - d by omega] at g1
    simp -implicitDefEqProofs (disch := first | omega | (simp only [List.length_set, List.length_replicate, List.length_append, List.length_map, List.length_take, List.length_cons, List.length_nil]; omega)) [wrap64]
    exact RetK.keep (hk _ _ ⟨n', ok, by simp, H, g1, g2⟩)
  by_cases c1 : x.kind = 1
  · revert hno hfin
    intro hno hfin
    by_cases e1 : (6 : Int) < dv
    · simp -implicitDefEqProofs (disch := first | omega | (simp only [List.length_set, List.length_replicate, List.length_append, List.length_map, List.length_take, List.length_cons, List.length_nil]; omega)) [wrap64, c1, H.bxld0, H.sw1.bxld0, H.sw2.bxld0, e1]
      exact RetK.keep (hno fun hh => by have := hh.1; rw [show 7 - d = 0 by omega] at this; exact this)
    by_cases e2 : (15 : Int) < (n : Int) + 1
    · simp -implicitDefEqProofs (disch := first | omega | (simp only [List.length_set, List.length_replicate, List.length_append, List.length_map, List.length_take, List.length_cons, List.length_nil]; omega)) [wrap64, c1, H.bxld0, H.sw1.bxld0, H.sw2.bxld0, e1, e2]
      exact RetK.keep (hno fun hh => by have := hh.2; omega)
    simp -implicitDefEqProofs (disch := first | omega | (simp only [List.length_set, List.length_replicate, List.length_append, List.length_map, List.length_take, List.length_cons, List.length_nil]; omega)) [wrap64, c1, H.bxld0, H.sw1.bxld0, H.sw2.bxld0, e1, e2]
    refine c_in.go ?_
    rintro _ _ ⟨rfl, rfl⟩
    have e3 : 1 ≤ x.kind ∧ x.kind ≤ 9 := by omega
    have e6 := e3
    simp -implicitDefEqProofs (disch := first | omega | (simp only [List.length_set, List.length_replicate, List.length_append, List.length_map, List.length_take, List.length_cons, List.length_nil]; omega)) [wrap64, c1, e3]
    refine c_in.go ?_
    rintro _ _ ⟨rfl, rfl⟩
    by_cases e4 : 0 ≤ x.val ∧ x.val ≤ 3
    case neg =>
      simp -implicitDefEqProofs (disch := first | omega | (simp only [List.length_set, List.length_replicate, List.length_append, List.length_map, List.length_take, List.length_cons, List.length_nil]; omega)) [wrap64, c1, e4]
      exact RetK.keep (hno fun hh => e4 ⟨hh.1.nd.lo, by have := hh.1.nd.hi; simpa [Exq.most, c1] using this⟩)
    simp -implicitDefEqProofs (disch := first | omega | (simp only [List.length_set, List.length_replicate, List.length_append, List.length_map, List.length_take, List.length_cons, List.length_nil]; omega)) [wrap64, c1, e4, hlen]
    by_cases e5 : ln = 0
    case neg =>
      simp -implicitDefEqProofs (disch := first | omega | (simp only [List.length_set, List.length_replicate, List.length_append, List.length_map, List.length_take, List.length_cons, List.length_nil]; omega)) [wrap64, c1, e5, hlen]
      exact RetK.keep (hno fun hh => e5 (by have := hh.1.nd.ar; rw [← hln] at this; simpa [Exq.arity, c1, e3, e6] using this))
    simp -implicitDefEqProofs (disch := first | omega | (simp only [List.length_set, List.length_replicate, List.length_append, List.length_map, List.length_take, List.length_cons, List.length_nil]; omega)) [wrap64, c1, e5, hlen]
    refine (c_ContainsFunc_walk (m := 6 - d) R1 (c1 := []) (c2 := [.pointer (some ⟨b4, 0, none⟩), .pointer (some ⟨b5, 0, none⟩)]) rfl H (by omega) (hkid (by omega))).go ?_
    rintro _ h4 ⟨n', ok, rfl, H4, g1, g2⟩
    simp -implicitDefEqProofs (disch := first | omega | (simp only [List.length_set, List.length_replicate, List.length_append, List.length_map, List.length_take, List.length_cons, List.length_nil]; omega)) [wrap64]
    exact RetK.keep (hfin ⟨by rw [← hln]; simp only [Exq.arity, c1]; simpa [e3, e6] using e5, e4.1, by simp only [Exq.most, c1]; simpa using e4.2⟩ (by omega) g1 g2 H4)
  by_cases c2 : x.kind = 2
  · revert hno hfin
    intro hno hfin
    by_cases e1 : (6 : Int) < dv
    · simp -implicitDefEqProofs (disch := first | omega | (simp only [List.length_set, List.length_replicate, List.length_append, List.length_map, List.length_take, List.length_cons, List.length_nil]; omega)) [wrap64, c1, c2, H.bxld0, H.sw1.bxld0, H.sw2.bxld0, e1]
      exact RetK.keep (hno fun hh => by have := hh.1; rw [show 7 - d = 0 by omega] at this; exact this)
    by_cases e2 : (15 : Int) < (n : Int) + 1
    · simp -implicitDefEqProofs (disch := first | omega | (simp only [List.length_set, List.length_replicate, List.length_append, List.length_map, List.length_take, List.length_cons, List.length_nil]; omega)) [wrap64, c1, c2, H.bxld0, H.sw1.bxld0, H.sw2.bxld0, e1, e2]
      exact RetK.keep (hno fun hh => by have := hh.2; omega)
    simp -implicitDefEqProofs (disch := first | omega | (simp only [List.length_set, List.length_replicate, List.length_append, List.length_map, List.length_take, List.length_cons, List.length_nil]; omega)) [wrap64, c1, c2, H.bxld0, H.sw1.bxld0, H.sw2.bxld0, e1, e2]
    refine c_in.go ?_
    rintro _ _ ⟨rfl, rfl⟩
    have e3 : 1 ≤ x.kind ∧ x.kind ≤ 9 := by omega
    have e6 := e3
    simp -implicitDefEqProofs (disch := first | omega | (simp only [List.length_set, List.length_replicate, List.length_append, List.length_map, List.length_take, List.length_cons, List.length_nil]; omega)) [wrap64, c1, c2, e3]
    refine c_in.go ?_
    rintro _ _ ⟨rfl, rfl⟩
    by_cases e4 : 0 ≤ x.val ∧ x.val ≤ 2
    case neg =>
      simp -implicitDefEqProofs (disch := first | omega | (simp only [List.length_set, List.length_replicate, List.length_append, List.length_map, List.length_take, List.length_cons, List.length_nil]; omega)) [wrap64, c1, c2, e4]
      exact RetK.keep (hno fun hh => e4 ⟨hh.1.nd.lo, by have := hh.1.nd.hi; simpa [Exq.most, c1, c2] using this⟩)
    simp -implicitDefEqProofs (disch := first | omega | (simp only [List.length_set, List.length_replicate, List.length_append, List.length_map, List.length_take, List.length_cons, List.length_nil]; omega)) [wrap64, c1, c2, e4, hlen]
    by_cases e5 : ln = 0
    case neg =>
      simp -implicitDefEqProofs (disch := first | omega | (simp only [List.length_set, List.length_replicate, List.length_append, List.length_map, List.length_take, List.length_cons, List.length_nil]; omega)) [wrap64, c1, c2, e5, hlen]
      exact RetK.keep (hno fun hh => e5 (by have := hh.1.nd.ar; rw [← hln] at this; simpa [Exq.arity, c1, c2, e3, e6] using this))
    simp -implicitDefEqProofs (disch := first | omega | (simp only [List.length_set, List.length_replicate, List.length_append, List.length_map, List.length_take, List.length_cons, List.length_nil]; omega)) [wrap64, c1, c2, e5, hlen]
    refine (c_ContainsFunc_walk (m := 6 - d) R1 (c1 := []) (c2 := [.pointer (some ⟨b4, 0, none⟩), .pointer (some ⟨b5, 0, none⟩)]) rfl H (by omega) (hkid (by omega))).go ?_
    rintro _ h4 ⟨n', ok, rfl, H4, g1, g2⟩
    simp -implicitDefEqProofs (disch := first | omega | (simp only [List.length_set, List.length_replicate, List.length_append, List.length_map, List.length_take, List.length_cons, List.length_nil]; omega)) [wrap64]
    exact RetK.keep (hfin ⟨by rw [← hln]; simp only [Exq.arity, c1, c2]; simpa [e3, e6] using e5, e4.1, by simp only [Exq.most, c1, c2]; simpa using e4.2⟩ (by omega) g1 g2 H4)
  by_cases c3 : x.kind = 3
  · revert hno hfin
    intro hno hfin
    by_cases e1 : (6 : Int) < dv
    · simp -implicitDefEqProofs (disch := first | omega | (simp only [List.length_set, List.length_replicate, List.length_append, List.length_map, List.length_take, List.length_cons, List.length_nil]; omega)) [wrap64, c1, c2, c3, H.bxld0, H.sw1.bxld0, H.sw2.bxld0, e1]
      exact RetK.keep (hno fun hh => by have := hh.1; rw [show 7 - d = 0 by omega] at this; exact this)
    by_cases e2 : (15 : Int) < (n : Int) + 1
    · simp -implicitDefEqProofs (disch := first | omega | (simp only [List.length_set, List.length_replicate, List.length_append, List.length_map, List.length_take, List.length_cons, List.length_nil]; omega)) [wrap64, c1, c2, c3, H.bxld0, H.sw1.bxld0, H.sw2.bxld0, e1, e2]
      exact RetK.keep (hno fun hh => by have := hh.2; omega)
    simp -implicitDefEqProofs (disch := first | omega | (simp only [List.length_set, List.length_replicate, List.length_append, List.length_map, List.length_take, List.length_cons, List.length_nil]; omega)) [wrap64, c1, c2, c3, H.bxld0, H.sw1.bxld0, H.sw2.bxld0, e1, e2]
    refine c_in.go ?_
    rintro _ _ ⟨rfl, rfl⟩
    have e3 : 1 ≤ x.kind ∧ x.kind ≤ 9 := by omega
    have e6 := e3
    simp -implicitDefEqProofs (disch := first | omega | (simp only [List.length_set, List.length_replicate, List.length_append, List.length_map, List.length_take, List.length_cons, List.length_nil]; omega)) [wrap64, c1, c2, c3, e3]
    refine c_in.go ?_
    rintro _ _ ⟨rfl, rfl⟩
    by_cases e4 : 0 ≤ x.val ∧ x.val ≤ 0
    case neg =>
      simp -implicitDefEqProofs (disch := first | omega | (simp only [List.length_set, List.length_replicate, List.length_append, List.length_map, List.length_take, List.length_cons, List.length_nil]; omega)) [wrap64, c1, c2, c3, e4]
      exact RetK.keep (hno fun hh => e4 ⟨hh.1.nd.lo, by have := hh.1.nd.hi; simpa [Exq.most, c1, c2, c3] using this⟩)
    simp -implicitDefEqProofs (disch := first | omega | (simp only [List.length_set, List.length_replicate, List.length_append, List.length_map, List.length_take, List.length_cons, List.length_nil]; omega)) [wrap64, c1, c2, c3, e4, hlen]
    by_cases e5 : ln = 1
    case neg =>
      simp -implicitDefEqProofs (disch := first | omega | (simp only [List.length_set, List.length_replicate, List.length_append, List.length_map, List.length_take, List.length_cons, List.length_nil]; omega)) [wrap64, c1, c2, c3, e5, hlen]
      exact RetK.keep (hno fun hh => e5 (by have := hh.1.nd.ar; rw [← hln] at this; simpa [Exq.arity, c1, c2, c3, e3, e6] using this))
    simp -implicitDefEqProofs (disch := first | omega | (simp only [List.length_set, List.length_replicate, List.length_append, List.length_map, List.length_take, List.length_cons, List.length_nil]; omega)) [wrap64, c1, c2, c3, e5, hlen]
    refine (c_ContainsFunc_walk (m := 6 - d) R1 (c1 := []) (c2 := [.pointer (some ⟨b4, 0, none⟩), .pointer (some ⟨b5, 0, none⟩)]) rfl H (by omega) (hkid (by omega))).go ?_
    rintro _ h4 ⟨n', ok, rfl, H4, g1, g2⟩
    simp -implicitDefEqProofs (disch := first | omega | (simp only [List.length_set, List.length_replicate, List.length_append, List.length_map, List.length_take, List.length_cons, List.length_nil]; omega)) [wrap64]
    exact RetK.keep (hfin ⟨by rw [← hln]; simp only [Exq.arity, c1, c2, c3]; simpa [e3, e6] using e5, e4.1, by simp only [Exq.most, c1, c2, c3]; simpa using e4.2⟩ (by omega) g1 g2 H4)
  by_cases e1 : (6 : Int) < dv
  · simp -implicitDefEqProofs (disch := first | omega | (simp only [List.length_set, List.length_replicate, List.length_append, List.length_map, List.length_take, List.length_cons, List.length_nil]; omega)) [wrap64, c1, c2, c3, H.bxld0, H.sw1.bxld0, H.sw2.bxld0, e1]
    exact RetK.keep (hno fun hh => by have := hh.1; rw [show 7 - d = 0 by omega] at this; exact this)
  by_cases e2 : (15 : Int) < (n : Int) + 1
  · simp -implicitDefEqProofs (disch := first | omega | (simp only [List.length_set, List.length_replicate, List.length_append, List.length_map, List.length_take, List.length_cons, List.length_nil]; omega)) [wrap64, c1, c2, c3, H.bxld0, H.sw1.bxld0, H.sw2.bxld0, e1, e2]
    exact RetK.keep (hno fun hh => by have := hh.2; omega)
  simp -implicitDefEqProofs (disch := first | omega | (simp only [List.length_set, List.length_replicate, List.length_append, List.length_map, List.length_take, List.length_cons, List.length_nil]; omega)) [wrap64, c1, c2, c3, H.bxld0, H.sw1.bxld0, H.sw2.bxld0, e1, e2]
  refine c_in.go ?_
  rintro _ _ ⟨rfl, rfl⟩
  by_cases e3 : 1 ≤ x.kind ∧ x.kind ≤ 9
  case neg =>
    simp -implicitDefEqProofs (disch := first | omega | (simp only [List.length_set, List.length_replicate, List.length_append, List.length_map, List.length_take, List.length_cons, List.length_nil]; omega)) [wrap64, c1, c2, c3, e3]
    exact RetK.keep (hno fun hh => e3 hh.1.nd.kind)
  have e6 : 4 ≤ x.kind := by omega
  simp -implicitDefEqProofs (disch := first | omega | (simp only [List.length_set, List.length_replicate, List.length_append, List.length_map, List.length_take, List.length_cons, List.length_nil]; omega)) [wrap64, c1, c2, c3, e3]
  refine c_in.go ?_
  rintro _ _ ⟨rfl, rfl⟩
  by_cases e4 : 0 ≤ x.val ∧ x.val ≤ 0
  case neg =>
    simp -implicitDefEqProofs (disch := first | omega | (simp only [List.length_set, List.length_replicate, List.length_append, List.length_map, List.length_take, List.length_cons, List.length_nil]; omega)) [wrap64, c1, c2, c3, e4]
    exact RetK.keep (hno fun hh => e4 ⟨hh.1.nd.lo, by have := hh.1.nd.hi; simpa [Exq.most, c1, c2, c3] using this⟩)
  simp -implicitDefEqProofs (disch := first | omega | (simp only [List.length_set, List.length_replicate, List.length_append, List.length_map, List.length_take, List.length_cons, List.length_nil]; omega)) [wrap64, c1, c2, c3, e4, hlen]
  by_cases e5 : ln = 2
  case neg =>
    simp -implicitDefEqProofs (disch := first | omega | (simp only [List.length_set, List.length_replicate, List.length_append, List.length_map, List.length_take, List.length_cons, List.length_nil]; omega)) [wrap64, c1, c2, c3, e5, hlen]
    exact RetK.keep (hno fun hh => e5 (by have := hh.1.nd.ar; rw [← hln] at this; simpa [Exq.arity, c1, c2, c3, e3, e6] using this))
  simp -implicitDefEqProofs (disch := first | omega | (simp only [List.length_set, List.length_replicate, List.length_append, List.length_map, List.length_take, List.length_cons, List.length_nil]; omega)) [wrap64, c1, c2, c3, e5, hlen]
  refine (c_ContainsFunc_walk (m := 6 - d) R1 (c1 := []) (c2 := [.pointer (some ⟨b4, 0, none⟩), .pointer (some ⟨b5, 0, none⟩)]) rfl H (by omega) (hkid (by omega))).go ?_
  rintro _ h4 ⟨n', ok, rfl, H4, g1, g2⟩
  simp -implicitDefEqProofs (disch := first | omega | (simp only [List.length_set, List.length_replicate, List.length_append, List.length_map, List.length_take, List.length_cons, List.length_nil]; omega)) [wrap64]
  exact RetK.keep (hfin ⟨by rw [← hln]; simp only [Exq.arity, c1, c2, c3]; simpa [e3, e6] using e5, e4.1, by simp only [Exq.most, c1, c2, c3]; simpa using e4.2⟩ (by omega) g1 g2 H4)
end Go.Proofs.YtonjglbachhdcaaGreat

/-
  Instances of functions over slices: copies, and whether some element meets a condition. Printed by a program.
-/
namespace Go.Proofs.YtonjglbachhdcaaGreat
open Go
set_option linter.all false
set_option linter.unusedVariables false
set_option linter.unusedSimpArgs false
set_option linter.defProp false
set_option maxRecDepth 1000000

theorem c_IndexFunc_impl_Edge {h : Heap} {a fv : Value} {x : List (Ed)} (Ra : Rep h a x) {f : FuncId} {c1 c2 : List Value} (hf : fnOf fv = some (f, c1, c2)) (p : (Ed) → Bool)
    (hp : ∀ h1, h.le h1 → ∀ (i : Nat) (hi : i < x.length) (u : Value), Rep h1 u x[i] → CallE Tryz.prog f (c1 ++ u :: c2) h1 (fun v h' => h1.le h' ∧ v = .bool (p x[i]))) :
    CallE Tryz.prog fn_slices_IndexFunc_S_impl_Edge_impl_Edge [a, fv] h (fun v h' => h.le h' ∧ v = .int .i64 (match x.findIdx? p with | some i => (i : Int) | none => -1)) := by
  refine CallE.gen fun k hk => EN_slices_IndexFunc_S_impl_Edge_impl_Edge rfl ?_
  have hL := Ra.lt
  simp -implicitDefEqProofs (disch := first | omega | (simp only [List.length_set, List.length_replicate, List.length_append, List.length_map, List.length_take, List.length_cons, List.length_nil]; omega)) [wrap64, Ra.len]
  refine wp_count x.length (fun i e h' => e = [some a, some fv, none, none, some (.int .i64 x.length), some (.int .i64 i)] ∧ h.le h' ∧ ∀ (j : Nat) (hj : j < x.length), j < i → p x[j] = false) ⟨rfl, Heap.le.refl h, fun j _ hj => absurd hj (Nat.not_lt_zero j)⟩ ?_
  rintro J i _ h1 hJ hi ⟨rfl, hl, hn⟩
  simp -implicitDefEqProofs (disch := first | omega | (simp only [List.length_set, List.length_replicate, List.length_append, List.length_map, List.length_take, List.length_cons, List.length_nil]; omega)) [wrap64]
  refine IteW.mk (fun hlt => ?_) (fun hge => ?_)
  · have hlx : i < x.length := by omega
    obtain ⟨u, hu, Ru⟩ := (Ra.le hl).ld hlx
    change hload _ (some (elp 10 a i)) (some 10) = some u at hu
    simp -implicitDefEqProofs (disch := first | omega | (simp only [List.length_set, List.length_replicate, List.length_append, List.length_map, List.length_take, List.length_cons, List.length_nil]; omega)) [wrap64, (Ra.le hl).X (n := 10) rfl, hu, hf]
    refine (hp h1 hl i hlx u Ru).go ?_
    rintro _ h2 ⟨hl2, rfl⟩
    simp -implicitDefEqProofs (disch := first | omega | (simp only [List.length_set, List.length_replicate, List.length_append, List.length_map, List.length_take, List.length_cons, List.length_nil]; omega)) [wrap64]
    refine IteW.mk (fun hq => ?_) (fun hq => ?_)
    · simp -implicitDefEqProofs (disch := first | omega | (simp only [List.length_set, List.length_replicate, List.length_append, List.length_map, List.length_take, List.length_cons, List.length_nil]; omega)) [wrap64]
      refine RetK.keep (hk _ _ ⟨hl.trans hl2, ?_⟩)
      have h3 : x.findIdx? p = some i := by
        rw [List.findIdx?_eq_some_iff_getElem]
        exact ⟨hlx, hq, fun j hj => by rw [hn j (by omega) hj]; simp⟩
      rw [h3]
    · simp -implicitDefEqProofs (disch := first | omega | (simp only [List.length_set, List.length_replicate, List.length_append, List.length_map, List.length_take, List.length_cons, List.length_nil]; omega)) [wrap64]
      refine hJ _ _ hlx ⟨rfl, hl.trans hl2, fun j hj hji => ?_⟩
      by_cases hji2 : j = i
      · subst hji2; simpa using hq
      · exact hn j hj (by omega)
  · simp -implicitDefEqProofs (disch := first | omega | (simp only [List.length_set, List.length_replicate, List.length_append, List.length_map, List.length_take, List.length_cons, List.length_nil]; omega)) [wrap64]
    refine RetK.keep (hk _ _ ⟨hl, ?_⟩)
    have h3 : x.findIdx? p = none := by
      rw [List.findIdx?_eq_none_iff]
      intro y hy
      obtain ⟨j, hj, rfl⟩ := List.mem_iff_getElem.1 hy
      exact hn j hj (by omega)
    rw [h3]

theorem c_ContainsFunc_impl_Edge {h : Heap} {a fv : Value} {x : List (Ed)} (Ra : Rep h a x) {f : FuncId} {c1 c2 : List Value} (hf : fnOf fv = some (f, c1, c2)) (p : (Ed) → Bool)
    (hp : ∀ h1, h.le h1 → ∀ (i : Nat) (hi : i < x.length) (u : Value), Rep h1 u x[i] → CallE Tryz.prog f (c1 ++ u :: c2) h1 (fun v h' => h1.le h' ∧ v = .bool (p x[i]))) :
    CallE Tryz.prog fn_slices_ContainsFunc_S_impl_Edge_impl_Edge [a, fv] h (fun v h' => h.le h' ∧ v = .bool (x.any p)) := by
  refine CallE.gen fun k hk => EN_slices_ContainsFunc_S_impl_Edge_impl_Edge rfl ?_
  simp -implicitDefEqProofs (disch := first | omega | (simp only [List.length_set, List.length_replicate, List.length_append, List.length_map, List.length_take, List.length_cons, List.length_nil]; omega)) [wrap64]
  refine (c_IndexFunc_impl_Edge Ra hf p hp).go ?_
  rintro _ h1 ⟨hl, rfl⟩
  simp -implicitDefEqProofs (disch := first | omega | (simp only [List.length_set, List.length_replicate, List.length_append, List.length_map, List.length_take, List.length_cons, List.length_nil]; omega)) [wrap64]
  refine RetK.keep (hk _ _ ⟨hl, ?_⟩)
  congr 1
  rw [← List.findIdx?_isSome]
  cases x.findIdx? p <;> simp

end Go.Proofs.YtonjglbachhdcaaGreat

/-
  Valid expressions, edges, systems and labels, by the program.
-/
namespace Go.Proofs.YtonjglbachhdcaaGreat
open Go
set_option linter.all false
set_option linter.unusedVariables false
set_option linter.unusedSimpArgs false
set_option linter.defProp false
set_option maxRecDepth 1000000

theorem c_ExprNodes {h : Heap} {v : Value} {x : Exq} (R : Rep h v x) : CallE Tryz.prog fn_impl_ExprNodes [v] h (fun u h' => h.le h' ∧ u = .int .i64 (if x.Ok then (x.nod : Int) else 0)) := by
  have F := R.aExq
  refine CallE.gen fun k hk => EN_impl_ExprNodes rfl ?_
  simp -implicitDefEqProofs (disch := first | omega | (simp only [List.length_set, List.length_replicate, List.length_append, List.length_map, List.length_take, List.length_cons, List.length_nil]; omega)) [wrap64]
  refine HS.init.alloc rfl fun b h1 H => ?_
  simp only [cells_int] at H
  simp -implicitDefEqProofs (disch := first | omega | (simp only [List.length_set, List.length_replicate, List.length_append, List.length_map, List.length_take, List.length_cons, List.length_nil]; omega)) [wrap64]
  refine HS.bxst (o := 0) (sz := 1) (u := .int .i64 0) H rfl rfl rfl rfl (by simp) fun h2 H => ?_
  have H : HS h [bx b [.int .i64 ((0 : Nat) : Int)]] h2 := H
  simp -implicitDefEqProofs (disch := first | omega | (simp only [List.length_set, List.length_replicate, List.length_append, List.length_map, List.length_take, List.length_cons, List.length_nil]; omega)) [wrap64, F]
  refine (c_walk x (d := 1) rfl R H (by omega) (by omega) (by omega)).go ?_
  rintro _ h3 ⟨n', ok, rfl, H, g1, g2⟩
  have hok : ok = true ↔ x.Ok := by rw [g1]; simp [Exq.Ok]
  cases ok with
  | true =>
    have e := g2 rfl
    have ho := hok.1 rfl
    simp -implicitDefEqProofs (disch := first | omega | (simp only [List.length_set, List.length_replicate, List.length_append, List.length_map, List.length_take, List.length_cons, List.length_nil]; omega)) [wrap64, H.bxld0]
    refine RetK.keep (hk _ _ ⟨H.base, ?_⟩)
    rw [if_pos ho, e]; simp
  | false =>
    simp -implicitDefEqProofs (disch := first | omega | (simp only [List.length_set, List.length_replicate, List.length_append, List.length_map, List.length_take, List.length_cons, List.length_nil]; omega)) [wrap64]
    refine RetK.keep (hk _ _ ⟨H.base, ?_⟩)
    rw [if_neg (fun ho => by have := hok.2 ho; simp at this)]
theorem Exq.nod_pos (x : Exq) : 0 < x.nod := by rw [Exq.nod_eq]; omega
theorem c_ExprValid {h : Heap} {v : Value} {x : Exq} (R : Rep h v x) : CallE Tryz.prog fn_impl_ExprValid [v] h (fun u h' => h.le h' ∧ u = .bool (decide x.Ok)) := by
  have F := R.aExq
  have hp := x.nod_pos
  refine CallE.gen fun k hk => EN_impl_ExprValid rfl ?_
  simp -implicitDefEqProofs (disch := first | omega | (simp only [List.length_set, List.length_replicate, List.length_append, List.length_map, List.length_take, List.length_cons, List.length_nil]; omega)) [wrap64, F]
  refine (c_ExprNodes R).go ?_
  rintro _ h1 ⟨hl, rfl⟩
  simp -implicitDefEqProofs (disch := first | omega | (simp only [List.length_set, List.length_replicate, List.length_append, List.length_map, List.length_take, List.length_cons, List.length_nil]; omega)) [wrap64]
  refine RetK.keep (hk _ _ ⟨hl, ?_⟩)
  congr 1
  by_cases e : x.Ok
  · simp [e]; omega
  · simp [e]

theorem c_EqualFunc_Expr {h : Heap} {a b fv : Value} {x y : List Exq} (Ra : Rep h a x) (Rb : Rep h b y) {f : FuncId} (hf : fnOf fv = some (f, [], []))
    (hp : ∀ z ∈ x, ∀ {h : Heap} {a b : Value} {w : Exq}, Rep h a z → Rep h b w → CallE Tryz.prog f [a, b] h (fun u h' => h' = h ∧ u = .bool (decide (z = w)))) :
    CallE Tryz.prog fn_slices_EqualFunc_S_impl_Expr_S_impl_Expr_impl_Expr_impl_Expr [a, b, fv] h (fun u h' => h' = h ∧ u = .bool (decide (x = y))) := by
  refine CallE.gen fun k hk => EN_slices_EqualFunc_S_impl_Expr_S_impl_Expr_impl_Expr_impl_Expr rfl ?_
  have hL := Ra.lt
  simp -implicitDefEqProofs (disch := first | omega | (simp only [List.length_set, List.length_replicate, List.length_append, List.length_map, List.length_take, List.length_cons, List.length_nil]; omega)) [wrap64, Ra.len, Rb.len]
  refine IteW.mkr (fun hne => ?_) (fun heq => ?_)
  · simp -implicitDefEqProofs (disch := first | omega | (simp only [List.length_set, List.length_replicate, List.length_append, List.length_map, List.length_take, List.length_cons, List.length_nil]; omega)) [wrap64]
    exact RetK.keep (hk _ _ ⟨rfl, by simp; rintro rfl; exact hne rfl⟩)
  simp -implicitDefEqProofs (disch := first | omega | (simp only [List.length_set, List.length_replicate, List.length_append, List.length_map, List.length_take, List.length_cons, List.length_nil]; omega)) [wrap64, Ra.len]
  refine wp_count x.length (fun i e h' => h' = h ∧ e = [none, some b, some fv, none, none, none, none, some a, some (.int .i64 x.length), some (.int .i64 i)] ∧ x.take i = y.take i) ⟨rfl, by simp [heq], rfl⟩ ?_
  rintro J i _ _ hJ hi ⟨rfl, rfl, hxy⟩
  simp -implicitDefEqProofs (disch := first | omega | (simp only [List.length_set, List.length_replicate, List.length_append, List.length_map, List.length_take, List.length_cons, List.length_nil]; omega)) [wrap64]
  refine IteW.mk (fun hlt => ?_) (fun hge => ?_)
  · have hly : i < y.length := by omega
    have hlx : i < x.length := by omega
    obtain ⟨u, hu, Ru⟩ := Ra.ld hlx
    obtain ⟨w, hw, Rw⟩ := Rb.ld hly
    change hload _ (some (elp 3 a i)) (some 3) = some u at hu
    change hload _ (some (elp 3 b i)) (some 3) = some w at hw
    simp -implicitDefEqProofs (disch := first | omega | (simp only [List.length_set, List.length_replicate, List.length_append, List.length_map, List.length_take, List.length_cons, List.length_nil]; omega)) [wrap64, Ra.X (n := 3) rfl, Rb.X (n := 3) rfl, hu, hw, Ru.aExq, Rw.aExq, hf]
    refine (hp _ (List.getElem_mem hlx) Ru Rw).go ?_
    rintro _ _ ⟨rfl, rfl⟩
    simp -implicitDefEqProofs (disch := first | omega | (simp only [List.length_set, List.length_replicate, List.length_append, List.length_map, List.length_take, List.length_cons, List.length_nil]; omega)) [wrap64]
    refine IteW.mkr (fun hne => ?_) (fun heq => ?_)
    · simp -implicitDefEqProofs (disch := first | omega | (simp only [List.length_set, List.length_replicate, List.length_append, List.length_map, List.length_take, List.length_cons, List.length_nil]; omega)) [wrap64]
      exact RetK.keep (hk _ _ ⟨rfl, by simp; rintro rfl; exact hne rfl⟩)
    simp -implicitDefEqProofs (disch := first | omega | (simp only [List.length_set, List.length_replicate, List.length_append, List.length_map, List.length_take, List.length_cons, List.length_nil]; omega)) [wrap64]
    exact hJ _ _ hlx ⟨rfl, rfl, take_step hxy hlx hly heq⟩
  · simp -implicitDefEqProofs (disch := first | omega | (simp only [List.length_set, List.length_replicate, List.length_append, List.length_map, List.length_take, List.length_cons, List.length_nil]; omega)) [wrap64]
    refine RetK.keep (hk _ _ ⟨rfl, ?_⟩)
    simp
    rw [List.take_of_length_le (by omega), List.take_of_length_le (by omega)] at hxy
    exact hxy
theorem c_ExprSame' : ∀ (x : Exq) {h : Heap} {a b : Value} {y : Exq}, Rep h a x → Rep h b y → CallE Tryz.prog fn_impl_ExprSame [a, b] h (fun u h' => h' = h ∧ u = .bool (decide (x = y))) := by
  refine Exq.ind fun x ih h a b y Ra Rb => ?_
  obtain ⟨w, rfl, k1, k2, R1⟩ := Rep_Exq.1 Ra
  obtain ⟨w2, rfl, k3, k4, R2⟩ := Rep_Exq.1 Rb
  refine CallE.gen fun k hk => EN_impl_ExprSame rfl ?_
  by_cases h1 : x.kind = y.kind
  case neg =>
    simp -implicitDefEqProofs (disch := first | omega | (simp only [List.length_set, List.length_replicate, List.length_append, List.length_map, List.length_take, List.length_cons, List.length_nil]; omega)) [wrap64, h1]
    exact RetK.keep (hk _ _ ⟨rfl, by simp [Exq.ext_iff', h1]⟩)
  by_cases h2 : x.val = y.val
  case neg =>
    simp -implicitDefEqProofs (disch := first | omega | (simp only [List.length_set, List.length_replicate, List.length_append, List.length_map, List.length_take, List.length_cons, List.length_nil]; omega)) [wrap64, h1, h2]
    exact RetK.keep (hk _ _ ⟨rfl, by simp [Exq.ext_iff', h2]⟩)
  simp -implicitDefEqProofs (disch := first | omega | (simp only [List.length_set, List.length_replicate, List.length_append, List.length_map, List.length_take, List.length_cons, List.length_nil]; omega)) [wrap64, h1, h2]
  refine (c_EqualFunc_Expr R1 R2 (f := fn_impl_ExprSame) rfl ih).go ?_
  rintro _ _ ⟨rfl, rfl⟩
  simp -implicitDefEqProofs (disch := first | omega | (simp only [List.length_set, List.length_replicate, List.length_append, List.length_map, List.length_take, List.length_cons, List.length_nil]; omega)) [wrap64]
  exact RetK.keep (hk _ _ ⟨rfl, by simp [Exq.ext_iff', h1, h2]⟩)
theorem c_ExprSame {x : Exq} {h : Heap} {a b : Value} {y : Exq} (Ra : Rep h a x) (Rb : Rep h b y) : CallE Tryz.prog fn_impl_ExprSame [a, b] h (fun u h' => h' = h ∧ u = .bool (decide (x = y))) := c_ExprSame' x Ra Rb
theorem rep_zero {h : Heap} : Rep h (.agg #[.int .i64 0, .int .i64 0, .slice none 0 0]) Exq.zero := Rep_Exq.2 ⟨_, rfl, i64_0, i64_0, (Own_nils.rep.le fun _ _ h => by simp [Heap.nil] at h)⟩

theorem c_EdgeValid {h : Heap} {v : Value} {e : Ed} (R : Rep h v e) {n : Int} (hn : I64 n) : CallE Tryz.prog fn_impl_EdgeValid [v, .int .i64 n] h (fun u h' => h.le h' ∧ u = .bool (decide (e.Ok n))) := by
  obtain ⟨w1, w2, rfl, ok, R1, R2⟩ := Rep_Ed.1 R
  have G1 : Rep h (.agg #[.int .i64 e.guard.kind, .int .i64 e.guard.val, w1]) e.guard := Rep_Exq.2 ⟨w1, rfl, ok.gk, ok.gv, R1⟩
  have G2 : Rep h (.agg #[.int .i64 e.value.kind, .int .i64 e.value.val, w2]) e.value := Rep_Exq.2 ⟨w2, rfl, ok.vk, ok.vv, R2⟩
  refine CallE.gen fun k hk => EN_impl_EdgeValid rfl ?_
  have hno : ∀ {h'}, h.le h' → ¬ e.Ok n → k (.bool false) h' := fun hl hh => hk _ _ ⟨hl, by rw [decide_eq_false hh]⟩
  have hyes : ∀ {h'}, h.le h' → e.Ok n → k (.bool true) h' := fun hl hh => hk _ _ ⟨hl, by rw [decide_eq_true hh]⟩
  simp -implicitDefEqProofs (disch := first | omega | (simp only [List.length_set, List.length_replicate, List.length_append, List.length_map, List.length_take, List.length_cons, List.length_nil]; omega)) [wrap64]
  refine c_in.go ?_
  rintro _ _ ⟨rfl, rfl⟩
  by_cases q1 : 1 ≤ n ∧ n ≤ 4
  case neg => simp -implicitDefEqProofs (disch := first | omega | (simp only [List.length_set, List.length_replicate, List.length_append, List.length_map, List.length_take, List.length_cons, List.length_nil]; omega)) [wrap64, q1]; exact RetK.keep (hno (Heap.le.refl _) fun hh => q1 ⟨hh.n1, hh.n4⟩)
  simp -implicitDefEqProofs (disch := first | omega | (simp only [List.length_set, List.length_replicate, List.length_append, List.length_map, List.length_take, List.length_cons, List.length_nil]; omega)) [wrap64, q1, Ed.cs]
  refine c_in.go ?_
  rintro _ _ ⟨rfl, rfl⟩
  by_cases q2 : 0 ≤ e.frm ∧ e.frm ≤ n - 1
  case neg => simp -implicitDefEqProofs (disch := first | omega | (simp only [List.length_set, List.length_replicate, List.length_append, List.length_map, List.length_take, List.length_cons, List.length_nil]; omega)) [wrap64, q2]; exact RetK.keep (hno (Heap.le.refl _) fun hh => q2 ⟨hh.f0, by have := hh.f1; omega⟩)
  simp -implicitDefEqProofs (disch := first | omega | (simp only [List.length_set, List.length_replicate, List.length_append, List.length_map, List.length_take, List.length_cons, List.length_nil]; omega)) [wrap64, q2, Ed.cs]
  refine c_in.go ?_
  rintro _ _ ⟨rfl, rfl⟩
  by_cases q3 : 0 ≤ e.to ∧ e.to ≤ n - 1
  case neg => simp -implicitDefEqProofs (disch := first | omega | (simp only [List.length_set, List.length_replicate, List.length_append, List.length_map, List.length_take, List.length_cons, List.length_nil]; omega)) [wrap64, q3]; exact RetK.keep (hno (Heap.le.refl _) fun hh => q3 ⟨hh.t0, by have := hh.t1; omega⟩)
  simp -implicitDefEqProofs (disch := first | omega | (simp only [List.length_set, List.length_replicate, List.length_append, List.length_map, List.length_take, List.length_cons, List.length_nil]; omega)) [wrap64, q3, Ed.cs]
  refine (c_ExprValid G1).go ?_
  rintro _ h1 ⟨l1, rfl⟩
  by_cases q4 : e.guard.Ok
  case neg => simp -implicitDefEqProofs (disch := first | omega | (simp only [List.length_set, List.length_replicate, List.length_append, List.length_map, List.length_take, List.length_cons, List.length_nil]; omega)) [wrap64, q4]; exact RetK.keep (hno l1 fun hh => q4 hh.gd)
  simp -implicitDefEqProofs (disch := first | omega | (simp only [List.length_set, List.length_replicate, List.length_append, List.length_map, List.length_take, List.length_cons, List.length_nil]; omega)) [wrap64, q4, Ed.cs]
  refine c_in.go ?_
  rintro _ _ ⟨rfl, rfl⟩
  by_cases q5 : -1 ≤ e.var ∧ e.var ≤ 2
  case neg => simp -implicitDefEqProofs (disch := first | omega | (simp only [List.length_set, List.length_replicate, List.length_append, List.length_map, List.length_take, List.length_cons, List.length_nil]; omega)) [wrap64, q5]; exact RetK.keep (hno l1 fun hh => q5 ⟨hh.v0, hh.v1⟩)
  by_cases q6 : 0 ≤ e.var
  · simp -implicitDefEqProofs (disch := first | omega | (simp only [List.length_set, List.length_replicate, List.length_append, List.length_map, List.length_take, List.length_cons, List.length_nil]; omega)) [wrap64, q5, q6, Ed.cs]
    refine (c_ExprValid (G2.le l1)).go ?_
    rintro _ h2 ⟨l2, rfl⟩
    by_cases q7 : e.value.Ok
    case neg => simp -implicitDefEqProofs (disch := first | omega | (simp only [List.length_set, List.length_replicate, List.length_append, List.length_map, List.length_take, List.length_cons, List.length_nil]; omega)) [wrap64, q7, q6, Ed.cs, show ¬ e.var < 0 by omega]; exact RetK.keep (hno (l1.trans l2) fun hh => hh.vl.elim (fun h3 => q7 h3.2) (fun h3 => absurd h3.1 (by omega)))
    simp -implicitDefEqProofs (disch := first | omega | (simp only [List.length_set, List.length_replicate, List.length_append, List.length_map, List.length_take, List.length_cons, List.length_nil]; omega)) [wrap64, q7, Ed.cs]
    refine c_in.go ?_
    rintro _ _ ⟨rfl, rfl⟩
    by_cases q8 : -2 ≤ e.sync ∧ e.sync ≤ 2
    case neg => simp -implicitDefEqProofs (disch := first | omega | (simp only [List.length_set, List.length_replicate, List.length_append, List.length_map, List.length_take, List.length_cons, List.length_nil]; omega)) [wrap64, q8]; exact RetK.keep (hno (l1.trans l2) fun hh => q8 ⟨hh.s0, hh.s1⟩)
    simp -implicitDefEqProofs (disch := first | omega | (simp only [List.length_set, List.length_replicate, List.length_append, List.length_map, List.length_take, List.length_cons, List.length_nil]; omega)) [wrap64, q8]
    exact RetK.keep (hyes (l1.trans l2) ⟨q1.1, q1.2, q2.1, by omega, q3.1, by omega, q4, q5.1, q5.2, .inl ⟨q6, q7⟩, q8.1, q8.2⟩)
  · simp -implicitDefEqProofs (disch := first | omega | (simp only [List.length_set, List.length_replicate, List.length_append, List.length_map, List.length_take, List.length_cons, List.length_nil]; omega)) [wrap64, q5, q6, Ed.cs, show e.var < 0 by omega]
    refine (c_ExprSame (G2.le l1) rep_zero).go ?_
    rintro _ _ ⟨rfl, rfl⟩
    by_cases q7 : e.value = Exq.zero
    case neg => simp -implicitDefEqProofs (disch := first | omega | (simp only [List.length_set, List.length_replicate, List.length_append, List.length_map, List.length_take, List.length_cons, List.length_nil]; omega)) [wrap64, q7]; exact RetK.keep (hno l1 fun hh => hh.vl.elim (fun h3 => q6 h3.1) (fun h3 => q7 h3.2))
    simp -implicitDefEqProofs (disch := first | omega | (simp only [List.length_set, List.length_replicate, List.length_append, List.length_map, List.length_take, List.length_cons, List.length_nil]; omega)) [wrap64, q7, Ed.cs]
    refine c_in.go ?_
    rintro _ _ ⟨rfl, rfl⟩
    by_cases q8 : -2 ≤ e.sync ∧ e.sync ≤ 2
    case neg => simp -implicitDefEqProofs (disch := first | omega | (simp only [List.length_set, List.length_replicate, List.length_append, List.length_map, List.length_take, List.length_cons, List.length_nil]; omega)) [wrap64, q8]; exact RetK.keep (hno l1 fun hh => q8 ⟨hh.s0, hh.s1⟩)
    simp -implicitDefEqProofs (disch := first | omega | (simp only [List.length_set, List.length_replicate, List.length_append, List.length_map, List.length_take, List.length_cons, List.length_nil]; omega)) [wrap64, q8]
    exact RetK.keep (hyes l1 ⟨q1.1, q1.2, q2.1, by omega, q3.1, by omega, q4, q5.1, q5.2, .inr ⟨by omega, q7⟩, q8.1, q8.2⟩)

theorem c_valsOk_1 {h : Heap} {n : Int} : CallE Tryz.prog fn_impl_valsOk_1 [.int .i64 n] h (fun u h' => h' = h ∧ u = .bool (!decide (0 ≤ n ∧ n ≤ 3))) := by
  refine CallE.gen fun k hk => EN_impl_valsOk_1 rfl ?_
  simp -implicitDefEqProofs (disch := first | omega | (simp only [List.length_set, List.length_replicate, List.length_append, List.length_map, List.length_take, List.length_cons, List.length_nil]; omega)) [wrap64]
  refine c_in.go ?_
  rintro _ _ ⟨rfl, rfl⟩
  simp -implicitDefEqProofs (disch := first | omega | (simp only [List.length_set, List.length_replicate, List.length_append, List.length_map, List.length_take, List.length_cons, List.length_nil]; omega)) [wrap64]
  exact RetK.keep (hk _ _ ⟨rfl, by simp⟩)
theorem c_valsOk {h : Heap} {w : Value} {W : List Int} (Rw : Rep h w W) : CallE Tryz.prog fn_impl_valsOk [w] h (fun u h' => h.le h' ∧ u = .bool (decide (VOk W))) := by
  have hL := Rw.lt
  refine CallE.gen fun k hk => EN_impl_valsOk rfl ?_
  by_cases h1 : (W.length : Int) = 3
  case neg =>
    simp -implicitDefEqProofs (disch := first | omega | (simp only [List.length_set, List.length_replicate, List.length_append, List.length_map, List.length_take, List.length_cons, List.length_nil]; omega)) [wrap64, Rw.len, h1]
    exact RetK.keep (hk _ _ ⟨Heap.le.refl _, by rw [decide_eq_false (fun hh : VOk W => h1 (by rw [hh.len]; rfl))]⟩)
  simp -implicitDefEqProofs (disch := first | omega | (simp only [List.length_set, List.length_replicate, List.length_append, List.length_map, List.length_take, List.length_cons, List.length_nil]; omega)) [wrap64, Rw.len, h1]
  refine (c_ContainsFunc_int Rw (c1 := []) (c2 := []) (f := fn_impl_valsOk_1) rfl (fun n => !decide (0 ≤ n ∧ n ≤ 3)) ?_).go ?_
  · intro h3 hl j hj u Ru
    obtain ⟨rfl, _⟩ := Rep_int.1 Ru
    exact (c_valsOk_1 (n := W[j])).to fun _ _ ⟨h4, h5⟩ => ⟨h4 ▸ Heap.le.refl _, h5⟩
  · rintro _ h3 ⟨hl, rfl⟩
    simp -implicitDefEqProofs (disch := first | omega | (simp only [List.length_set, List.length_replicate, List.length_append, List.length_map, List.length_take, List.length_cons, List.length_nil]; omega)) [wrap64]
    refine RetK.keep (hk _ _ ⟨hl, ?_⟩)
    congr 1
    rw [Bool.eq_iff_iff]
    have : W.length = 3 := by omega
    simp [VOk, this]

theorem c_SystemValid_1 {h : Heap} {v : Value} {e : Ed} {b : Nat} {n : Int} (R : Rep h v e) (hn : I64 n) (hb : hload h (some (.pointer (some ⟨b, 0, none⟩))) none = some (.int .i64 n)) :
    CallE Tryz.prog fn_impl_SystemValid_1 [v, .pointer (some ⟨b, 0, none⟩)] h (fun u h' => h.le h' ∧ u = .bool (!decide (e.Ok n))) := by
  have F := R.aEd
  refine CallE.gen fun k hk => EN_impl_SystemValid_1 rfl ?_
  simp -implicitDefEqProofs (disch := first | omega | (simp only [List.length_set, List.length_replicate, List.length_append, List.length_map, List.length_take, List.length_cons, List.length_nil]; omega)) [wrap64, F, hb]
  refine (c_EdgeValid R hn).go ?_
  rintro _ h1 ⟨l1, rfl⟩
  simp -implicitDefEqProofs (disch := first | omega | (simp only [List.length_set, List.length_replicate, List.length_append, List.length_map, List.length_take, List.length_cons, List.length_nil]; omega)) [wrap64]
  exact RetK.keep (hk _ _ ⟨l1, rfl⟩)
theorem c_SystemValid {h : Heap} {v : Value} {s : Sy} (R : Rep h v s) : CallE Tryz.prog fn_impl_SystemValid [v] h (fun u h' => h.le h' ∧ u = .bool (decide s.Ok)) := by
  obtain ⟨v1, v2, rfl, R1, R2⟩ := Rep_Sy.1 R
  have hL := R2.lt
  refine CallE.gen fun k hk => EN_impl_SystemValid rfl ?_
  have hno : ∀ {h'}, h.le h' → ¬ s.Ok → k (.bool false) h' := fun hl hh => hk _ _ ⟨hl, by rw [decide_eq_false hh]⟩
  simp -implicitDefEqProofs (disch := first | omega | (simp only [List.length_set, List.length_replicate, List.length_append, List.length_map, List.length_take, List.length_cons, List.length_nil]; omega)) [wrap64]
  refine (c_valsOk R1).go ?_
  rintro _ h1 ⟨l1, rfl⟩
  by_cases q1 : VOk s.init
  case neg => simp -implicitDefEqProofs (disch := first | omega | (simp only [List.length_set, List.length_replicate, List.length_append, List.length_map, List.length_take, List.length_cons, List.length_nil]; omega)) [wrap64, q1]; exact RetK.keep (hno l1 fun hh => q1 hh.vs)
  simp -implicitDefEqProofs (disch := first | omega | (simp only [List.length_set, List.length_replicate, List.length_append, List.length_map, List.length_take, List.length_cons, List.length_nil]; omega)) [wrap64, q1, R2.len]
  refine c_in.go ?_
  rintro _ _ ⟨rfl, rfl⟩
  by_cases q2 : (1 : Int) ≤ s.procs.length ∧ (s.procs.length : Int) ≤ 3
  case neg => simp -implicitDefEqProofs (disch := first | omega | (simp only [List.length_set, List.length_replicate, List.length_append, List.length_map, List.length_take, List.length_cons, List.length_nil]; omega)) [wrap64, q2]; exact RetK.keep (hno l1 fun hh => q2 ⟨by have := hh.p1; omega, by have := hh.p3; omega⟩)
  simp -implicitDefEqProofs (disch := first | omega | (simp only [List.length_set, List.length_replicate, List.length_append, List.length_map, List.length_take, List.length_cons, List.length_nil]; omega)) [wrap64, q2, R2.len]
  refine wp_count s.procs.length (fun i e h' => h.le h' ∧ e = [none, none, none, none, some v2, some (.int .i64 s.procs.length), some (.int .i64 i)] ∧ ∀ p ∈ s.procs.take i, p.Ok) ⟨l1, by simp, by simp⟩ ?_
  rintro J i _ h2 hJ hi ⟨l2, rfl, hall⟩
  simp -implicitDefEqProofs (disch := first | omega | (simp only [List.length_set, List.length_replicate, List.length_append, List.length_map, List.length_take, List.length_cons, List.length_nil]; omega)) [wrap64]
  refine IteW.mk (fun hlt => ?_) (fun hge => ?_)
  · have hlx : i < s.procs.length := by omega
    obtain ⟨u, hu, Ru⟩ := (R2.le l2).ld hlx
    change hload _ (some (elp 2 v2 i)) (some 2) = some u at hu
    obtain ⟨w, rfl, k1, R3⟩ := Rep_Pr.1 Ru
    have hw1 := R3.cells
    have hw2 := R3.one
    have hel := R3.lt
    simp -implicitDefEqProofs (disch := first | omega | (simp only [List.length_set, List.length_replicate, List.length_append, List.length_map, List.length_take, List.length_cons, List.length_nil]; omega)) [wrap64, R2.X (n := 2) rfl, hu]
    refine HS.init.alloc rfl fun b h3 H => ?_
    simp -implicitDefEqProofs (disch := first | omega | (simp only [List.length_set, List.length_replicate, List.length_append, List.length_map, List.length_take, List.length_cons, List.length_nil]; omega)) [wrap64]
    refine HS.bxst (o := 0) (sz := 2) H rfl rfl rfl (by simp [hw2]) (by simp) fun h4 H => ?_
    have H : HS h2 [bx b [.int .i64 s.procs[i].locs, w]] h4 := H
    have l4 := l2.trans H.base
    have hb0 := H.bxld (o := 0) (u := .int .i64 s.procs[i].locs) rfl
    have hb1 := H.bxld (o := 1) (u := w) rfl
    simp -implicitDefEqProofs (disch := first | omega | (simp only [List.length_set, List.length_replicate, List.length_append, List.length_map, List.length_take, List.length_cons, List.length_nil]; omega)) [wrap64, hb0]
    refine c_in.go ?_
    rintro _ _ ⟨rfl, rfl⟩
    by_cases q3 : 1 ≤ s.procs[i].locs ∧ s.procs[i].locs ≤ 4
    case neg => simp -implicitDefEqProofs (disch := first | omega | (simp only [List.length_set, List.length_replicate, List.length_append, List.length_map, List.length_take, List.length_cons, List.length_nil]; omega)) [wrap64, q3, hb1, (R3.on H).len]; exact RetK.keep (hno l4 fun hh => q3 ⟨(hh.at hlx).n1, (hh.at hlx).n4⟩)
    by_cases q4 : (6 : Int) < s.procs[i].edges.length
    · simp -implicitDefEqProofs (disch := first | omega | (simp only [List.length_set, List.length_replicate, List.length_append, List.length_map, List.length_take, List.length_cons, List.length_nil]; omega)) [wrap64, q3, q4, hb1, (R3.on H).len]; exact RetK.keep (hno l4 fun hh => by have := (hh.at hlx).el; omega)
    simp -implicitDefEqProofs (disch := first | omega | (simp only [List.length_set, List.length_replicate, List.length_append, List.length_map, List.length_take, List.length_cons, List.length_nil]; omega)) [wrap64, q3, q4, hb1, (R3.on H).len]
    refine (c_ContainsFunc_impl_Edge (R3.on H) (c1 := []) (c2 := [.pointer (some ⟨b, 0, none⟩)]) (f := fn_impl_SystemValid_1) rfl (fun e => !decide (e.Ok s.procs[i].locs)) ?_).go ?_
    · intro h5 hl5 j hj u Ru
      exact c_SystemValid_1 Ru k1 (hload_le hl5 hb0)
    · rintro _ h5 ⟨l5, rfl⟩
      have hex : s.procs[i].edges.any (fun e => !decide (e.Ok s.procs[i].locs)) = false ↔ s.procs[i].Ok := by
        simp only [List.any_eq_false, Bool.not_eq_true, Bool.not_eq_false', decide_eq_true_iff]
        exact ⟨fun hh => ⟨q3.1, q3.2, by omega, hh⟩, fun hh => hh.ed⟩
      by_cases q5 : s.procs[i].Ok
      · simp -implicitDefEqProofs (disch := first | omega | (simp only [List.length_set, List.length_replicate, List.length_append, List.length_map, List.length_take, List.length_cons, List.length_nil]; omega)) [wrap64, hex.2 q5]
        refine hJ _ _ hlx ⟨l4.trans l5, by simp, fun p hp => ?_⟩
        rw [List.take_add_one, List.getElem?_eq_getElem hlx] at hp
        rcases List.mem_append.1 hp with hp | hp
        · exact hall p hp
        · simp at hp; subst hp; exact q5
      · have hf : s.procs[i].edges.any (fun e => !decide (e.Ok s.procs[i].locs)) = true := by
          cases hh : s.procs[i].edges.any (fun e => !decide (e.Ok s.procs[i].locs)) with
          | true => rfl
          | false => exact absurd (hex.1 hh) q5
        simp -implicitDefEqProofs (disch := first | omega | (simp only [List.length_set, List.length_replicate, List.length_append, List.length_map, List.length_take, List.length_cons, List.length_nil]; omega)) [wrap64, hf]
        exact RetK.keep (hno (l4.trans l5) fun hh => q5 (hh.at hlx))
  · simp -implicitDefEqProofs (disch := first | omega | (simp only [List.length_set, List.length_replicate, List.length_append, List.length_map, List.length_take, List.length_cons, List.length_nil]; omega)) [wrap64]
    rw [List.take_of_length_le (by omega)] at hall
    exact RetK.keep (hk _ _ ⟨l2, by rw [decide_eq_true (show s.Ok from ⟨q1, by omega, by omega, hall⟩)]⟩)
end Go.Proofs.YtonjglbachhdcaaGreat
