/-
  Bodies of functions in the small language, as a program printed them, and that each is what the translation gives.
-/
import Derived.Test.YthgimpheeemooaaI1
namespace Go.Proofs.Ythgimpheeemooaa
open Go
set_option linter.all false
set_option linter.defProp false
set_option maxRecDepth 1000000

def H_impl_Expr_vars : Hint := ⟨[(0, false), (1, false), (2, true), (5, true), (14, false), (15, false), (16, false)], [[0, 2, 3]]⟩
def K104_1 : C := .pl <| .st (.ext 7 1) <|
    .st (.act none (.px (some 7) (.bin .add (.v 6) (.c (.int .i64 1))))) <|
    .st (.act none (.px (some 6) (.mv (.v 7)))) .done
@[simp] def W104_1 := @C.wpe _ _ K104_1.eq_1
def K104_2 : C := .pl <| .st (.ext 7 3) <|
    .st (.act none (.pget (some 7) none 3 0 (some 3))) <|
    .st (.act none (.px (some 8) (.mv (.v 1)))) <|
    .st (.act none (.ex (some 9) (.call fn_impl_Expr_vars [.v 7, .v 8]))) .done
@[simp] def W104_2 := @C.wpe _ _ K104_2.eq_1
def K104_3 : C := .seq (.block 1 (.seq (.pl <| .st (.ext 7 2) <|
    .st (.act none (.px (some 7) (.ia 3 (.v 4) (.v 6)))) <|
    .st (.act none (.ld (some 8) (.v 7) (some 3))) <|
    .st (.act none (.pnew 3 (.c (.agg #[.int .i64 0, .int .i64 0, .slice none 0 0])) [])) <|
    .st (.act none (.pset none 3 0 3 (.v 8))) .done) K104_2)) K104_1
@[simp] def W104_3 := @C.wpe _ _ K104_3.eq_1
def K104_4 : C := .seq (.cond 7 (.v 7) (.skip) (.exit 0)) K104_3
@[simp] def W104_4 := @C.wpe _ _ K104_4.eq_1
def K104_5 : C := .seq (.pl <| .st (.ext 7 1) <|
    .st (.act none (.px (some 7) (.bin .lss (.v 6) (.v 5)))) .done) K104_4
@[simp] def W104_5 := @C.wpe _ _ K104_5.eq_1
def K104_6 : C := .block 0 (.loop 7 [0, 2, 3] K104_5)
@[simp] def W104_6 := @C.wpe _ _ K104_6.eq_1
def K104_7 : C := .seq (.pl <| .st (.ext 7 1) <|
    .st (.act none (.als 7 none 2)) <|
    .st (.act none (.pget (some 4) (some 7) 2 2 none)) <|
    .st (.act none (.px (some 5) (.lenV (.v 4)))) <|
    .st (.act none (.px (some 6) (.mv (.c (.int .i64 0))))) .done) K104_6
@[simp] def W104_7 := @C.wpe _ _ K104_7.eq_1
def K104_8 : C := .pl <| .st (.ext 7 4) <|
    .st (.act none (.px (some 7) (.mv (.v 1)))) <|
    .st (.act none (.als 8 none 2)) <|
    .st (.act none (.pget (some 9) (some 8) 2 1 none)) <|
    .st (.act none (.px (some 10) (.ia 1 (.v 7) (.v 9)))) <|
    .st (.act none (.ex none (.store 1 (.v 10) (.c (.bool true))))) .done
@[simp] def W104_8 := @C.wpe _ _ K104_8.eq_1
def K104_9 : C := .cond 7 (.v 9) K104_8 (.skip)
@[simp] def W104_9 := @C.wpe _ _ K104_9.eq_1
def K104_10 : C := .seq (.seq (.pl <| .st (.ext 7 3) <|
    .st (.act none (.als 7 none 2)) <|
    .st (.act none (.pget (some 8) (some 7) 2 0 none)) <|
    .st (.act none (.px (some 9) (.bin .eql (.v 8) (.c (.int .i64 2))))) .done) K104_9) K104_7
@[simp] def W104_10 := @C.wpe _ _ K104_10.eq_1
def B_impl_Expr_vars : C := .seq (.pl <| .st (.ext 7 0) <|
    .st (.act none (.pnew 2 (.v 0) [])) .done) K104_10
@[simp] def WB_impl_Expr_vars := @C.wpe _ _ B_impl_Expr_vars.eq_1
def R_impl_Expr_vars : FIR := ⟨B_impl_Expr_vars, 7, []⟩
theorem IR_impl_Expr_vars : cfun Try.prog H_impl_Expr_vars Try.f104 = some R_impl_Expr_vars := by kernel_rfl
theorem EN_impl_Expr_vars {args : List Value} {h : Heap} {k : Value → Heap → Prop} (hargs : args.length = 2) (hw : B_impl_Expr_vars.wp Try.prog (retQ [] k) (env0 args 7) h) : CallE Try.prog fn_impl_Expr_vars args h k := enter Try.func104 rfl IR_impl_Expr_vars hargs hw

def H_impl_RelevantVars : Hint := ⟨[(0, false), (1, false), (2, true), (4, false), (5, false)], []⟩
def K16_1 : Pl := .st (.act none (.px (some 3) (.mv (.v 7)))) <|
    .st (.act none (.px (some 4) (.mv (.c (.bool true))))) .done
@[simp] def W16_1 := @Pl.wpe _ _ K16_1.eq_1
def K16_2 : C := .seq (.pl <| .st (.ext 5 3) <|
    .st (.act none (.pget (some 5) none 2 0 (some 2))) <|
    .st (.act none (.px (some 6) (.mv (.v 1)))) <|
    .st (.act none (.ex (some 7) (.call fn_impl_System_relevant [.v 5, .v 6]))) K16_1) (.ret)
@[simp] def W16_2 := @C.wpe _ _ K16_2.eq_1
def K16_3 : C := .seq (.pl <| .st (.ext 5 0) <|
    .st (.act none (.px (some 3) (.mv (.c (.slice none 0 0))))) <|
    .st (.act none (.px (some 4) (.mv (.c (.bool false))))) .done) (.ret)
@[simp] def W16_3 := @C.wpe _ _ K16_3.eq_1
def K16_4 : C := .cond 5 (.v 12) K16_3 (.skip)
@[simp] def W16_4 := @C.wpe _ _ K16_4.eq_1
def K16_5 : Pl := .st (.act (some (.v 8, false)) (.px (some 11) (.un .not (.v 10)))) <|
    .st (.act none (.px (some 12) (.pick (.v 8) (.c (.bool true)) (.v 11)))) .done
@[simp] def W16_5 := @Pl.wpe _ _ K16_5.eq_1
def K16_6 : Pl := .st (.act none (.px (some 7) (.un .not (.v 6)))) <|
    .st (.act none (.px (some 8) (.mv (.v 7)))) <|
    .st (.act (some (.v 8, false)) (.px (some 9) (.mv (.v 1)))) <|
    .st (.act (some (.v 8, false)) (.ex (some 10) (.call fn_impl_LabelsValid [.v 9]))) K16_5
@[simp] def W16_6 := @Pl.wpe _ _ K16_6.eq_1
def K16_7 : C := .seq (.seq (.pl <| .st (.ext 5 8) <|
    .st (.act none (.pget (some 5) none 2 0 (some 2))) <|
    .st (.act none (.ex (some 6) (.call fn_impl_SystemValid [.v 5]))) K16_6) K16_4) K16_2
@[simp] def W16_7 := @C.wpe _ _ K16_7.eq_1
def B_impl_RelevantVars : C := .seq (.pl <| .st (.ext 5 0) <|
    .st (.act none (.pnew 2 (.v 0) [])) <|
    .st (.act none (.px (some 3) (.mv (.c (.slice none 0 0))))) <|
    .st (.act none (.px (some 4) (.mv (.c (.bool false))))) .done) K16_7
@[simp] def WB_impl_RelevantVars := @C.wpe _ _ B_impl_RelevantVars.eq_1
def R_impl_RelevantVars : FIR := ⟨B_impl_RelevantVars, 5, [(3, none), (4, none)]⟩
theorem IR_impl_RelevantVars : cfun Try.prog H_impl_RelevantVars Try.f16 = some R_impl_RelevantVars := by kernel_rfl
theorem EN_impl_RelevantVars {args : List Value} {h : Heap} {k : Value → Heap → Prop} (hargs : args.length = 2) (hw : B_impl_RelevantVars.wp Try.prog (retQ [(3, none), (4, none)] k) (env0 args 5) h) : CallE Try.prog fn_impl_RelevantVars args h k := enter Try.func16 rfl IR_impl_RelevantVars hargs hw

def H_impl_System_relevant : Hint := ⟨[(0, false), (1, false), (2, true), (4, false), (5, false), (7, true), (9, true), (11, true), (13, true), (15, true), (17, false), (18, false), (19, false), (28, false), (29, false), (30, false), (35, false), (36, false), (37, false), (47, false), (50, false), (51, false), (52, false), (57, false), (58, false), (59, false)], [[0, 1, 3, 5, 6, 7, 8, 9, 13, 14, 15, 16, 17, 18, 19, 20, 21, 22, 23, 24, 25], [0, 1, 3, 5, 6, 7, 8, 9, 10, 11, 12, 16, 17, 18, 19, 20, 21, 22, 23, 24, 25], [0, 1, 3, 5, 6, 7, 8, 9, 10, 11, 12, 19, 20, 21, 22, 23, 24, 25], [0, 1, 3, 5, 6, 7, 8, 9, 10, 11, 12, 13, 14, 15, 16, 17, 18, 20, 21, 22, 23, 24, 25], [0, 1, 3, 5, 6, 7, 8, 9, 10, 11, 12, 13, 14, 15, 16, 17, 18, 23, 24, 25], [0, 1, 3, 5, 6, 7, 8, 9, 10, 11, 12, 13, 14, 15, 16, 17, 18]]⟩
def K67_1 : C := .seq (.pl <| .st (.ext 26 1) <|
    .st (.act none (.px (some 26) (.mv (.v 4)))) <|
    .st (.act none (.px (some 3) (.mv (.v 26)))) .done) (.ret)
@[simp] def W67_1 := @C.wpe _ _ K67_1.eq_1
def K67_2 : C := .pl <| .st (.ext 26 1) <|
    .st (.act none (.px (some 26) (.bin .add (.v 19) (.c (.int .i64 1))))) <|
    .st (.act none (.px (some 19) (.mv (.v 26)))) .done
@[simp] def W67_2 := @C.wpe _ _ K67_2.eq_1
def K67_3 : C := .pl <| .st (.ext 26 1) <|
    .st (.act none (.px (some 26) (.bin .add (.v 22) (.c (.int .i64 1))))) <|
    .st (.act none (.px (some 22) (.mv (.v 26)))) .done
@[simp] def W67_3 := @C.wpe _ _ K67_3.eq_1
def K67_4 : C := .pl <| .st (.ext 26 1) <|
    .st (.act none (.px (some 26) (.bin .add (.v 25) (.c (.int .i64 1))))) <|
    .st (.act none (.px (some 25) (.mv (.v 26)))) .done
@[simp] def W67_4 := @C.wpe _ _ K67_4.eq_1
def K67_5 : C := .pl <| .st (.ext 26 4) <|
    .st (.act none (.als 26 none 9)) <|
    .st (.act none (.pget (some 27) (some 26) 9 6 (some 3))) <|
    .st (.act none (.px (some 28) (.mv (.v 4)))) <|
    .st (.act none (.ex (some 29) (.call fn_impl_Expr_vars [.v 27, .v 28]))) .done
@[simp] def W67_5 := @C.wpe _ _ K67_5.eq_1
def K67_6 : C := .cond 26 (.v 35) K67_5 (.skip)
@[simp] def W67_6 := @C.wpe _ _ K67_6.eq_1
def K67_7 : C := .seq (.pl <| .st (.ext 26 10) <|
    .st (.act none (.als 26 none 9)) <|
    .st (.act none (.pget (some 27) (some 26) 9 5 none)) <|
    .st (.act none (.px (some 28) (.bin .geq (.v 27) (.c (.int .i64 0))))) <|
    .st (.act none (.px (some 29) (.mv (.v 28)))) <|
    .st (.act (some (.v 29, true)) (.px (some 30) (.mv (.v 4)))) <|
    .st (.act (some (.v 29, true)) (.als 31 none 9)) <|
    .st (.act (some (.v 29, true)) (.pget (some 32) (some 31) 9 5 none)) <|
    .st (.act (some (.v 29, true)) (.px (some 33) (.ia 1 (.v 30) (.v 32)))) <|
    .st (.act (some (.v 29, true)) (.ld (some 34) (.v 33) none)) <|
    .st (.act none (.px (some 35) (.pick (.v 29) (.v 34) (.c (.bool false))))) .done) K67_6
@[simp] def W67_7 := @C.wpe _ _ K67_7.eq_1
def K67_8 : C := .seq (.block 11 (.seq (.pl <| .st (.ext 26 2) <|
    .st (.act none (.px (some 26) (.ia 10 (.v 23) (.v 25)))) <|
    .st (.act none (.ld (some 27) (.v 26) (some 10))) <|
    .st (.act none (.pnew 9 (.c (.agg #[.int .i64 0, .int .i64 0, .int .i64 0, .int .i64 0, .slice none 0 0, .int .i64 0, .int .i64 0, .int .i64 0, .slice none 0 0, .int .i64 0])) [])) <|
    .st (.act none (.pset none 9 0 10 (.v 27))) .done) K67_7)) K67_4
@[simp] def W67_8 := @C.wpe _ _ K67_8.eq_1
def K67_9 : C := .seq (.cond 26 (.v 26) (.skip) (.exit 10)) K67_8
@[simp] def W67_9 := @C.wpe _ _ K67_9.eq_1
def K67_10 : C := .seq (.pl <| .st (.ext 26 1) <|
    .st (.act none (.px (some 26) (.bin .lss (.v 25) (.v 24)))) .done) K67_9
@[simp] def W67_10 := @C.wpe _ _ K67_10.eq_1
def K67_11 : C := .block 10 (.loop 26 [0, 1, 3, 5, 6, 7, 8, 9, 10, 11, 12, 13, 14, 15, 16, 17, 18] K67_10)
@[simp] def W67_11 := @C.wpe _ _ K67_11.eq_1
def K67_12 : C := .seq (.pl <| .st (.ext 26 1) <|
    .st (.act none (.als 26 none 8)) <|
    .st (.act none (.pget (some 23) (some 26) 8 1 none)) <|
    .st (.act none (.px (some 24) (.lenV (.v 23)))) <|
    .st (.act none (.px (some 25) (.mv (.c (.int .i64 0))))) .done) K67_11
@[simp] def W67_12 := @C.wpe _ _ K67_12.eq_1
def K67_13 : C := .seq (.block 9 (.seq (.pl <| .st (.ext 26 2) <|
    .st (.act none (.px (some 26) (.ia 2 (.v 20) (.v 22)))) <|
    .st (.act none (.ld (some 27) (.v 26) (some 2))) <|
    .st (.act none (.pnew 8 (.c (.agg #[.int .i64 0, .slice none 0 0])) [])) <|
    .st (.act none (.pset none 8 0 2 (.v 27))) .done) K67_12)) K67_3
@[simp] def W67_13 := @C.wpe _ _ K67_13.eq_1
def K67_14 : C := .seq (.cond 26 (.v 26) (.skip) (.exit 8)) K67_13
@[simp] def W67_14 := @C.wpe _ _ K67_14.eq_1
def K67_15 : C := .seq (.pl <| .st (.ext 26 1) <|
    .st (.act none (.px (some 26) (.bin .lss (.v 22) (.v 21)))) .done) K67_14
@[simp] def W67_15 := @C.wpe _ _ K67_15.eq_1
def K67_16 : C := .block 8 (.loop 26 [0, 1, 3, 5, 6, 7, 8, 9, 10, 11, 12, 13, 14, 15, 16, 17, 18, 23, 24, 25] K67_15)
@[simp] def W67_16 := @C.wpe _ _ K67_16.eq_1
def K67_17 : C := .seq (.block 7 (.seq (.pl <| .st (.ext 26 1) <|
    .st (.act none (.als 26 none 2)) <|
    .st (.act none (.pget (some 20) (some 26) 2 1 none)) <|
    .st (.act none (.px (some 21) (.lenV (.v 20)))) <|
    .st (.act none (.px (some 22) (.mv (.c (.int .i64 0))))) .done) K67_16)) K67_2
@[simp] def W67_17 := @C.wpe _ _ K67_17.eq_1
def K67_18 : C := .seq (.cond 26 (.v 26) (.skip) (.exit 6)) K67_17
@[simp] def W67_18 := @C.wpe _ _ K67_18.eq_1
def K67_19 : C := .seq (.pl <| .st (.ext 26 1) <|
    .st (.act none (.px (some 26) (.bin .lss (.v 19) (.c (.int .i64 3))))) .done) K67_18
@[simp] def W67_19 := @C.wpe _ _ K67_19.eq_1
def K67_20 : C := .block 6 (.loop 26 [0, 1, 3, 5, 6, 7, 8, 9, 10, 11, 12, 13, 14, 15, 16, 17, 18, 20, 21, 22, 23, 24, 25] K67_19)
@[simp] def W67_20 := @C.wpe _ _ K67_20.eq_1
def K67_21 : C := .seq (.seq (.pl <| .st (.ext 26 0) <|
    .st (.act none (.px (some 19) (.mv (.c (.int .i64 0))))) .done) K67_20) K67_1
@[simp] def W67_21 := @C.wpe _ _ K67_21.eq_1
def K67_22 : C := .pl <| .st (.ext 26 1) <|
    .st (.act none (.px (some 26) (.bin .add (.v 15) (.c (.int .i64 1))))) <|
    .st (.act none (.px (some 15) (.mv (.v 26)))) .done
@[simp] def W67_22 := @C.wpe _ _ K67_22.eq_1
def K67_23 : C := .pl <| .st (.ext 26 1) <|
    .st (.act none (.px (some 26) (.bin .add (.v 18) (.c (.int .i64 1))))) <|
    .st (.act none (.px (some 18) (.mv (.v 26)))) .done
@[simp] def W67_23 := @C.wpe _ _ K67_23.eq_1
def K67_24 : C := .pl <| .st (.ext 26 4) <|
    .st (.act none (.als 26 none 7)) <|
    .st (.act none (.pget (some 27) (some 26) 7 2 (some 3))) <|
    .st (.act none (.px (some 28) (.mv (.v 4)))) <|
    .st (.act none (.ex (some 29) (.call fn_impl_Expr_vars [.v 27, .v 28]))) .done
@[simp] def W67_24 := @C.wpe _ _ K67_24.eq_1
def K67_25 : C := .seq (.block 5 (.seq (.pl <| .st (.ext 26 2) <|
    .st (.act none (.px (some 26) (.ia 10 (.v 16) (.v 18)))) <|
    .st (.act none (.ld (some 27) (.v 26) (some 10))) <|
    .st (.act none (.pnew 7 (.c (.agg #[.int .i64 0, .int .i64 0, .int .i64 0, .int .i64 0, .slice none 0 0, .int .i64 0, .int .i64 0, .int .i64 0, .slice none 0 0, .int .i64 0])) [])) <|
    .st (.act none (.pset none 7 0 10 (.v 27))) .done) K67_24)) K67_23
@[simp] def W67_25 := @C.wpe _ _ K67_25.eq_1
def K67_26 : C := .seq (.cond 26 (.v 26) (.skip) (.exit 4)) K67_25
@[simp] def W67_26 := @C.wpe _ _ K67_26.eq_1
def K67_27 : C := .seq (.pl <| .st (.ext 26 1) <|
    .st (.act none (.px (some 26) (.bin .lss (.v 18) (.v 17)))) .done) K67_26
@[simp] def W67_27 := @C.wpe _ _ K67_27.eq_1
def K67_28 : C := .block 4 (.loop 26 [0, 1, 3, 5, 6, 7, 8, 9, 10, 11, 12, 19, 20, 21, 22, 23, 24, 25] K67_27)
@[simp] def W67_28 := @C.wpe _ _ K67_28.eq_1
def K67_29 : C := .seq (.pl <| .st (.ext 26 1) <|
    .st (.act none (.als 26 none 6)) <|
    .st (.act none (.pget (some 16) (some 26) 6 1 none)) <|
    .st (.act none (.px (some 17) (.lenV (.v 16)))) <|
    .st (.act none (.px (some 18) (.mv (.c (.int .i64 0))))) .done) K67_28
@[simp] def W67_29 := @C.wpe _ _ K67_29.eq_1
def K67_30 : C := .seq (.block 3 (.seq (.pl <| .st (.ext 26 2) <|
    .st (.act none (.px (some 26) (.ia 2 (.v 13) (.v 15)))) <|
    .st (.act none (.ld (some 27) (.v 26) (some 2))) <|
    .st (.act none (.pnew 6 (.c (.agg #[.int .i64 0, .slice none 0 0])) [])) <|
    .st (.act none (.pset none 6 0 2 (.v 27))) .done) K67_29)) K67_22
@[simp] def W67_30 := @C.wpe _ _ K67_30.eq_1
def K67_31 : C := .seq (.cond 26 (.v 26) (.skip) (.exit 2)) K67_30
@[simp] def W67_31 := @C.wpe _ _ K67_31.eq_1
def K67_32 : C := .seq (.pl <| .st (.ext 26 1) <|
    .st (.act none (.px (some 26) (.bin .lss (.v 15) (.v 14)))) .done) K67_31
@[simp] def W67_32 := @C.wpe _ _ K67_32.eq_1
def K67_33 : C := .block 2 (.loop 26 [0, 1, 3, 5, 6, 7, 8, 9, 10, 11, 12, 16, 17, 18, 19, 20, 21, 22, 23, 24, 25] K67_32)
@[simp] def W67_33 := @C.wpe _ _ K67_33.eq_1
def K67_34 : C := .seq (.seq (.pl <| .st (.ext 26 1) <|
    .st (.act none (.als 26 none 2)) <|
    .st (.act none (.pget (some 13) (some 26) 2 1 none)) <|
    .st (.act none (.px (some 14) (.lenV (.v 13)))) <|
    .st (.act none (.px (some 15) (.mv (.c (.int .i64 0))))) .done) K67_33) K67_21
@[simp] def W67_34 := @C.wpe _ _ K67_34.eq_1
def K67_35 : C := .pl <| .st (.ext 26 1) <|
    .st (.act none (.px (some 26) (.bin .add (.v 12) (.c (.int .i64 1))))) <|
    .st (.act none (.px (some 12) (.mv (.v 26)))) .done
@[simp] def W67_35 := @C.wpe _ _ K67_35.eq_1
def K67_36 : C := .pl <| .st (.ext 26 3) <|
    .st (.act none (.pget (some 26) none 5 0 (some 3))) <|
    .st (.act none (.px (some 27) (.mv (.v 4)))) <|
    .st (.act none (.ex (some 28) (.call fn_impl_Expr_vars [.v 26, .v 27]))) .done
@[simp] def W67_36 := @C.wpe _ _ K67_36.eq_1
def K67_37 : C := .seq (.block 1 (.seq (.pl <| .st (.ext 26 2) <|
    .st (.act none (.px (some 26) (.ia 3 (.v 10) (.v 12)))) <|
    .st (.act none (.ld (some 27) (.v 26) (some 3))) <|
    .st (.act none (.pnew 5 (.c (.agg #[.int .i64 0, .int .i64 0, .slice none 0 0])) [])) <|
    .st (.act none (.pset none 5 0 3 (.v 27))) .done) K67_36)) K67_35
@[simp] def W67_37 := @C.wpe _ _ K67_37.eq_1
def K67_38 : C := .seq (.cond 26 (.v 26) (.skip) (.exit 0)) K67_37
@[simp] def W67_38 := @C.wpe _ _ K67_38.eq_1
def K67_39 : C := .seq (.pl <| .st (.ext 26 1) <|
    .st (.act none (.px (some 26) (.bin .lss (.v 12) (.v 11)))) .done) K67_38
@[simp] def W67_39 := @C.wpe _ _ K67_39.eq_1
def K67_40 : C := .block 0 (.loop 26 [0, 1, 3, 5, 6, 7, 8, 9, 13, 14, 15, 16, 17, 18, 19, 20, 21, 22, 23, 24, 25] K67_39)
@[simp] def W67_40 := @C.wpe _ _ K67_40.eq_1
def K67_41 : C := .seq (.seq (.pl <| .st (.ext 26 0) <|
    .st (.act none (.px (some 10) (.mv (.v 1)))) <|
    .st (.act none (.px (some 11) (.lenV (.v 10)))) <|
    .st (.act none (.px (some 12) (.mv (.c (.int .i64 0))))) .done) K67_40) K67_34
@[simp] def W67_41 := @C.wpe _ _ K67_41.eq_1
def K67_42 : Pl := .st (.act none (.px (some 4) (.mv (.v 26)))) .done
@[simp] def W67_42 := @Pl.wpe _ _ K67_42.eq_1
def K67_43 : C := .seq (.pl <| .st (.ext 26 1) <|
    .st (.act none (.ex (some 26) (.mks 1 1 [.bool false] (.c (.int .i64 3)) (.c (.int .i64 3))))) K67_42) K67_41
@[simp] def W67_43 := @C.wpe _ _ K67_43.eq_1
def B_impl_System_relevant : C := .seq (.pl <| .st (.ext 26 0) <|
    .st (.act none (.pnew 2 (.v 0) [])) <|
    .st (.act none (.px (some 3) (.mv (.c (.slice none 0 0))))) .done) K67_43
@[simp] def WB_impl_System_relevant := @C.wpe _ _ B_impl_System_relevant.eq_1
def R_impl_System_relevant : FIR := ⟨B_impl_System_relevant, 26, [(3, none)]⟩
theorem IR_impl_System_relevant : cfun Try.prog H_impl_System_relevant Try.f67 = some R_impl_System_relevant := by kernel_rfl
theorem EN_impl_System_relevant {args : List Value} {h : Heap} {k : Value → Heap → Prop} (hargs : args.length = 2) (hw : B_impl_System_relevant.wp Try.prog (retQ [(3, none)] k) (env0 args 26) h) : CallE Try.prog fn_impl_System_relevant args h k := enter Try.func67 rfl IR_impl_System_relevant hargs hw

def H_spec_RelevantVars : Hint := ⟨[(0, false), (1, false), (2, true), (4, false), (5, false), (6, false), (7, false), (8, false), (9, false), (10, false), (11, false), (12, false), (13, true)], [[0, 3, 4, 7, 8, 9, 10, 11, 12], [0, 1, 3, 4, 6, 8, 9, 10, 11, 12], [0, 1, 3, 4, 6, 9, 10, 11, 12], [0, 1, 3, 4, 6, 7, 8, 10, 11, 12], [0, 1, 3, 4, 6, 7, 8, 11, 12], [0, 1, 3, 4, 6, 7, 8, 12]]⟩
def K13_1 : C := .seq (.pl <| .st (.ext 13 1) <|
    .st (.act none (.px (some 13) (.mv (.v 5)))) <|
    .st (.act none (.px (some 3) (.mv (.v 13)))) <|
    .st (.act none (.px (some 4) (.mv (.c (.bool true))))) .done) (.ret)
@[simp] def W13_1 := @C.wpe _ _ K13_1.eq_1
def K13_2 : C := .pl <| .st (.ext 13 2) <|
    .st (.act none (.px (some 13) (.mv (.v 9)))) <|
    .st (.act none (.px (some 14) (.bin .add (.v 13) (.c (.int .i64 1))))) <|
    .st (.act none (.px (some 9) (.mv (.v 14)))) .done
@[simp] def W13_2 := @C.wpe _ _ K13_2.eq_1
def K13_3 : C := .pl <| .st (.ext 13 2) <|
    .st (.act none (.px (some 13) (.mv (.v 10)))) <|
    .st (.act none (.px (some 14) (.bin .add (.v 13) (.c (.int .i64 1))))) <|
    .st (.act none (.px (some 10) (.mv (.v 14)))) .done
@[simp] def W13_3 := @C.wpe _ _ K13_3.eq_1
def K13_4 : C := .pl <| .st (.ext 13 2) <|
    .st (.act none (.px (some 13) (.mv (.v 11)))) <|
    .st (.act none (.px (some 14) (.bin .add (.v 13) (.c (.int .i64 1))))) <|
    .st (.act none (.px (some 11) (.mv (.v 14)))) .done
@[simp] def W13_4 := @C.wpe _ _ K13_4.eq_1
def K13_5 : Pl := .st (.act none (.px (some 5) (.mv (.v 16)))) .done
@[simp] def W13_5 := @Pl.wpe _ _ K13_5.eq_1
def K13_6 : C := .pl <| .st (.ext 13 4) <|
    .st (.act none (.px (some 13) (.mv (.v 5)))) <|
    .st (.act none (.als 14 none 12)) <|
    .st (.act none (.pget (some 15) (some 14) 12 6 (some 3))) <|
    .st (.act none (.ex (some 16) (.call fn_spec_l1Mark [.v 13, .v 15]))) K13_5
@[simp] def W13_6 := @C.wpe _ _ K13_6.eq_1
def K13_7 : C := .cond 13 (.v 22) K13_6 (.skip)
@[simp] def W13_7 := @C.wpe _ _ K13_7.eq_1
def K13_8 : C := .seq (.pl <| .st (.ext 13 10) <|
    .st (.act none (.als 13 none 12)) <|
    .st (.act none (.pget (some 14) (some 13) 12 5 none)) <|
    .st (.act none (.px (some 15) (.bin .geq (.v 14) (.c (.int .i64 0))))) <|
    .st (.act none (.px (some 16) (.mv (.v 15)))) <|
    .st (.act (some (.v 16, true)) (.px (some 17) (.mv (.v 5)))) <|
    .st (.act (some (.v 16, true)) (.als 18 none 12)) <|
    .st (.act (some (.v 16, true)) (.pget (some 19) (some 18) 12 5 none)) <|
    .st (.act (some (.v 16, true)) (.px (some 20) (.ia 1 (.v 17) (.v 19)))) <|
    .st (.act (some (.v 16, true)) (.ld (some 21) (.v 20) none)) <|
    .st (.act none (.px (some 22) (.pick (.v 16) (.v 21) (.c (.bool false))))) .done) K13_7
@[simp] def W13_8 := @C.wpe _ _ K13_8.eq_1
def K13_9 : C := .seq (.block 11 (.seq (.pl <| .st (.ext 13 9) <|
    .st (.act none (.als 13 none 2)) <|
    .st (.act none (.pget (some 14) (some 13) 2 1 none)) <|
    .st (.act none (.px (some 15) (.mv (.v 10)))) <|
    .st (.act none (.px (some 16) (.ia 2 (.v 14) (.v 15)))) <|
    .st (.act none (.px (some 17) (.fa 1 (.v 16)))) <|
    .st (.act none (.ld (some 18) (.v 17) none)) <|
    .st (.act none (.px (some 19) (.mv (.v 11)))) <|
    .st (.act none (.px (some 20) (.ia 10 (.v 18) (.v 19)))) <|
    .st (.act none (.ld (some 21) (.v 20) (some 10))) <|
    .st (.act none (.pnew 12 (.c (.agg #[.int .i64 0, .int .i64 0, .int .i64 0, .int .i64 0, .slice none 0 0, .int .i64 0, .int .i64 0, .int .i64 0, .slice none 0 0, .int .i64 0])) [])) <|
    .st (.act none (.pset none 12 0 10 (.v 21))) .done) K13_8)) K13_4
@[simp] def W13_9 := @C.wpe _ _ K13_9.eq_1
def K13_10 : C := .cond 13 (.v 21) (.skip) (.exit 10)
@[simp] def W13_10 := @C.wpe _ _ K13_10.eq_1
def K13_11 : C := .seq (.seq (.pl <| .st (.ext 13 9) <|
    .st (.act none (.px (some 13) (.mv (.v 11)))) <|
    .st (.act none (.als 14 none 2)) <|
    .st (.act none (.pget (some 15) (some 14) 2 1 none)) <|
    .st (.act none (.px (some 16) (.mv (.v 10)))) <|
    .st (.act none (.px (some 17) (.ia 2 (.v 15) (.v 16)))) <|
    .st (.act none (.px (some 18) (.fa 1 (.v 17)))) <|
    .st (.act none (.ld (some 19) (.v 18) none)) <|
    .st (.act none (.px (some 20) (.lenV (.v 19)))) <|
    .st (.act none (.px (some 21) (.bin .lss (.v 13) (.v 20)))) .done) K13_10) K13_9
@[simp] def W13_11 := @C.wpe _ _ K13_11.eq_1
def K13_12 : C := .block 10 (.loop 13 [0, 1, 3, 4, 6, 7, 8, 12] K13_11)
@[simp] def W13_12 := @C.wpe _ _ K13_12.eq_1
def K13_13 : C := .seq (.block 9 (.seq (.pl <| .st (.ext 13 0) <|
    .st (.act none (.px (some 11) (.mv (.c (.int .i64 0))))) .done) K13_12)) K13_3
@[simp] def W13_13 := @C.wpe _ _ K13_13.eq_1
def K13_14 : C := .cond 13 (.v 17) (.skip) (.exit 8)
@[simp] def W13_14 := @C.wpe _ _ K13_14.eq_1
def K13_15 : C := .seq (.seq (.pl <| .st (.ext 13 5) <|
    .st (.act none (.px (some 13) (.mv (.v 10)))) <|
    .st (.act none (.als 14 none 2)) <|
    .st (.act none (.pget (some 15) (some 14) 2 1 none)) <|
    .st (.act none (.px (some 16) (.lenV (.v 15)))) <|
    .st (.act none (.px (some 17) (.bin .lss (.v 13) (.v 16)))) .done) K13_14) K13_13
@[simp] def W13_15 := @C.wpe _ _ K13_15.eq_1
def K13_16 : C := .block 8 (.loop 13 [0, 1, 3, 4, 6, 7, 8, 11, 12] K13_15)
@[simp] def W13_16 := @C.wpe _ _ K13_16.eq_1
def K13_17 : C := .seq (.block 7 (.seq (.pl <| .st (.ext 13 0) <|
    .st (.act none (.px (some 10) (.mv (.c (.int .i64 0))))) .done) K13_16)) K13_2
@[simp] def W13_17 := @C.wpe _ _ K13_17.eq_1
def K13_18 : C := .cond 13 (.v 14) (.skip) (.exit 6)
@[simp] def W13_18 := @C.wpe _ _ K13_18.eq_1
def K13_19 : C := .seq (.seq (.pl <| .st (.ext 13 2) <|
    .st (.act none (.px (some 13) (.mv (.v 9)))) <|
    .st (.act none (.px (some 14) (.bin .lss (.v 13) (.c (.int .i64 3))))) .done) K13_18) K13_17
@[simp] def W13_19 := @C.wpe _ _ K13_19.eq_1
def K13_20 : C := .block 6 (.loop 13 [0, 1, 3, 4, 6, 7, 8, 10, 11, 12] K13_19)
@[simp] def W13_20 := @C.wpe _ _ K13_20.eq_1
def K13_21 : C := .seq (.seq (.pl <| .st (.ext 13 0) <|
    .st (.act none (.px (some 9) (.mv (.c (.int .i64 0))))) .done) K13_20) K13_1
@[simp] def W13_21 := @C.wpe _ _ K13_21.eq_1
def K13_22 : C := .pl <| .st (.ext 13 2) <|
    .st (.act none (.px (some 13) (.mv (.v 7)))) <|
    .st (.act none (.px (some 14) (.bin .add (.v 13) (.c (.int .i64 1))))) <|
    .st (.act none (.px (some 7) (.mv (.v 14)))) .done
@[simp] def W13_22 := @C.wpe _ _ K13_22.eq_1
def K13_23 : C := .pl <| .st (.ext 13 2) <|
    .st (.act none (.px (some 13) (.mv (.v 8)))) <|
    .st (.act none (.px (some 14) (.bin .add (.v 13) (.c (.int .i64 1))))) <|
    .st (.act none (.px (some 8) (.mv (.v 14)))) .done
@[simp] def W13_23 := @C.wpe _ _ K13_23.eq_1
def K13_24 : Pl := .st (.act none (.px (some 5) (.mv (.v 24)))) .done
@[simp] def W13_24 := @Pl.wpe _ _ K13_24.eq_1
def K13_25 : C := .seq (.block 5 (.pl <| .st (.ext 13 12) <|
    .st (.act none (.px (some 13) (.mv (.v 5)))) <|
    .st (.act none (.als 14 none 2)) <|
    .st (.act none (.pget (some 15) (some 14) 2 1 none)) <|
    .st (.act none (.px (some 16) (.mv (.v 7)))) <|
    .st (.act none (.px (some 17) (.ia 2 (.v 15) (.v 16)))) <|
    .st (.act none (.px (some 18) (.fa 1 (.v 17)))) <|
    .st (.act none (.ld (some 19) (.v 18) none)) <|
    .st (.act none (.px (some 20) (.mv (.v 8)))) <|
    .st (.act none (.px (some 21) (.ia 10 (.v 19) (.v 20)))) <|
    .st (.act none (.px (some 22) (.fa 2 (.v 21)))) <|
    .st (.act none (.ld (some 23) (.v 22) (some 3))) <|
    .st (.act none (.ex (some 24) (.call fn_spec_l1Mark [.v 13, .v 23]))) K13_24)) K13_23
@[simp] def W13_25 := @C.wpe _ _ K13_25.eq_1
def K13_26 : C := .cond 13 (.v 21) (.skip) (.exit 4)
@[simp] def W13_26 := @C.wpe _ _ K13_26.eq_1
def K13_27 : C := .seq (.seq (.pl <| .st (.ext 13 9) <|
    .st (.act none (.px (some 13) (.mv (.v 8)))) <|
    .st (.act none (.als 14 none 2)) <|
    .st (.act none (.pget (some 15) (some 14) 2 1 none)) <|
    .st (.act none (.px (some 16) (.mv (.v 7)))) <|
    .st (.act none (.px (some 17) (.ia 2 (.v 15) (.v 16)))) <|
    .st (.act none (.px (some 18) (.fa 1 (.v 17)))) <|
    .st (.act none (.ld (some 19) (.v 18) none)) <|
    .st (.act none (.px (some 20) (.lenV (.v 19)))) <|
    .st (.act none (.px (some 21) (.bin .lss (.v 13) (.v 20)))) .done) K13_26) K13_25
@[simp] def W13_27 := @C.wpe _ _ K13_27.eq_1
def K13_28 : C := .block 4 (.loop 13 [0, 1, 3, 4, 6, 9, 10, 11, 12] K13_27)
@[simp] def W13_28 := @C.wpe _ _ K13_28.eq_1
def K13_29 : C := .seq (.block 3 (.seq (.pl <| .st (.ext 13 0) <|
    .st (.act none (.px (some 8) (.mv (.c (.int .i64 0))))) .done) K13_28)) K13_22
@[simp] def W13_29 := @C.wpe _ _ K13_29.eq_1
def K13_30 : C := .cond 13 (.v 17) (.skip) (.exit 2)
@[simp] def W13_30 := @C.wpe _ _ K13_30.eq_1
def K13_31 : C := .seq (.seq (.pl <| .st (.ext 13 5) <|
    .st (.act none (.px (some 13) (.mv (.v 7)))) <|
    .st (.act none (.als 14 none 2)) <|
    .st (.act none (.pget (some 15) (some 14) 2 1 none)) <|
    .st (.act none (.px (some 16) (.lenV (.v 15)))) <|
    .st (.act none (.px (some 17) (.bin .lss (.v 13) (.v 16)))) .done) K13_30) K13_29
@[simp] def W13_31 := @C.wpe _ _ K13_31.eq_1
def K13_32 : C := .block 2 (.loop 13 [0, 1, 3, 4, 6, 8, 9, 10, 11, 12] K13_31)
@[simp] def W13_32 := @C.wpe _ _ K13_32.eq_1
def K13_33 : C := .seq (.seq (.pl <| .st (.ext 13 0) <|
    .st (.act none (.px (some 7) (.mv (.c (.int .i64 0))))) .done) K13_32) K13_21
@[simp] def W13_33 := @C.wpe _ _ K13_33.eq_1
def K13_34 : C := .pl <| .st (.ext 13 2) <|
    .st (.act none (.px (some 13) (.mv (.v 6)))) <|
    .st (.act none (.px (some 14) (.bin .add (.v 13) (.c (.int .i64 1))))) <|
    .st (.act none (.px (some 6) (.mv (.v 14)))) .done
@[simp] def W13_34 := @C.wpe _ _ K13_34.eq_1
def K13_35 : Pl := .st (.act none (.px (some 5) (.mv (.v 18)))) .done
@[simp] def W13_35 := @Pl.wpe _ _ K13_35.eq_1
def K13_36 : C := .seq (.block 1 (.pl <| .st (.ext 13 6) <|
    .st (.act none (.px (some 13) (.mv (.v 5)))) <|
    .st (.act none (.px (some 14) (.mv (.v 1)))) <|
    .st (.act none (.px (some 15) (.mv (.v 6)))) <|
    .st (.act none (.px (some 16) (.ia 3 (.v 14) (.v 15)))) <|
    .st (.act none (.ld (some 17) (.v 16) (some 3))) <|
    .st (.act none (.ex (some 18) (.call fn_spec_l1Mark [.v 13, .v 17]))) K13_35)) K13_34
@[simp] def W13_36 := @C.wpe _ _ K13_36.eq_1
def K13_37 : C := .cond 13 (.v 16) (.skip) (.exit 0)
@[simp] def W13_37 := @C.wpe _ _ K13_37.eq_1
def K13_38 : C := .seq (.seq (.pl <| .st (.ext 13 4) <|
    .st (.act none (.px (some 13) (.mv (.v 6)))) <|
    .st (.act none (.px (some 14) (.mv (.v 1)))) <|
    .st (.act none (.px (some 15) (.lenV (.v 14)))) <|
    .st (.act none (.px (some 16) (.bin .lss (.v 13) (.v 15)))) .done) K13_37) K13_36
@[simp] def W13_38 := @C.wpe _ _ K13_38.eq_1
def K13_39 : C := .block 0 (.loop 13 [0, 3, 4, 7, 8, 9, 10, 11, 12] K13_38)
@[simp] def W13_39 := @C.wpe _ _ K13_39.eq_1
def K13_40 : C := .seq (.seq (.pl <| .st (.ext 13 0) <|
    .st (.act none (.px (some 6) (.mv (.c (.int .i64 0))))) .done) K13_39) K13_33
@[simp] def W13_40 := @C.wpe _ _ K13_40.eq_1
def K13_41 : Pl := .st (.act none (.px (some 5) (.mv (.v 13)))) .done
@[simp] def W13_41 := @Pl.wpe _ _ K13_41.eq_1
def K13_42 : C := .seq (.pl <| .st (.ext 13 1) <|
    .st (.act none (.ex (some 13) (.mks 1 1 [.bool false] (.c (.int .i64 3)) (.c (.int .i64 3))))) K13_41) K13_40
@[simp] def W13_42 := @C.wpe _ _ K13_42.eq_1
def K13_43 : Pl := .st (.act none (.px (some 3) (.mv (.v 13)))) <|
    .st (.act none (.px (some 4) (.mv (.c (.bool false))))) .done
@[simp] def W13_43 := @Pl.wpe _ _ K13_43.eq_1
def K13_44 : C := .seq (.pl <| .st (.ext 13 1) <|
    .st (.act none (.ex (some 13) (.bls 1 0 [.bool false] []))) K13_43) (.ret)
@[simp] def W13_44 := @C.wpe _ _ K13_44.eq_1
def K13_45 : C := .cond 13 (.v 20) K13_44 (.skip)
@[simp] def W13_45 := @C.wpe _ _ K13_45.eq_1
def K13_46 : Pl := .st (.act (some (.v 16, false)) (.px (some 19) (.un .not (.v 18)))) <|
    .st (.act none (.px (some 20) (.pick (.v 16) (.c (.bool true)) (.v 19)))) .done
@[simp] def W13_46 := @Pl.wpe _ _ K13_46.eq_1
def K13_47 : Pl := .st (.act none (.px (some 15) (.un .not (.v 14)))) <|
    .st (.act none (.px (some 16) (.mv (.v 15)))) <|
    .st (.act (some (.v 16, false)) (.px (some 17) (.mv (.v 1)))) <|
    .st (.act (some (.v 16, false)) (.ex (some 18) (.call fn_spec_LabelsValid [.v 17]))) K13_46
@[simp] def W13_47 := @Pl.wpe _ _ K13_47.eq_1
def K13_48 : C := .seq (.seq (.pl <| .st (.ext 13 8) <|
    .st (.act none (.pget (some 13) none 2 0 (some 2))) <|
    .st (.act none (.ex (some 14) (.call fn_spec_SystemValid [.v 13]))) K13_47) K13_45) K13_42
@[simp] def W13_48 := @C.wpe _ _ K13_48.eq_1
def B_spec_RelevantVars : C := .seq (.pl <| .st (.ext 13 0) <|
    .st (.act none (.pnew 2 (.v 0) [])) <|
    .st (.act none (.px (some 3) (.mv (.c (.slice none 0 0))))) <|
    .st (.act none (.px (some 4) (.mv (.c (.bool false))))) .done) K13_48
@[simp] def WB_spec_RelevantVars := @C.wpe _ _ B_spec_RelevantVars.eq_1
def R_spec_RelevantVars : FIR := ⟨B_spec_RelevantVars, 13, [(3, none), (4, none)]⟩
theorem IR_spec_RelevantVars : cfun Try.prog H_spec_RelevantVars Try.f13 = some R_spec_RelevantVars := by kernel_rfl
theorem EN_spec_RelevantVars {args : List Value} {h : Heap} {k : Value → Heap → Prop} (hargs : args.length = 2) (hw : B_spec_RelevantVars.wp Try.prog (retQ [(3, none), (4, none)] k) (env0 args 13) h) : CallE Try.prog fn_spec_RelevantVars args h k := enter Try.func13 rfl IR_spec_RelevantVars hargs hw

def H_spec_l1Mark : Hint := ⟨[(0, false), (1, false), (3, true), (4, false), (5, false)], [[1, 3]]⟩
def K62_1 : C := .seq (.pl <| .st (.ext 5 1) <|
    .st (.act none (.px (some 5) (.mv (.v 0)))) <|
    .st (.act none (.px (some 3) (.mv (.v 5)))) .done) (.ret)
@[simp] def W62_1 := @C.wpe _ _ K62_1.eq_1
def K62_2 : C := .pl <| .st (.ext 5 2) <|
    .st (.act none (.px (some 5) (.mv (.v 4)))) <|
    .st (.act none (.px (some 6) (.bin .add (.v 5) (.c (.int .i64 1))))) <|
    .st (.act none (.px (some 4) (.mv (.v 6)))) .done
@[simp] def W62_2 := @C.wpe _ _ K62_2.eq_1
def K62_3 : Pl := .st (.act none (.px (some 0) (.mv (.v 11)))) .done
@[simp] def W62_3 := @Pl.wpe _ _ K62_3.eq_1
def K62_4 : C := .seq (.block 1 (.pl <| .st (.ext 5 7) <|
    .st (.act none (.px (some 5) (.mv (.v 0)))) <|
    .st (.act none (.als 6 none 2)) <|
    .st (.act none (.pget (some 7) (some 6) 2 2 none)) <|
    .st (.act none (.px (some 8) (.mv (.v 4)))) <|
    .st (.act none (.px (some 9) (.ia 3 (.v 7) (.v 8)))) <|
    .st (.act none (.ld (some 10) (.v 9) (some 3))) <|
    .st (.act none (.ex (some 11) (.call fn_spec_l1Mark [.v 5, .v 10]))) K62_3)) K62_2
@[simp] def W62_4 := @C.wpe _ _ K62_4.eq_1
def K62_5 : C := .cond 5 (.v 9) (.skip) (.exit 0)
@[simp] def W62_5 := @C.wpe _ _ K62_5.eq_1
def K62_6 : C := .seq (.seq (.pl <| .st (.ext 5 5) <|
    .st (.act none (.px (some 5) (.mv (.v 4)))) <|
    .st (.act none (.als 6 none 2)) <|
    .st (.act none (.pget (some 7) (some 6) 2 2 none)) <|
    .st (.act none (.px (some 8) (.lenV (.v 7)))) <|
    .st (.act none (.px (some 9) (.bin .lss (.v 5) (.v 8)))) .done) K62_5) K62_4
@[simp] def W62_6 := @C.wpe _ _ K62_6.eq_1
def K62_7 : C := .block 0 (.loop 5 [1, 3] K62_6)
@[simp] def W62_7 := @C.wpe _ _ K62_7.eq_1
def K62_8 : C := .seq (.seq (.pl <| .st (.ext 5 0) <|
    .st (.act none (.px (some 4) (.mv (.c (.int .i64 0))))) .done) K62_7) K62_1
@[simp] def W62_8 := @C.wpe _ _ K62_8.eq_1
def K62_9 : C := .pl <| .st (.ext 5 4) <|
    .st (.act none (.px (some 5) (.mv (.v 0)))) <|
    .st (.act none (.als 6 none 2)) <|
    .st (.act none (.pget (some 7) (some 6) 2 1 none)) <|
    .st (.act none (.px (some 8) (.ia 1 (.v 5) (.v 7)))) <|
    .st (.act none (.ex none (.store 1 (.v 8) (.c (.bool true))))) .done
@[simp] def W62_9 := @C.wpe _ _ K62_9.eq_1
def K62_10 : C := .cond 5 (.v 7) K62_9 (.skip)
@[simp] def W62_10 := @C.wpe _ _ K62_10.eq_1
def K62_11 : C := .seq (.seq (.pl <| .st (.ext 5 3) <|
    .st (.act none (.als 5 none 2)) <|
    .st (.act none (.pget (some 6) (some 5) 2 0 none)) <|
    .st (.act none (.px (some 7) (.bin .eql (.v 6) (.c (.int .i64 2))))) .done) K62_10) K62_8
@[simp] def W62_11 := @C.wpe _ _ K62_11.eq_1
def B_spec_l1Mark : C := .seq (.pl <| .st (.ext 5 0) <|
    .st (.act none (.pnew 2 (.v 1) [])) <|
    .st (.act none (.px (some 3) (.mv (.c (.slice none 0 0))))) .done) K62_11
@[simp] def WB_spec_l1Mark := @C.wpe _ _ B_spec_l1Mark.eq_1
def R_spec_l1Mark : FIR := ⟨B_spec_l1Mark, 5, [(3, none)]⟩
theorem IR_spec_l1Mark : cfun Try.prog H_spec_l1Mark Try.f62 = some R_spec_l1Mark := by kernel_rfl
theorem EN_spec_l1Mark {args : List Value} {h : Heap} {k : Value → Heap → Prop} (hargs : args.length = 2) (hw : B_spec_l1Mark.wp Try.prog (retQ [(3, none)] k) (env0 args 5) h) : CallE Try.prog fn_spec_l1Mark args h k := enter Try.func62 rfl IR_spec_l1Mark hargs hw


end Go.Proofs.Ythgimpheeemooaa
