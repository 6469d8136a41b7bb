/-
  Bodies of functions in the small language, as a program printed them, and that each is what the translation gives.
-/
import Derived.Test.YthgimpheeemooaaI1
namespace Go.Proofs.Ythgimpheeemooaa
open Go
set_option linter.all false
set_option linter.defProp false
set_option maxRecDepth 1000000

def H_impl_EdgeValid : Hint := ⟨[(0, false), (1, false), (2, true), (4, false)], []⟩
def K109_1 : Pl := .st (.act none (.px (some 55) (.pick (.v 51) (.v 54) (.c (.bool false))))) <|
    .st (.act none (.px (some 3) (.mv (.v 55)))) .done
@[simp] def W109_1 := @Pl.wpe _ _ K109_1.eq_1
def K109_2 : Pl := .st (.act (some (.v 39, false)) (.px (some 48) (.pick (.v 43) (.v 47) (.c (.bool false))))) <|
    .st (.act (some (.v 30, true)) (.px (some 49) (.pick (.v 39) (.c (.bool true)) (.v 48)))) <|
    .st (.act none (.px (some 50) (.pick (.v 30) (.v 49) (.c (.bool false))))) <|
    .st (.act none (.px (some 51) (.mv (.v 50)))) <|
    .st (.act (some (.v 51, true)) (.als 52 none 2)) <|
    .st (.act (some (.v 51, true)) (.pget (some 53) (some 52) 2 9 none)) <|
    .st (.act (some (.v 51, true)) (.ex (some 54) (.call fn_impl_in [.v 53, .c (.int .i64 (-2)), .c (.int .i64 2)]))) K109_1
@[simp] def W109_2 := @Pl.wpe _ _ K109_2.eq_1
def K109_3 : Pl := .st (.act (some (.v 30, true)) (.px (some 38) (.pick (.v 34) (.v 37) (.c (.bool false))))) <|
    .st (.act (some (.v 30, true)) (.px (some 39) (.mv (.v 38)))) <|
    .st (.act (some (.v 39, false)) (.als 40 none 2)) <|
    .st (.act (some (.v 39, false)) (.pget (some 41) (some 40) 2 5 none)) <|
    .st (.act (some (.v 39, false)) (.px (some 42) (.bin .lss (.v 41) (.c (.int .i64 0))))) <|
    .st (.act (some (.v 39, false)) (.px (some 43) (.mv (.v 42)))) <|
    .st (.act (some (.v 43, true)) (.als 44 none 2)) <|
    .st (.act (some (.v 43, true)) (.pget (some 45) (some 44) 2 6 (some 3))) <|
    .st (.act (some (.v 43, true)) (.px (some 46) (.build [.int .i64 0, .int .i64 0, .slice none 0 0] []))) <|
    .st (.act (some (.v 43, true)) (.ex (some 47) (.call fn_impl_ExprSame [.v 45, .v 46]))) K109_2
@[simp] def W109_3 := @Pl.wpe _ _ K109_3.eq_1
def K109_4 : Pl := .st (.act none (.px (some 29) (.pick (.v 25) (.v 28) (.c (.bool false))))) <|
    .st (.act none (.px (some 30) (.mv (.v 29)))) <|
    .st (.act (some (.v 30, true)) (.als 31 none 2)) <|
    .st (.act (some (.v 30, true)) (.pget (some 32) (some 31) 2 5 none)) <|
    .st (.act (some (.v 30, true)) (.px (some 33) (.bin .geq (.v 32) (.c (.int .i64 0))))) <|
    .st (.act (some (.v 30, true)) (.px (some 34) (.mv (.v 33)))) <|
    .st (.act (some (.v 34, true)) (.als 35 none 2)) <|
    .st (.act (some (.v 34, true)) (.pget (some 36) (some 35) 2 6 (some 3))) <|
    .st (.act (some (.v 34, true)) (.ex (some 37) (.call fn_impl_ExprValid [.v 36]))) K109_3
@[simp] def W109_4 := @Pl.wpe _ _ K109_4.eq_1
def K109_5 : Pl := .st (.act none (.px (some 24) (.pick (.v 20) (.v 23) (.c (.bool false))))) <|
    .st (.act none (.px (some 25) (.mv (.v 24)))) <|
    .st (.act (some (.v 25, true)) (.als 26 none 2)) <|
    .st (.act (some (.v 25, true)) (.pget (some 27) (some 26) 2 5 none)) <|
    .st (.act (some (.v 25, true)) (.ex (some 28) (.call fn_impl_in [.v 27, .c (.int .i64 (-1)), .c (.int .i64 2)]))) K109_4
@[simp] def W109_5 := @Pl.wpe _ _ K109_5.eq_1
def K109_6 : Pl := .st (.act none (.px (some 19) (.pick (.v 13) (.v 18) (.c (.bool false))))) <|
    .st (.act none (.px (some 20) (.mv (.v 19)))) <|
    .st (.act (some (.v 20, true)) (.als 21 none 2)) <|
    .st (.act (some (.v 20, true)) (.pget (some 22) (some 21) 2 2 (some 3))) <|
    .st (.act (some (.v 20, true)) (.ex (some 23) (.call fn_impl_ExprValid [.v 22]))) K109_5
@[simp] def W109_6 := @Pl.wpe _ _ K109_6.eq_1
def K109_7 : Pl := .st (.act none (.px (some 12) (.pick (.v 6) (.v 11) (.c (.bool false))))) <|
    .st (.act none (.px (some 13) (.mv (.v 12)))) <|
    .st (.act (some (.v 13, true)) (.als 14 none 2)) <|
    .st (.act (some (.v 13, true)) (.pget (some 15) (some 14) 2 1 none)) <|
    .st (.act (some (.v 13, true)) (.px (some 16) (.mv (.v 1)))) <|
    .st (.act (some (.v 13, true)) (.px (some 17) (.bin .sub (.v 16) (.c (.int .i64 1))))) <|
    .st (.act (some (.v 13, true)) (.ex (some 18) (.call fn_impl_in [.v 15, .c (.int .i64 0), .v 17]))) K109_6
@[simp] def W109_7 := @Pl.wpe _ _ K109_7.eq_1
def K109_8 : Pl := .st (.act none (.px (some 6) (.mv (.v 5)))) <|
    .st (.act (some (.v 6, true)) (.als 7 none 2)) <|
    .st (.act (some (.v 6, true)) (.pget (some 8) (some 7) 2 0 none)) <|
    .st (.act (some (.v 6, true)) (.px (some 9) (.mv (.v 1)))) <|
    .st (.act (some (.v 6, true)) (.px (some 10) (.bin .sub (.v 9) (.c (.int .i64 1))))) <|
    .st (.act (some (.v 6, true)) (.ex (some 11) (.call fn_impl_in [.v 8, .c (.int .i64 0), .v 10]))) K109_7
@[simp] def W109_8 := @Pl.wpe _ _ K109_8.eq_1
def K109_9 : C := .seq (.pl <| .st (.ext 4 52) <|
    .st (.act none (.px (some 4) (.mv (.v 1)))) <|
    .st (.act none (.ex (some 5) (.call fn_impl_in [.v 4, .c (.int .i64 1), .c (.int .i64 4)]))) K109_8) (.ret)
@[simp] def W109_9 := @C.wpe _ _ K109_9.eq_1
def B_impl_EdgeValid : C := .seq (.pl <| .st (.ext 4 0) <|
    .st (.act none (.pnew 2 (.v 0) [])) <|
    .st (.act none (.px (some 3) (.mv (.c (.bool false))))) .done) K109_9
@[simp] def WB_impl_EdgeValid := @C.wpe _ _ B_impl_EdgeValid.eq_1
def R_impl_EdgeValid : FIR := ⟨B_impl_EdgeValid, 4, [(3, none)]⟩
theorem IR_impl_EdgeValid : cfun Try.prog H_impl_EdgeValid Try.f109 = some R_impl_EdgeValid := by kernel_rfl
theorem EN_impl_EdgeValid {args : List Value} {h : Heap} {k : Value → Heap → Prop} (hargs : args.length = 2) (hw : B_impl_EdgeValid.wp Try.prog (retQ [(3, none)] k) (env0 args 4) h) : CallE Try.prog fn_impl_EdgeValid args h k := enter Try.func109 rfl IR_impl_EdgeValid hargs hw

def H_impl_ExprSame : Hint := ⟨[(0, false), (1, false), (2, true), (3, true), (4, false)], []⟩
def K146_1 : Pl := .st (.act none (.px (some 23) (.pick (.v 17) (.v 22) (.c (.bool false))))) <|
    .st (.act none (.px (some 4) (.mv (.v 23)))) .done
@[simp] def W146_1 := @Pl.wpe _ _ K146_1.eq_1
def K146_2 : C := .seq (.pl <| .st (.ext 5 19) <|
    .st (.act none (.als 5 none 2)) <|
    .st (.act none (.pget (some 6) (some 5) 2 0 none)) <|
    .st (.act none (.als 7 none 3)) <|
    .st (.act none (.pget (some 8) (some 7) 3 0 none)) <|
    .st (.act none (.px (some 9) (.bin .eql (.v 6) (.v 8)))) <|
    .st (.act none (.px (some 10) (.mv (.v 9)))) <|
    .st (.act (some (.v 10, true)) (.als 11 none 2)) <|
    .st (.act (some (.v 10, true)) (.pget (some 12) (some 11) 2 1 none)) <|
    .st (.act (some (.v 10, true)) (.als 13 none 3)) <|
    .st (.act (some (.v 10, true)) (.pget (some 14) (some 13) 3 1 none)) <|
    .st (.act (some (.v 10, true)) (.px (some 15) (.bin .eql (.v 12) (.v 14)))) <|
    .st (.act none (.px (some 16) (.pick (.v 10) (.v 15) (.c (.bool false))))) <|
    .st (.act none (.px (some 17) (.mv (.v 16)))) <|
    .st (.act (some (.v 17, true)) (.als 18 none 2)) <|
    .st (.act (some (.v 17, true)) (.pget (some 19) (some 18) 2 2 none)) <|
    .st (.act (some (.v 17, true)) (.als 20 none 3)) <|
    .st (.act (some (.v 17, true)) (.pget (some 21) (some 20) 3 2 none)) <|
    .st (.act (some (.v 17, true)) (.ex (some 22) (.call fn_slices_EqualFunc_S_impl_Expr_S_impl_Expr_impl_Expr_impl_Expr [.v 19, .v 21, .c (.func (.func 146) #[] #[])]))) K146_1) (.ret)
@[simp] def W146_2 := @C.wpe _ _ K146_2.eq_1
def B_impl_ExprSame : C := .seq (.pl <| .st (.ext 5 0) <|
    .st (.act none (.pnew 2 (.v 0) [])) <|
    .st (.act none (.pnew 3 (.v 1) [])) <|
    .st (.act none (.px (some 4) (.mv (.c (.bool false))))) .done) K146_2
@[simp] def WB_impl_ExprSame := @C.wpe _ _ B_impl_ExprSame.eq_1
def R_impl_ExprSame : FIR := ⟨B_impl_ExprSame, 5, [(4, none)]⟩
theorem IR_impl_ExprSame : cfun Try.prog H_impl_ExprSame Try.f146 = some R_impl_ExprSame := by kernel_rfl
theorem EN_impl_ExprSame {args : List Value} {h : Heap} {k : Value → Heap → Prop} (hargs : args.length = 2) (hw : B_impl_ExprSame.wp Try.prog (retQ [(4, none)] k) (env0 args 5) h) : CallE Try.prog fn_impl_ExprSame args h k := enter Try.func146 rfl IR_impl_ExprSame hargs hw

def H_impl_SystemValid : Hint := ⟨[(0, false), (1, true), (2, false), (4, false), (17, false), (18, false), (19, false)], [[0, 1, 2, 3]]⟩
def K52_1 : C := .seq (.pl <| .st (.ext 7 0) <|
    .st (.act none (.px (some 2) (.mv (.c (.bool true))))) .done) (.ret)
@[simp] def W52_1 := @C.wpe _ _ K52_1.eq_1
def K52_2 : C := .pl <| .st (.ext 7 1) <|
    .st (.act none (.px (some 7) (.bin .add (.v 6) (.c (.int .i64 1))))) <|
    .st (.act none (.px (some 6) (.mv (.v 7)))) .done
@[simp] def W52_2 := @C.wpe _ _ K52_2.eq_1
def K52_3 : C := .seq (.pl <| .st (.ext 7 0) <|
    .st (.act none (.px (some 2) (.mv (.c (.bool false))))) .done) (.ret)
@[simp] def W52_3 := @C.wpe _ _ K52_3.eq_1
def K52_4 : C := .cond 7 (.v 22) K52_3 (.skip)
@[simp] def W52_4 := @C.wpe _ _ K52_4.eq_1
def K52_5 : Pl := .st (.act none (.px (some 22) (.pick (.v 17) (.c (.bool true)) (.v 21)))) .done
@[simp] def W52_5 := @Pl.wpe _ _ K52_5.eq_1
def K52_6 : Pl := .st (.act none (.px (some 10) (.un .not (.v 9)))) <|
    .st (.act none (.px (some 11) (.mv (.v 10)))) <|
    .st (.act (some (.v 11, false)) (.px (some 12) (.fa 1 (.v 3)))) <|
    .st (.act (some (.v 11, false)) (.ld (some 13) (.v 12) none)) <|
    .st (.act (some (.v 11, false)) (.px (some 14) (.lenV (.v 13)))) <|
    .st (.act (some (.v 11, false)) (.px (some 15) (.bin .gtr (.v 14) (.c (.int .i64 6))))) <|
    .st (.act none (.px (some 16) (.pick (.v 11) (.c (.bool true)) (.v 15)))) <|
    .st (.act none (.px (some 17) (.mv (.v 16)))) <|
    .st (.act (some (.v 17, false)) (.px (some 18) (.fa 1 (.v 3)))) <|
    .st (.act (some (.v 17, false)) (.ld (some 19) (.v 18) none)) <|
    .st (.act (some (.v 17, false)) (.px (some 20) (.mkf (.func fn_impl_SystemValid_1) [] [.v 3]))) <|
    .st (.act (some (.v 17, false)) (.ex (some 21) (.call fn_slices_ContainsFunc_S_impl_Edge_impl_Edge [.v 19, .v 20]))) K52_5
@[simp] def W52_6 := @Pl.wpe _ _ K52_6.eq_1
def K52_7 : C := .seq (.pl <| .st (.ext 7 16) <|
    .st (.act none (.px (some 7) (.fa 0 (.v 3)))) <|
    .st (.act none (.ld (some 8) (.v 7) none)) <|
    .st (.act none (.ex (some 9) (.call fn_impl_in [.v 8, .c (.int .i64 1), .c (.int .i64 4)]))) K52_6) K52_4
@[simp] def W52_7 := @C.wpe _ _ K52_7.eq_1
def K52_8 : Pl := .st (.act none (.ex none (.store 2 (.v 3) (.v 8)))) .done
@[simp] def W52_8 := @Pl.wpe _ _ K52_8.eq_1
def K52_9 : C := .seq (.block 1 (.seq (.pl <| .st (.ext 7 2) <|
    .st (.act none (.px (some 7) (.ia 2 (.v 4) (.v 6)))) <|
    .st (.act none (.ld (some 8) (.v 7) (some 2))) <|
    .st (.act none (.ex (some 3) (.alloc (.c (.agg #[.int .i64 0, .slice none 0 0]))))) K52_8) K52_7)) K52_2
@[simp] def W52_9 := @C.wpe _ _ K52_9.eq_1
def K52_10 : C := .seq (.cond 7 (.v 7) (.skip) (.exit 0)) K52_9
@[simp] def W52_10 := @C.wpe _ _ K52_10.eq_1
def K52_11 : C := .seq (.pl <| .st (.ext 7 1) <|
    .st (.act none (.px (some 7) (.bin .lss (.v 6) (.v 5)))) .done) K52_10
@[simp] def W52_11 := @C.wpe _ _ K52_11.eq_1
def K52_12 : C := .block 0 (.loop 7 [0, 1, 2, 3] K52_11)
@[simp] def W52_12 := @C.wpe _ _ K52_12.eq_1
def K52_13 : C := .seq (.seq (.pl <| .st (.ext 7 1) <|
    .st (.act none (.als 7 none 1)) <|
    .st (.act none (.pget (some 4) (some 7) 1 1 none)) <|
    .st (.act none (.px (some 5) (.lenV (.v 4)))) <|
    .st (.act none (.px (some 6) (.mv (.c (.int .i64 0))))) .done) K52_12) K52_1
@[simp] def W52_13 := @C.wpe _ _ K52_13.eq_1
def K52_14 : C := .seq (.pl <| .st (.ext 7 0) <|
    .st (.act none (.px (some 2) (.mv (.c (.bool false))))) .done) (.ret)
@[simp] def W52_14 := @C.wpe _ _ K52_14.eq_1
def K52_15 : C := .cond 7 (.v 17) K52_14 (.skip)
@[simp] def W52_15 := @C.wpe _ _ K52_15.eq_1
def K52_16 : Pl := .st (.act (some (.v 11, false)) (.px (some 16) (.un .not (.v 15)))) <|
    .st (.act none (.px (some 17) (.pick (.v 11) (.c (.bool true)) (.v 16)))) .done
@[simp] def W52_16 := @Pl.wpe _ _ K52_16.eq_1
def K52_17 : Pl := .st (.act none (.px (some 10) (.un .not (.v 9)))) <|
    .st (.act none (.px (some 11) (.mv (.v 10)))) <|
    .st (.act (some (.v 11, false)) (.als 12 none 1)) <|
    .st (.act (some (.v 11, false)) (.pget (some 13) (some 12) 1 1 none)) <|
    .st (.act (some (.v 11, false)) (.px (some 14) (.lenV (.v 13)))) <|
    .st (.act (some (.v 11, false)) (.ex (some 15) (.call fn_impl_in [.v 14, .c (.int .i64 1), .c (.int .i64 3)]))) K52_16
@[simp] def W52_17 := @Pl.wpe _ _ K52_17.eq_1
def K52_18 : C := .seq (.seq (.pl <| .st (.ext 7 11) <|
    .st (.act none (.als 7 none 1)) <|
    .st (.act none (.pget (some 8) (some 7) 1 0 none)) <|
    .st (.act none (.ex (some 9) (.call fn_impl_valsOk [.v 8]))) K52_17) K52_15) K52_13
@[simp] def W52_18 := @C.wpe _ _ K52_18.eq_1
def B_impl_SystemValid : C := .seq (.pl <| .st (.ext 7 0) <|
    .st (.act none (.pnew 1 (.v 0) [])) <|
    .st (.act none (.px (some 2) (.mv (.c (.bool false))))) .done) K52_18
@[simp] def WB_impl_SystemValid := @C.wpe _ _ B_impl_SystemValid.eq_1
def R_impl_SystemValid : FIR := ⟨B_impl_SystemValid, 7, [(2, none)]⟩
theorem IR_impl_SystemValid : cfun Try.prog H_impl_SystemValid Try.f52 = some R_impl_SystemValid := by kernel_rfl
theorem EN_impl_SystemValid {args : List Value} {h : Heap} {k : Value → Heap → Prop} (hargs : args.length = 1) (hw : B_impl_SystemValid.wp Try.prog (retQ [(2, none)] k) (env0 args 7) h) : CallE Try.prog fn_impl_SystemValid args h k := enter Try.func52 rfl IR_impl_SystemValid hargs hw

def H_impl_SystemValid_1 : Hint := ⟨[(0, false), (1, false), (2, true), (3, false)], []⟩
def K108_1 : Pl := .st (.act none (.px (some 8) (.un .not (.v 7)))) <|
    .st (.act none (.px (some 3) (.mv (.v 8)))) .done
@[simp] def W108_1 := @Pl.wpe _ _ K108_1.eq_1
def K108_2 : C := .seq (.pl <| .st (.ext 4 5) <|
    .st (.act none (.pget (some 4) none 2 0 (some 10))) <|
    .st (.act none (.px (some 5) (.fa 0 (.v 1)))) <|
    .st (.act none (.ld (some 6) (.v 5) none)) <|
    .st (.act none (.ex (some 7) (.call fn_impl_EdgeValid [.v 4, .v 6]))) K108_1) (.ret)
@[simp] def W108_2 := @C.wpe _ _ K108_2.eq_1
def B_impl_SystemValid_1 : C := .seq (.pl <| .st (.ext 4 0) <|
    .st (.act none (.pnew 2 (.v 0) [])) <|
    .st (.act none (.px (some 3) (.mv (.c (.bool false))))) .done) K108_2
@[simp] def WB_impl_SystemValid_1 := @C.wpe _ _ B_impl_SystemValid_1.eq_1
def R_impl_SystemValid_1 : FIR := ⟨B_impl_SystemValid_1, 4, [(3, none)]⟩
theorem IR_impl_SystemValid_1 : cfun Try.prog H_impl_SystemValid_1 Try.f108 = some R_impl_SystemValid_1 := by kernel_rfl
theorem EN_impl_SystemValid_1 {args : List Value} {h : Heap} {k : Value → Heap → Prop} (hargs : args.length = 2) (hw : B_impl_SystemValid_1.wp Try.prog (retQ [(3, none)] k) (env0 args 4) h) : CallE Try.prog fn_impl_SystemValid_1 args h k := enter Try.func108 rfl IR_impl_SystemValid_1 hargs hw

def H_slices_ContainsFunc_S_impl_Edge_impl_Edge : Hint := ⟨[(0, false), (1, false), (4, false)], []⟩
def K107_1 : Pl := .st (.act none (.px (some 6) (.bin .geq (.v 5) (.c (.int .i64 0))))) <|
    .st (.act none (.px (some 2) (.mv (.v 6)))) .done
@[simp] def W107_1 := @Pl.wpe _ _ K107_1.eq_1
def K107_2 : C := .seq (.pl <| .st (.ext 3 4) <|
    .st (.act none (.px (some 3) (.mv (.v 0)))) <|
    .st (.act none (.px (some 4) (.mv (.v 1)))) <|
    .st (.act none (.ex (some 5) (.call fn_slices_IndexFunc_S_impl_Edge_impl_Edge [.v 3, .v 4]))) K107_1) (.ret)
@[simp] def W107_2 := @C.wpe _ _ K107_2.eq_1
def B_slices_ContainsFunc_S_impl_Edge_impl_Edge : C := .seq (.pl <| .st (.ext 3 0) <|
    .st (.act none (.px (some 2) (.mv (.c (.bool false))))) .done) K107_2
@[simp] def WB_slices_ContainsFunc_S_impl_Edge_impl_Edge := @C.wpe _ _ B_slices_ContainsFunc_S_impl_Edge_impl_Edge.eq_1
def R_slices_ContainsFunc_S_impl_Edge_impl_Edge : FIR := ⟨B_slices_ContainsFunc_S_impl_Edge_impl_Edge, 3, [(2, none)]⟩
theorem IR_slices_ContainsFunc_S_impl_Edge_impl_Edge : cfun Try.prog H_slices_ContainsFunc_S_impl_Edge_impl_Edge Try.f107 = some R_slices_ContainsFunc_S_impl_Edge_impl_Edge := by kernel_rfl
theorem EN_slices_ContainsFunc_S_impl_Edge_impl_Edge {args : List Value} {h : Heap} {k : Value → Heap → Prop} (hargs : args.length = 2) (hw : B_slices_ContainsFunc_S_impl_Edge_impl_Edge.wp Try.prog (retQ [(2, none)] k) (env0 args 3) h) : CallE Try.prog fn_slices_ContainsFunc_S_impl_Edge_impl_Edge args h k := enter Try.func107 rfl IR_slices_ContainsFunc_S_impl_Edge_impl_Edge hargs hw

def H_slices_EqualFunc_S_impl_Expr_S_impl_Expr_impl_Expr_impl_Expr : Hint := ⟨[(0, false), (1, false), (2, false), (6, false), (7, false), (8, true), (9, true), (15, false), (16, false), (17, false)], [[0, 3, 4, 5, 6]]⟩
def K180_1 : C := .seq (.pl <| .st (.ext 10 0) <|
    .st (.act none (.px (some 3) (.mv (.c (.bool true))))) .done) (.ret)
@[simp] def W180_1 := @C.wpe _ _ K180_1.eq_1
def K180_2 : C := .pl <| .st (.ext 10 1) <|
    .st (.act none (.px (some 10) (.bin .add (.v 9) (.c (.int .i64 1))))) <|
    .st (.act none (.px (some 9) (.mv (.v 10)))) .done
@[simp] def W180_2 := @C.wpe _ _ K180_2.eq_1
def K180_3 : C := .seq (.pl <| .st (.ext 10 0) <|
    .st (.act none (.px (some 3) (.mv (.c (.bool false))))) .done) (.ret)
@[simp] def W180_3 := @C.wpe _ _ K180_3.eq_1
def K180_4 : C := .cond 10 (.v 14) K180_3 (.skip)
@[simp] def W180_4 := @C.wpe _ _ K180_4.eq_1
def K180_5 : Pl := .st (.act none (.px (some 14) (.un .not (.v 13)))) .done
@[simp] def W180_5 := @Pl.wpe _ _ K180_5.eq_1
def K180_6 : C := .seq (.pl <| .st (.ext 10 5) <|
    .st (.act none (.px (some 10) (.mv (.v 2)))) <|
    .st (.act none (.pget (some 11) none 5 0 (some 3))) <|
    .st (.act none (.pget (some 12) none 6 0 (some 3))) <|
    .st (.act none (.ex (some 13) (.callv (.v 10) [.v 11, .v 12]))) K180_5) K180_4
@[simp] def W180_6 := @C.wpe _ _ K180_6.eq_1
def K180_7 : C := .seq (.pl <| .st (.ext 10 4) <|
    .st (.act none (.px (some 10) (.mv (.v 1)))) <|
    .st (.act none (.px (some 11) (.mv (.v 4)))) <|
    .st (.act none (.px (some 12) (.ia 3 (.v 10) (.v 11)))) <|
    .st (.act none (.ld (some 13) (.v 12) (some 3))) <|
    .st (.act none (.pnew 6 (.c (.agg #[.int .i64 0, .int .i64 0, .slice none 0 0])) [])) <|
    .st (.act none (.pset none 6 0 3 (.v 13))) .done) K180_6
@[simp] def W180_7 := @C.wpe _ _ K180_7.eq_1
def K180_8 : C := .seq (.block 1 (.seq (.pl <| .st (.ext 10 3) <|
    .st (.act none (.px (some 10) (.mv (.v 9)))) <|
    .st (.act none (.px (some 11) (.ia 3 (.v 7) (.v 9)))) <|
    .st (.act none (.ld (some 12) (.v 11) (some 3))) <|
    .st (.act none (.pnew 5 (.c (.agg #[.int .i64 0, .int .i64 0, .slice none 0 0])) [])) <|
    .st (.act none (.px (some 4) (.mv (.v 10)))) <|
    .st (.act none (.pset none 5 0 3 (.v 12))) .done) K180_7)) K180_2
@[simp] def W180_8 := @C.wpe _ _ K180_8.eq_1
def K180_9 : C := .seq (.cond 10 (.v 10) (.skip) (.exit 0)) K180_8
@[simp] def W180_9 := @C.wpe _ _ K180_9.eq_1
def K180_10 : C := .seq (.pl <| .st (.ext 10 1) <|
    .st (.act none (.px (some 10) (.bin .lss (.v 9) (.v 8)))) .done) K180_9
@[simp] def W180_10 := @C.wpe _ _ K180_10.eq_1
def K180_11 : C := .block 0 (.loop 10 [0, 3, 4, 5, 6] K180_10)
@[simp] def W180_11 := @C.wpe _ _ K180_11.eq_1
def K180_12 : C := .seq (.seq (.pl <| .st (.ext 10 0) <|
    .st (.act none (.px (some 7) (.mv (.v 0)))) <|
    .st (.act none (.px (some 8) (.lenV (.v 7)))) <|
    .st (.act none (.px (some 9) (.mv (.c (.int .i64 0))))) .done) K180_11) K180_1
@[simp] def W180_12 := @C.wpe _ _ K180_12.eq_1
def K180_13 : C := .seq (.pl <| .st (.ext 10 0) <|
    .st (.act none (.px (some 3) (.mv (.c (.bool false))))) .done) (.ret)
@[simp] def W180_13 := @C.wpe _ _ K180_13.eq_1
def K180_14 : C := .cond 10 (.v 14) K180_13 (.skip)
@[simp] def W180_14 := @C.wpe _ _ K180_14.eq_1
def K180_15 : C := .seq (.seq (.pl <| .st (.ext 10 5) <|
    .st (.act none (.px (some 10) (.mv (.v 0)))) <|
    .st (.act none (.px (some 11) (.lenV (.v 10)))) <|
    .st (.act none (.px (some 12) (.mv (.v 1)))) <|
    .st (.act none (.px (some 13) (.lenV (.v 12)))) <|
    .st (.act none (.px (some 14) (.bin .neq (.v 11) (.v 13)))) .done) K180_14) K180_12
@[simp] def W180_15 := @C.wpe _ _ K180_15.eq_1
def B_slices_EqualFunc_S_impl_Expr_S_impl_Expr_impl_Expr_impl_Expr : C := .seq (.pl <| .st (.ext 10 0) <|
    .st (.act none (.px (some 3) (.mv (.c (.bool false))))) .done) K180_15
@[simp] def WB_slices_EqualFunc_S_impl_Expr_S_impl_Expr_impl_Expr_impl_Expr := @C.wpe _ _ B_slices_EqualFunc_S_impl_Expr_S_impl_Expr_impl_Expr_impl_Expr.eq_1
def R_slices_EqualFunc_S_impl_Expr_S_impl_Expr_impl_Expr_impl_Expr : FIR := ⟨B_slices_EqualFunc_S_impl_Expr_S_impl_Expr_impl_Expr_impl_Expr, 10, [(3, none)]⟩
theorem IR_slices_EqualFunc_S_impl_Expr_S_impl_Expr_impl_Expr_impl_Expr : cfun Try.prog H_slices_EqualFunc_S_impl_Expr_S_impl_Expr_impl_Expr_impl_Expr Try.f180 = some R_slices_EqualFunc_S_impl_Expr_S_impl_Expr_impl_Expr_impl_Expr := by kernel_rfl
theorem EN_slices_EqualFunc_S_impl_Expr_S_impl_Expr_impl_Expr_impl_Expr {args : List Value} {h : Heap} {k : Value → Heap → Prop} (hargs : args.length = 3) (hw : B_slices_EqualFunc_S_impl_Expr_S_impl_Expr_impl_Expr_impl_Expr.wp Try.prog (retQ [(3, none)] k) (env0 args 10) h) : CallE Try.prog fn_slices_EqualFunc_S_impl_Expr_S_impl_Expr_impl_Expr_impl_Expr args h k := enter Try.func180 rfl IR_slices_EqualFunc_S_impl_Expr_S_impl_Expr_impl_Expr_impl_Expr hargs hw

def H_slices_IndexFunc_S_impl_Edge_impl_Edge : Hint := ⟨[(0, false), (1, false), (4, false), (5, false), (7, false), (8, false)], [[2, 3]]⟩
def K149_1 : C := .seq (.pl <| .st (.ext 6 0) <|
    .st (.act none (.px (some 2) (.mv (.c (.int .i64 (-1)))))) .done) (.ret)
@[simp] def W149_1 := @C.wpe _ _ K149_1.eq_1
def K149_2 : C := .pl <| .st (.ext 6 1) <|
    .st (.act none (.px (some 6) (.bin .add (.v 5) (.c (.int .i64 1))))) <|
    .st (.act none (.px (some 5) (.mv (.v 6)))) .done
@[simp] def W149_2 := @C.wpe _ _ K149_2.eq_1
def K149_3 : C := .seq (.pl <| .st (.ext 6 1) <|
    .st (.act none (.px (some 6) (.mv (.v 3)))) <|
    .st (.act none (.px (some 2) (.mv (.v 6)))) .done) (.ret)
@[simp] def W149_3 := @C.wpe _ _ K149_3.eq_1
def K149_4 : C := .cond 6 (.v 11) K149_3 (.skip)
@[simp] def W149_4 := @C.wpe _ _ K149_4.eq_1
def K149_5 : C := .seq (.pl <| .st (.ext 6 6) <|
    .st (.act none (.px (some 6) (.mv (.v 1)))) <|
    .st (.act none (.px (some 7) (.mv (.v 0)))) <|
    .st (.act none (.px (some 8) (.mv (.v 3)))) <|
    .st (.act none (.px (some 9) (.ia 10 (.v 7) (.v 8)))) <|
    .st (.act none (.ld (some 10) (.v 9) (some 10))) <|
    .st (.act none (.ex (some 11) (.callv (.v 6) [.v 10]))) .done) K149_4
@[simp] def W149_5 := @C.wpe _ _ K149_5.eq_1
def K149_6 : C := .seq (.block 1 (.seq (.pl <| .st (.ext 6 1) <|
    .st (.act none (.px (some 6) (.mv (.v 5)))) <|
    .st (.act none (.px (some 3) (.mv (.v 6)))) .done) K149_5)) K149_2
@[simp] def W149_6 := @C.wpe _ _ K149_6.eq_1
def K149_7 : C := .seq (.cond 6 (.v 6) (.skip) (.exit 0)) K149_6
@[simp] def W149_7 := @C.wpe _ _ K149_7.eq_1
def K149_8 : C := .seq (.pl <| .st (.ext 6 1) <|
    .st (.act none (.px (some 6) (.bin .lss (.v 5) (.v 4)))) .done) K149_7
@[simp] def W149_8 := @C.wpe _ _ K149_8.eq_1
def K149_9 : C := .block 0 (.loop 6 [2, 3] K149_8)
@[simp] def W149_9 := @C.wpe _ _ K149_9.eq_1
def K149_10 : C := .seq (.seq (.pl <| .st (.ext 6 1) <|
    .st (.act none (.px (some 6) (.mv (.v 0)))) <|
    .st (.act none (.px (some 4) (.lenV (.v 6)))) <|
    .st (.act none (.px (some 5) (.mv (.c (.int .i64 0))))) .done) K149_9) K149_1
@[simp] def W149_10 := @C.wpe _ _ K149_10.eq_1
def B_slices_IndexFunc_S_impl_Edge_impl_Edge : C := .seq (.pl <| .st (.ext 6 0) <|
    .st (.act none (.px (some 2) (.mv (.c (.int .i64 0))))) .done) K149_10
@[simp] def WB_slices_IndexFunc_S_impl_Edge_impl_Edge := @C.wpe _ _ B_slices_IndexFunc_S_impl_Edge_impl_Edge.eq_1
def R_slices_IndexFunc_S_impl_Edge_impl_Edge : FIR := ⟨B_slices_IndexFunc_S_impl_Edge_impl_Edge, 6, [(2, none)]⟩
theorem IR_slices_IndexFunc_S_impl_Edge_impl_Edge : cfun Try.prog H_slices_IndexFunc_S_impl_Edge_impl_Edge Try.f149 = some R_slices_IndexFunc_S_impl_Edge_impl_Edge := by kernel_rfl
theorem EN_slices_IndexFunc_S_impl_Edge_impl_Edge {args : List Value} {h : Heap} {k : Value → Heap → Prop} (hargs : args.length = 2) (hw : B_slices_IndexFunc_S_impl_Edge_impl_Edge.wp Try.prog (retQ [(2, none)] k) (env0 args 6) h) : CallE Try.prog fn_slices_IndexFunc_S_impl_Edge_impl_Edge args h k := enter Try.func149 rfl IR_slices_IndexFunc_S_impl_Edge_impl_Edge hargs hw

def H_spec_EdgeValid : Hint := ⟨[(0, false), (1, false), (2, true), (4, false)], []⟩
def K153_1 : Pl := .st (.act (some (.v 12, false)) (.px (some 20) (.pick (.v 16) (.v 19) (.c (.bool false))))) <|
    .st (.act none (.px (some 21) (.pick (.v 12) (.c (.bool true)) (.v 20)))) <|
    .st (.act none (.px (some 3) (.mv (.v 21)))) .done
@[simp] def W153_1 := @Pl.wpe _ _ K153_1.eq_1
def K153_2 : Pl := .st (.act none (.px (some 11) (.pick (.v 7) (.v 10) (.c (.bool false))))) <|
    .st (.act none (.px (some 12) (.mv (.v 11)))) <|
    .st (.act (some (.v 12, false)) (.als 13 none 2)) <|
    .st (.act (some (.v 12, false)) (.pget (some 14) (some 13) 2 5 none)) <|
    .st (.act (some (.v 12, false)) (.px (some 15) (.bin .geq (.v 14) (.c (.int .i64 0))))) <|
    .st (.act (some (.v 12, false)) (.px (some 16) (.mv (.v 15)))) <|
    .st (.act (some (.v 16, true)) (.als 17 none 2)) <|
    .st (.act (some (.v 16, true)) (.pget (some 18) (some 17) 2 6 (some 3))) <|
    .st (.act (some (.v 16, true)) (.ex (some 19) (.call fn_spec_ExprValid [.v 18]))) K153_1
@[simp] def W153_2 := @Pl.wpe _ _ K153_2.eq_1
def K153_3 : C := .seq (.pl <| .st (.ext 4 18) <|
    .st (.act none (.als 4 none 2)) <|
    .st (.act none (.pget (some 5) (some 4) 2 5 none)) <|
    .st (.act none (.px (some 6) (.bin .lss (.v 5) (.c (.int .i64 0))))) <|
    .st (.act none (.px (some 7) (.mv (.v 6)))) <|
    .st (.act (some (.v 7, true)) (.als 8 none 2)) <|
    .st (.act (some (.v 7, true)) (.pget (some 9) (some 8) 2 6 (some 3))) <|
    .st (.act (some (.v 7, true)) (.ex (some 10) (.call fn_spec_l2None [.v 9]))) K153_2) (.ret)
@[simp] def W153_3 := @C.wpe _ _ K153_3.eq_1
def K153_4 : C := .seq (.pl <| .st (.ext 4 0) <|
    .st (.act none (.px (some 3) (.mv (.c (.bool false))))) .done) (.ret)
@[simp] def W153_4 := @C.wpe _ _ K153_4.eq_1
def K153_5 : C := .cond 4 (.v 21) K153_4 (.skip)
@[simp] def W153_5 := @C.wpe _ _ K153_5.eq_1
def K153_6 : C := .seq (.seq (.pl <| .st (.ext 4 18) <|
    .st (.act none (.als 4 none 2)) <|
    .st (.act none (.pget (some 5) (some 4) 2 9 none)) <|
    .st (.act none (.px (some 6) (.bin .lss (.v 5) (.c (.int .i64 (-2)))))) <|
    .st (.act none (.px (some 7) (.mv (.v 6)))) <|
    .st (.act (some (.v 7, false)) (.als 8 none 2)) <|
    .st (.act (some (.v 7, false)) (.pget (some 9) (some 8) 2 9 none)) <|
    .st (.act (some (.v 7, false)) (.px (some 10) (.bin .gtr (.v 9) (.c (.int .i64 2))))) <|
    .st (.act none (.px (some 11) (.pick (.v 7) (.c (.bool true)) (.v 10)))) <|
    .st (.act none (.px (some 12) (.mv (.v 11)))) <|
    .st (.act (some (.v 12, false)) (.als 13 none 2)) <|
    .st (.act (some (.v 12, false)) (.pget (some 14) (some 13) 2 5 none)) <|
    .st (.act (some (.v 12, false)) (.px (some 15) (.bin .lss (.v 14) (.c (.int .i64 (-1)))))) <|
    .st (.act none (.px (some 16) (.pick (.v 12) (.c (.bool true)) (.v 15)))) <|
    .st (.act none (.px (some 17) (.mv (.v 16)))) <|
    .st (.act (some (.v 17, false)) (.als 18 none 2)) <|
    .st (.act (some (.v 17, false)) (.pget (some 19) (some 18) 2 5 none)) <|
    .st (.act (some (.v 17, false)) (.px (some 20) (.bin .geq (.v 19) (.c (.int .i64 3))))) <|
    .st (.act none (.px (some 21) (.pick (.v 17) (.c (.bool true)) (.v 20)))) .done) K153_5) K153_3
@[simp] def W153_6 := @C.wpe _ _ K153_6.eq_1
def K153_7 : C := .seq (.pl <| .st (.ext 4 0) <|
    .st (.act none (.px (some 3) (.mv (.c (.bool false))))) .done) (.ret)
@[simp] def W153_7 := @C.wpe _ _ K153_7.eq_1
def K153_8 : C := .cond 4 (.v 33) K153_7 (.skip)
@[simp] def W153_8 := @C.wpe _ _ K153_8.eq_1
def K153_9 : Pl := .st (.act (some (.v 28, false)) (.px (some 32) (.un .not (.v 31)))) <|
    .st (.act none (.px (some 33) (.pick (.v 28) (.c (.bool true)) (.v 32)))) .done
@[simp] def W153_9 := @Pl.wpe _ _ K153_9.eq_1
def K153_10 : C := .seq (.seq (.pl <| .st (.ext 4 30) <|
    .st (.act none (.als 4 none 2)) <|
    .st (.act none (.pget (some 5) (some 4) 2 0 none)) <|
    .st (.act none (.px (some 6) (.bin .lss (.v 5) (.c (.int .i64 0))))) <|
    .st (.act none (.px (some 7) (.mv (.v 6)))) <|
    .st (.act (some (.v 7, false)) (.als 8 none 2)) <|
    .st (.act (some (.v 7, false)) (.pget (some 9) (some 8) 2 0 none)) <|
    .st (.act (some (.v 7, false)) (.px (some 10) (.mv (.v 1)))) <|
    .st (.act (some (.v 7, false)) (.px (some 11) (.bin .geq (.v 9) (.v 10)))) <|
    .st (.act none (.px (some 12) (.pick (.v 7) (.c (.bool true)) (.v 11)))) <|
    .st (.act none (.px (some 13) (.mv (.v 12)))) <|
    .st (.act (some (.v 13, false)) (.als 14 none 2)) <|
    .st (.act (some (.v 13, false)) (.pget (some 15) (some 14) 2 1 none)) <|
    .st (.act (some (.v 13, false)) (.px (some 16) (.bin .lss (.v 15) (.c (.int .i64 0))))) <|
    .st (.act none (.px (some 17) (.pick (.v 13) (.c (.bool true)) (.v 16)))) <|
    .st (.act none (.px (some 18) (.mv (.v 17)))) <|
    .st (.act (some (.v 18, false)) (.als 19 none 2)) <|
    .st (.act (some (.v 18, false)) (.pget (some 20) (some 19) 2 1 none)) <|
    .st (.act (some (.v 18, false)) (.px (some 21) (.mv (.v 1)))) <|
    .st (.act (some (.v 18, false)) (.px (some 22) (.bin .geq (.v 20) (.v 21)))) <|
    .st (.act none (.px (some 23) (.pick (.v 18) (.c (.bool true)) (.v 22)))) <|
    .st (.act none (.px (some 24) (.mv (.v 23)))) <|
    .st (.act (some (.v 24, false)) (.px (some 25) (.mv (.v 1)))) <|
    .st (.act (some (.v 24, false)) (.px (some 26) (.bin .gtr (.v 25) (.c (.int .i64 4))))) <|
    .st (.act none (.px (some 27) (.pick (.v 24) (.c (.bool true)) (.v 26)))) <|
    .st (.act none (.px (some 28) (.mv (.v 27)))) <|
    .st (.act (some (.v 28, false)) (.als 29 none 2)) <|
    .st (.act (some (.v 28, false)) (.pget (some 30) (some 29) 2 2 (some 3))) <|
    .st (.act (some (.v 28, false)) (.ex (some 31) (.call fn_spec_ExprValid [.v 30]))) K153_9) K153_8) K153_6
@[simp] def W153_10 := @C.wpe _ _ K153_10.eq_1
def B_spec_EdgeValid : C := .seq (.pl <| .st (.ext 4 0) <|
    .st (.act none (.pnew 2 (.v 0) [])) <|
    .st (.act none (.px (some 3) (.mv (.c (.bool false))))) .done) K153_10
@[simp] def WB_spec_EdgeValid := @C.wpe _ _ B_spec_EdgeValid.eq_1
def R_spec_EdgeValid : FIR := ⟨B_spec_EdgeValid, 4, [(3, none)]⟩
theorem IR_spec_EdgeValid : cfun Try.prog H_spec_EdgeValid Try.f153 = some R_spec_EdgeValid := by kernel_rfl
theorem EN_spec_EdgeValid {args : List Value} {h : Heap} {k : Value → Heap → Prop} (hargs : args.length = 2) (hw : B_spec_EdgeValid.wp Try.prog (retQ [(3, none)] k) (env0 args 4) h) : CallE Try.prog fn_spec_EdgeValid args h k := enter Try.func153 rfl IR_spec_EdgeValid hargs hw

def H_spec_SystemValid : Hint := ⟨[(0, false), (1, true), (2, false), (3, false)], [[0, 2]]⟩
def K60_1 : Pl := .st (.act none (.px (some 7) (.mv (.v 6)))) <|
    .st (.act (some (.v 7, true)) (.als 8 none 1)) <|
    .st (.act (some (.v 7, true)) (.pget (some 9) (some 8) 1 1 none)) <|
    .st (.act (some (.v 7, true)) (.px (some 10) (.lenV (.v 9)))) <|
    .st (.act (some (.v 7, true)) (.px (some 11) (.bin .geq (.v 10) (.c (.int .i64 1))))) <|
    .st (.act none (.px (some 12) (.pick (.v 7) (.v 11) (.c (.bool false))))) <|
    .st (.act none (.px (some 13) (.mv (.v 12)))) <|
    .st (.act (some (.v 13, true)) (.als 14 none 1)) <|
    .st (.act (some (.v 13, true)) (.pget (some 15) (some 14) 1 1 none)) <|
    .st (.act (some (.v 13, true)) (.px (some 16) (.lenV (.v 15)))) <|
    .st (.act (some (.v 13, true)) (.px (some 17) (.bin .leq (.v 16) (.c (.int .i64 3))))) <|
    .st (.act none (.px (some 18) (.pick (.v 13) (.v 17) (.c (.bool false))))) <|
    .st (.act none (.px (some 2) (.mv (.v 18)))) .done
@[simp] def W60_1 := @Pl.wpe _ _ K60_1.eq_1
def K60_2 : C := .seq (.pl <| .st (.ext 4 15) <|
    .st (.act none (.als 4 none 1)) <|
    .st (.act none (.pget (some 5) (some 4) 1 0 none)) <|
    .st (.act none (.ex (some 6) (.call fn_spec_l1Vals [.v 5]))) K60_1) (.ret)
@[simp] def W60_2 := @C.wpe _ _ K60_2.eq_1
def K60_3 : C := .pl <| .st (.ext 4 2) <|
    .st (.act none (.px (some 4) (.mv (.v 3)))) <|
    .st (.act none (.px (some 5) (.bin .add (.v 4) (.c (.int .i64 1))))) <|
    .st (.act none (.px (some 3) (.mv (.v 5)))) .done
@[simp] def W60_3 := @C.wpe _ _ K60_3.eq_1
def K60_4 : C := .seq (.pl <| .st (.ext 4 0) <|
    .st (.act none (.px (some 2) (.mv (.c (.bool false))))) .done) (.ret)
@[simp] def W60_4 := @C.wpe _ _ K60_4.eq_1
def K60_5 : C := .cond 4 (.v 10) K60_4 (.skip)
@[simp] def W60_5 := @C.wpe _ _ K60_5.eq_1
def K60_6 : Pl := .st (.act none (.px (some 10) (.un .not (.v 9)))) .done
@[simp] def W60_6 := @Pl.wpe _ _ K60_6.eq_1
def K60_7 : C := .seq (.block 1 (.seq (.pl <| .st (.ext 4 7) <|
    .st (.act none (.als 4 none 1)) <|
    .st (.act none (.pget (some 5) (some 4) 1 1 none)) <|
    .st (.act none (.px (some 6) (.mv (.v 3)))) <|
    .st (.act none (.px (some 7) (.ia 2 (.v 5) (.v 6)))) <|
    .st (.act none (.ld (some 8) (.v 7) (some 2))) <|
    .st (.act none (.ex (some 9) (.call fn_spec_l2Process [.v 8]))) K60_6) K60_5)) K60_3
@[simp] def W60_7 := @C.wpe _ _ K60_7.eq_1
def K60_8 : C := .cond 4 (.v 8) (.skip) (.exit 0)
@[simp] def W60_8 := @C.wpe _ _ K60_8.eq_1
def K60_9 : C := .seq (.seq (.pl <| .st (.ext 4 5) <|
    .st (.act none (.px (some 4) (.mv (.v 3)))) <|
    .st (.act none (.als 5 none 1)) <|
    .st (.act none (.pget (some 6) (some 5) 1 1 none)) <|
    .st (.act none (.px (some 7) (.lenV (.v 6)))) <|
    .st (.act none (.px (some 8) (.bin .lss (.v 4) (.v 7)))) .done) K60_8) K60_7
@[simp] def W60_9 := @C.wpe _ _ K60_9.eq_1
def K60_10 : C := .block 0 (.loop 4 [0, 2] K60_9)
@[simp] def W60_10 := @C.wpe _ _ K60_10.eq_1
def K60_11 : C := .seq (.seq (.pl <| .st (.ext 4 0) <|
    .st (.act none (.px (some 3) (.mv (.c (.int .i64 0))))) .done) K60_10) K60_2
@[simp] def W60_11 := @C.wpe _ _ K60_11.eq_1
def B_spec_SystemValid : C := .seq (.pl <| .st (.ext 4 0) <|
    .st (.act none (.pnew 1 (.v 0) [])) <|
    .st (.act none (.px (some 2) (.mv (.c (.bool false))))) .done) K60_11
@[simp] def WB_spec_SystemValid := @C.wpe _ _ B_spec_SystemValid.eq_1
def R_spec_SystemValid : FIR := ⟨B_spec_SystemValid, 4, [(2, none)]⟩
theorem IR_spec_SystemValid : cfun Try.prog H_spec_SystemValid Try.f60 = some R_spec_SystemValid := by kernel_rfl
theorem EN_spec_SystemValid {args : List Value} {h : Heap} {k : Value → Heap → Prop} (hargs : args.length = 1) (hw : B_spec_SystemValid.wp Try.prog (retQ [(2, none)] k) (env0 args 4) h) : CallE Try.prog fn_spec_SystemValid args h k := enter Try.func60 rfl IR_spec_SystemValid hargs hw

def H_spec_l2None : Hint := ⟨[(0, false), (1, true), (2, false)], []⟩
def K184_1 : C := .seq (.pl <| .st (.ext 3 14) <|
    .st (.act none (.als 3 none 1)) <|
    .st (.act none (.pget (some 4) (some 3) 1 0 none)) <|
    .st (.act none (.px (some 5) (.bin .eql (.v 4) (.c (.int .i64 0))))) <|
    .st (.act none (.px (some 6) (.mv (.v 5)))) <|
    .st (.act (some (.v 6, true)) (.als 7 none 1)) <|
    .st (.act (some (.v 6, true)) (.pget (some 8) (some 7) 1 1 none)) <|
    .st (.act (some (.v 6, true)) (.px (some 9) (.bin .eql (.v 8) (.c (.int .i64 0))))) <|
    .st (.act none (.px (some 10) (.pick (.v 6) (.v 9) (.c (.bool false))))) <|
    .st (.act none (.px (some 11) (.mv (.v 10)))) <|
    .st (.act (some (.v 11, true)) (.als 12 none 1)) <|
    .st (.act (some (.v 11, true)) (.pget (some 13) (some 12) 1 2 none)) <|
    .st (.act (some (.v 11, true)) (.px (some 14) (.lenV (.v 13)))) <|
    .st (.act (some (.v 11, true)) (.px (some 15) (.bin .eql (.v 14) (.c (.int .i64 0))))) <|
    .st (.act none (.px (some 16) (.pick (.v 11) (.v 15) (.c (.bool false))))) <|
    .st (.act none (.px (some 2) (.mv (.v 16)))) .done) (.ret)
@[simp] def W184_1 := @C.wpe _ _ K184_1.eq_1
def B_spec_l2None : C := .seq (.pl <| .st (.ext 3 0) <|
    .st (.act none (.pnew 1 (.v 0) [])) <|
    .st (.act none (.px (some 2) (.mv (.c (.bool false))))) .done) K184_1
@[simp] def WB_spec_l2None := @C.wpe _ _ B_spec_l2None.eq_1
def R_spec_l2None : FIR := ⟨B_spec_l2None, 3, [(2, none)]⟩
theorem IR_spec_l2None : cfun Try.prog H_spec_l2None Try.f184 = some R_spec_l2None := by kernel_rfl
theorem EN_spec_l2None {args : List Value} {h : Heap} {k : Value → Heap → Prop} (hargs : args.length = 1) (hw : B_spec_l2None.wp Try.prog (retQ [(2, none)] k) (env0 args 3) h) : CallE Try.prog fn_spec_l2None args h k := enter Try.func184 rfl IR_spec_l2None hargs hw

def H_spec_l2Process : Hint := ⟨[(0, false), (1, true), (2, false), (3, false)], [[0, 2]]⟩
def K114_1 : C := .seq (.pl <| .st (.ext 4 14) <|
    .st (.act none (.als 4 none 1)) <|
    .st (.act none (.pget (some 5) (some 4) 1 0 none)) <|
    .st (.act none (.px (some 6) (.bin .geq (.v 5) (.c (.int .i64 1))))) <|
    .st (.act none (.px (some 7) (.mv (.v 6)))) <|
    .st (.act (some (.v 7, true)) (.als 8 none 1)) <|
    .st (.act (some (.v 7, true)) (.pget (some 9) (some 8) 1 0 none)) <|
    .st (.act (some (.v 7, true)) (.px (some 10) (.bin .leq (.v 9) (.c (.int .i64 4))))) <|
    .st (.act none (.px (some 11) (.pick (.v 7) (.v 10) (.c (.bool false))))) <|
    .st (.act none (.px (some 12) (.mv (.v 11)))) <|
    .st (.act (some (.v 12, true)) (.als 13 none 1)) <|
    .st (.act (some (.v 12, true)) (.pget (some 14) (some 13) 1 1 none)) <|
    .st (.act (some (.v 12, true)) (.px (some 15) (.lenV (.v 14)))) <|
    .st (.act (some (.v 12, true)) (.px (some 16) (.bin .leq (.v 15) (.c (.int .i64 6))))) <|
    .st (.act none (.px (some 17) (.pick (.v 12) (.v 16) (.c (.bool false))))) <|
    .st (.act none (.px (some 2) (.mv (.v 17)))) .done) (.ret)
@[simp] def W114_1 := @C.wpe _ _ K114_1.eq_1
def K114_2 : C := .pl <| .st (.ext 4 2) <|
    .st (.act none (.px (some 4) (.mv (.v 3)))) <|
    .st (.act none (.px (some 5) (.bin .add (.v 4) (.c (.int .i64 1))))) <|
    .st (.act none (.px (some 3) (.mv (.v 5)))) .done
@[simp] def W114_2 := @C.wpe _ _ K114_2.eq_1
def K114_3 : C := .seq (.pl <| .st (.ext 4 0) <|
    .st (.act none (.px (some 2) (.mv (.c (.bool false))))) .done) (.ret)
@[simp] def W114_3 := @C.wpe _ _ K114_3.eq_1
def K114_4 : C := .cond 4 (.v 12) K114_3 (.skip)
@[simp] def W114_4 := @C.wpe _ _ K114_4.eq_1
def K114_5 : Pl := .st (.act none (.px (some 12) (.un .not (.v 11)))) .done
@[simp] def W114_5 := @Pl.wpe _ _ K114_5.eq_1
def K114_6 : C := .seq (.block 1 (.seq (.pl <| .st (.ext 4 9) <|
    .st (.act none (.als 4 none 1)) <|
    .st (.act none (.pget (some 5) (some 4) 1 1 none)) <|
    .st (.act none (.px (some 6) (.mv (.v 3)))) <|
    .st (.act none (.px (some 7) (.ia 10 (.v 5) (.v 6)))) <|
    .st (.act none (.ld (some 8) (.v 7) (some 10))) <|
    .st (.act none (.als 9 none 1)) <|
    .st (.act none (.pget (some 10) (some 9) 1 0 none)) <|
    .st (.act none (.ex (some 11) (.call fn_spec_EdgeValid [.v 8, .v 10]))) K114_5) K114_4)) K114_2
@[simp] def W114_6 := @C.wpe _ _ K114_6.eq_1
def K114_7 : C := .cond 4 (.v 8) (.skip) (.exit 0)
@[simp] def W114_7 := @C.wpe _ _ K114_7.eq_1
def K114_8 : C := .seq (.seq (.pl <| .st (.ext 4 5) <|
    .st (.act none (.px (some 4) (.mv (.v 3)))) <|
    .st (.act none (.als 5 none 1)) <|
    .st (.act none (.pget (some 6) (some 5) 1 1 none)) <|
    .st (.act none (.px (some 7) (.lenV (.v 6)))) <|
    .st (.act none (.px (some 8) (.bin .lss (.v 4) (.v 7)))) .done) K114_7) K114_6
@[simp] def W114_8 := @C.wpe _ _ K114_8.eq_1
def K114_9 : C := .block 0 (.loop 4 [0, 2] K114_8)
@[simp] def W114_9 := @C.wpe _ _ K114_9.eq_1
def K114_10 : C := .seq (.seq (.pl <| .st (.ext 4 0) <|
    .st (.act none (.px (some 3) (.mv (.c (.int .i64 0))))) .done) K114_9) K114_1
@[simp] def W114_10 := @C.wpe _ _ K114_10.eq_1
def B_spec_l2Process : C := .seq (.pl <| .st (.ext 4 0) <|
    .st (.act none (.pnew 1 (.v 0) [])) <|
    .st (.act none (.px (some 2) (.mv (.c (.bool false))))) .done) K114_10
@[simp] def WB_spec_l2Process := @C.wpe _ _ B_spec_l2Process.eq_1
def R_spec_l2Process : FIR := ⟨B_spec_l2Process, 4, [(2, none)]⟩
theorem IR_spec_l2Process : cfun Try.prog H_spec_l2Process Try.f114 = some R_spec_l2Process := by kernel_rfl
theorem EN_spec_l2Process {args : List Value} {h : Heap} {k : Value → Heap → Prop} (hargs : args.length = 1) (hw : B_spec_l2Process.wp Try.prog (retQ [(2, none)] k) (env0 args 4) h) : CallE Try.prog fn_spec_l2Process args h k := enter Try.func114 rfl IR_spec_l2Process hargs hw


end Go.Proofs.Ythgimpheeemooaa
