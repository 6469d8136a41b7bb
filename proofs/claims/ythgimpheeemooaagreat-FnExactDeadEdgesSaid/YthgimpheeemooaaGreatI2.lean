/-
  Bodies of functions in the small language, as a program printed them, and that each is what the translation gives.
-/
import Derived.Test.YthgimpheeemooaaGreatI1
namespace Go.Proofs.YthgimpheeemooaaGreat
open Go
set_option linter.all false
set_option linter.defProp false
set_option maxRecDepth 1000000

def H_impl_EdgeValid : Hint := ⟨[(0, false), (1, false), (2, true), (4, false)], []⟩
def K81_1 : Pl := .st (.act none (.px (some 55) (.pick (.v 51) (.v 54) (.c (.bool false))))) <|
    .st (.act none (.px (some 3) (.mv (.v 55)))) .done
@[simp] def W81_1 := @Pl.wpe _ _ K81_1.eq_1
def K81_2 : Pl := .st (.act (some (.v 39, false)) (.px (some 48) (.pick (.v 43) (.v 47) (.c (.bool false))))) <|
    .st (.act (some (.v 30, true)) (.px (some 49) (.pick (.v 39) (.c (.bool true)) (.v 48)))) <|
    .st (.act none (.px (some 50) (.pick (.v 30) (.v 49) (.c (.bool false))))) <|
    .st (.act none (.px (some 51) (.mv (.v 50)))) <|
    .st (.act (some (.v 51, true)) (.als 52 none 2)) <|
    .st (.act (some (.v 51, true)) (.pget (some 53) (some 52) 2 9 none)) <|
    .st (.act (some (.v 51, true)) (.ex (some 54) (.call fn_impl_in [.v 53, .c (.int .i64 (-2)), .c (.int .i64 2)]))) K81_1
@[simp] def W81_2 := @Pl.wpe _ _ K81_2.eq_1
def K81_3 : Pl := .st (.act (some (.v 30, true)) (.px (some 38) (.pick (.v 34) (.v 37) (.c (.bool false))))) <|
    .st (.act (some (.v 30, true)) (.px (some 39) (.mv (.v 38)))) <|
    .st (.act (some (.v 39, false)) (.als 40 none 2)) <|
    .st (.act (some (.v 39, false)) (.pget (some 41) (some 40) 2 5 none)) <|
    .st (.act (some (.v 39, false)) (.px (some 42) (.bin .lss (.v 41) (.c (.int .i64 0))))) <|
    .st (.act (some (.v 39, false)) (.px (some 43) (.mv (.v 42)))) <|
    .st (.act (some (.v 43, true)) (.als 44 none 2)) <|
    .st (.act (some (.v 43, true)) (.pget (some 45) (some 44) 2 6 (some 3))) <|
    .st (.act (some (.v 43, true)) (.px (some 46) (.build [.int .i64 0, .int .i64 0, .slice none 0 0] []))) <|
    .st (.act (some (.v 43, true)) (.ex (some 47) (.call fn_impl_ExprSame [.v 45, .v 46]))) K81_2
@[simp] def W81_3 := @Pl.wpe _ _ K81_3.eq_1
def K81_4 : Pl := .st (.act none (.px (some 29) (.pick (.v 25) (.v 28) (.c (.bool false))))) <|
    .st (.act none (.px (some 30) (.mv (.v 29)))) <|
    .st (.act (some (.v 30, true)) (.als 31 none 2)) <|
    .st (.act (some (.v 30, true)) (.pget (some 32) (some 31) 2 5 none)) <|
    .st (.act (some (.v 30, true)) (.px (some 33) (.bin .geq (.v 32) (.c (.int .i64 0))))) <|
    .st (.act (some (.v 30, true)) (.px (some 34) (.mv (.v 33)))) <|
    .st (.act (some (.v 34, true)) (.als 35 none 2)) <|
    .st (.act (some (.v 34, true)) (.pget (some 36) (some 35) 2 6 (some 3))) <|
    .st (.act (some (.v 34, true)) (.ex (some 37) (.call fn_impl_ExprValid [.v 36]))) K81_3
@[simp] def W81_4 := @Pl.wpe _ _ K81_4.eq_1
def K81_5 : Pl := .st (.act none (.px (some 24) (.pick (.v 20) (.v 23) (.c (.bool false))))) <|
    .st (.act none (.px (some 25) (.mv (.v 24)))) <|
    .st (.act (some (.v 25, true)) (.als 26 none 2)) <|
    .st (.act (some (.v 25, true)) (.pget (some 27) (some 26) 2 5 none)) <|
    .st (.act (some (.v 25, true)) (.ex (some 28) (.call fn_impl_in [.v 27, .c (.int .i64 (-1)), .c (.int .i64 2)]))) K81_4
@[simp] def W81_5 := @Pl.wpe _ _ K81_5.eq_1
def K81_6 : Pl := .st (.act none (.px (some 19) (.pick (.v 13) (.v 18) (.c (.bool false))))) <|
    .st (.act none (.px (some 20) (.mv (.v 19)))) <|
    .st (.act (some (.v 20, true)) (.als 21 none 2)) <|
    .st (.act (some (.v 20, true)) (.pget (some 22) (some 21) 2 2 (some 3))) <|
    .st (.act (some (.v 20, true)) (.ex (some 23) (.call fn_impl_ExprValid [.v 22]))) K81_5
@[simp] def W81_6 := @Pl.wpe _ _ K81_6.eq_1
def K81_7 : Pl := .st (.act none (.px (some 12) (.pick (.v 6) (.v 11) (.c (.bool false))))) <|
    .st (.act none (.px (some 13) (.mv (.v 12)))) <|
    .st (.act (some (.v 13, true)) (.als 14 none 2)) <|
    .st (.act (some (.v 13, true)) (.pget (some 15) (some 14) 2 1 none)) <|
    .st (.act (some (.v 13, true)) (.px (some 16) (.mv (.v 1)))) <|
    .st (.act (some (.v 13, true)) (.px (some 17) (.bin .sub (.v 16) (.c (.int .i64 1))))) <|
    .st (.act (some (.v 13, true)) (.ex (some 18) (.call fn_impl_in [.v 15, .c (.int .i64 0), .v 17]))) K81_6
@[simp] def W81_7 := @Pl.wpe _ _ K81_7.eq_1
def K81_8 : Pl := .st (.act none (.px (some 6) (.mv (.v 5)))) <|
    .st (.act (some (.v 6, true)) (.als 7 none 2)) <|
    .st (.act (some (.v 6, true)) (.pget (some 8) (some 7) 2 0 none)) <|
    .st (.act (some (.v 6, true)) (.px (some 9) (.mv (.v 1)))) <|
    .st (.act (some (.v 6, true)) (.px (some 10) (.bin .sub (.v 9) (.c (.int .i64 1))))) <|
    .st (.act (some (.v 6, true)) (.ex (some 11) (.call fn_impl_in [.v 8, .c (.int .i64 0), .v 10]))) K81_7
@[simp] def W81_8 := @Pl.wpe _ _ K81_8.eq_1
def K81_9 : C := .seq (.pl <| .st (.ext 4 52) <|
    .st (.act none (.px (some 4) (.mv (.v 1)))) <|
    .st (.act none (.ex (some 5) (.call fn_impl_in [.v 4, .c (.int .i64 1), .c (.int .i64 4)]))) K81_8) (.ret)
@[simp] def W81_9 := @C.wpe _ _ K81_9.eq_1
def B_impl_EdgeValid : C := .seq (.pl <| .st (.ext 4 0) <|
    .st (.act none (.pnew 2 (.v 0) [])) <|
    .st (.act none (.px (some 3) (.mv (.c (.bool false))))) .done) K81_9
@[simp] def WB_impl_EdgeValid := @C.wpe _ _ B_impl_EdgeValid.eq_1
def R_impl_EdgeValid : FIR := ⟨B_impl_EdgeValid, 4, [(3, none)]⟩
theorem IR_impl_EdgeValid : cfun Tryz.prog H_impl_EdgeValid Tryz.f81 = some R_impl_EdgeValid := by kernel_rfl
theorem EN_impl_EdgeValid {args : List Value} {h : Heap} {k : Value → Heap → Prop} (hargs : args.length = 2) (hw : B_impl_EdgeValid.wp Tryz.prog (retQ [(3, none)] k) (env0 args 4) h) : CallE Tryz.prog fn_impl_EdgeValid args h k := enter Tryz.func81 rfl IR_impl_EdgeValid hargs hw

def H_impl_ExprNodes : Hint := ⟨[(0, false), (1, true), (2, false), (3, false)], []⟩
def K101_1 : C := .seq (.pl <| .st (.ext 4 1) <|
    .st (.act none (.ld (some 4) (.v 3) none)) <|
    .st (.act none (.px (some 2) (.mv (.v 4)))) .done) (.ret)
@[simp] def W101_1 := @C.wpe _ _ K101_1.eq_1
def K101_2 : C := .seq (.pl <| .st (.ext 4 0) <|
    .st (.act none (.px (some 2) (.mv (.c (.int .i64 0))))) .done) (.ret)
@[simp] def W101_2 := @C.wpe _ _ K101_2.eq_1
def K101_3 : C := .cond 4 (.v 6) K101_2 (.skip)
@[simp] def W101_3 := @C.wpe _ _ K101_3.eq_1
def K101_4 : Pl := .st (.act none (.px (some 6) (.un .not (.v 5)))) .done
@[simp] def W101_4 := @Pl.wpe _ _ K101_4.eq_1
def K101_5 : C := .seq (.seq (.pl <| .st (.ext 4 3) <|
    .st (.act none (.pget (some 4) none 1 0 (some 3))) <|
    .st (.act none (.ex (some 5) (.call fn_impl_Expr_walk [.v 4, .c (.int .i64 1), .v 3]))) K101_4) K101_3) K101_1
@[simp] def W101_5 := @C.wpe _ _ K101_5.eq_1
def K101_6 : Pl := .st (.act none (.ex none (.store 1 (.v 3) (.c (.int .i64 0))))) .done
@[simp] def W101_6 := @Pl.wpe _ _ K101_6.eq_1
def K101_7 : C := .seq (.pl <| .st (.ext 4 0) <|
    .st (.act none (.ex (some 3) (.alloc (.c (.int .i64 0))))) K101_6) K101_5
@[simp] def W101_7 := @C.wpe _ _ K101_7.eq_1
def B_impl_ExprNodes : C := .seq (.pl <| .st (.ext 4 0) <|
    .st (.act none (.pnew 1 (.v 0) [])) <|
    .st (.act none (.px (some 2) (.mv (.c (.int .i64 0))))) .done) K101_7
@[simp] def WB_impl_ExprNodes := @C.wpe _ _ B_impl_ExprNodes.eq_1
def R_impl_ExprNodes : FIR := ⟨B_impl_ExprNodes, 4, [(2, none)]⟩
theorem IR_impl_ExprNodes : cfun Tryz.prog H_impl_ExprNodes Tryz.f101 = some R_impl_ExprNodes := by kernel_rfl
theorem EN_impl_ExprNodes {args : List Value} {h : Heap} {k : Value → Heap → Prop} (hargs : args.length = 1) (hw : B_impl_ExprNodes.wp Tryz.prog (retQ [(2, none)] k) (env0 args 4) h) : CallE Tryz.prog fn_impl_ExprNodes args h k := enter Tryz.func101 rfl IR_impl_ExprNodes hargs hw

def H_impl_ExprSame : Hint := ⟨[(0, false), (1, false), (2, true), (3, true), (4, false)], []⟩
def K111_1 : Pl := .st (.act none (.px (some 23) (.pick (.v 17) (.v 22) (.c (.bool false))))) <|
    .st (.act none (.px (some 4) (.mv (.v 23)))) .done
@[simp] def W111_1 := @Pl.wpe _ _ K111_1.eq_1
def K111_2 : C := .seq (.pl <| .st (.ext 5 19) <|
    .st (.act none (.als 5 none 2)) <|
    .st (.act none (.pget (some 6) (some 5) 2 0 none)) <|
    .st (.act none (.als 7 none 3)) <|
    .st (.act none (.pget (some 8) (some 7) 3 0 none)) <|
    .st (.act none (.px (some 9) (.bin .eql (.v 6) (.v 8)))) <|
    .st (.act none (.px (some 10) (.mv (.v 9)))) <|
    .st (.act (some (.v 10, true)) (.als 11 none 2)) <|
    .st (.act (some (.v 10, true)) (.pget (some 12) (some 11) 2 1 none)) <|
    .st (.act (some (.v 10, true)) (.als 13 none 3)) <|
    .st (.act (some (.v 10, true)) (.pget (some 14) (some 13) 3 1 none)) <|
    .st (.act (some (.v 10, true)) (.px (some 15) (.bin .eql (.v 12) (.v 14)))) <|
    .st (.act none (.px (some 16) (.pick (.v 10) (.v 15) (.c (.bool false))))) <|
    .st (.act none (.px (some 17) (.mv (.v 16)))) <|
    .st (.act (some (.v 17, true)) (.als 18 none 2)) <|
    .st (.act (some (.v 17, true)) (.pget (some 19) (some 18) 2 2 none)) <|
    .st (.act (some (.v 17, true)) (.als 20 none 3)) <|
    .st (.act (some (.v 17, true)) (.pget (some 21) (some 20) 3 2 none)) <|
    .st (.act (some (.v 17, true)) (.ex (some 22) (.call fn_slices_EqualFunc_S_impl_Expr_S_impl_Expr_impl_Expr_impl_Expr [.v 19, .v 21, .c (.func (.func 111) #[] #[])]))) K111_1) (.ret)
@[simp] def W111_2 := @C.wpe _ _ K111_2.eq_1
def B_impl_ExprSame : C := .seq (.pl <| .st (.ext 5 0) <|
    .st (.act none (.pnew 2 (.v 0) [])) <|
    .st (.act none (.pnew 3 (.v 1) [])) <|
    .st (.act none (.px (some 4) (.mv (.c (.bool false))))) .done) K111_2
@[simp] def WB_impl_ExprSame := @C.wpe _ _ B_impl_ExprSame.eq_1
def R_impl_ExprSame : FIR := ⟨B_impl_ExprSame, 5, [(4, none)]⟩
theorem IR_impl_ExprSame : cfun Tryz.prog H_impl_ExprSame Tryz.f111 = some R_impl_ExprSame := by kernel_rfl
theorem EN_impl_ExprSame {args : List Value} {h : Heap} {k : Value → Heap → Prop} (hargs : args.length = 2) (hw : B_impl_ExprSame.wp Tryz.prog (retQ [(4, none)] k) (env0 args 5) h) : CallE Tryz.prog fn_impl_ExprSame args h k := enter Tryz.func111 rfl IR_impl_ExprSame hargs hw

def H_impl_ExprValid : Hint := ⟨[(0, false), (1, true), (2, false)], []⟩
def K59_1 : Pl := .st (.act none (.px (some 5) (.bin .gtr (.v 4) (.c (.int .i64 0))))) <|
    .st (.act none (.px (some 2) (.mv (.v 5)))) .done
@[simp] def W59_1 := @Pl.wpe _ _ K59_1.eq_1
def K59_2 : C := .seq (.pl <| .st (.ext 3 3) <|
    .st (.act none (.pget (some 3) none 1 0 (some 3))) <|
    .st (.act none (.ex (some 4) (.call fn_impl_ExprNodes [.v 3]))) K59_1) (.ret)
@[simp] def W59_2 := @C.wpe _ _ K59_2.eq_1
def B_impl_ExprValid : C := .seq (.pl <| .st (.ext 3 0) <|
    .st (.act none (.pnew 1 (.v 0) [])) <|
    .st (.act none (.px (some 2) (.mv (.c (.bool false))))) .done) K59_2
@[simp] def WB_impl_ExprValid := @C.wpe _ _ B_impl_ExprValid.eq_1
def R_impl_ExprValid : FIR := ⟨B_impl_ExprValid, 3, [(2, none)]⟩
theorem IR_impl_ExprValid : cfun Tryz.prog H_impl_ExprValid Tryz.f59 = some R_impl_ExprValid := by kernel_rfl
theorem EN_impl_ExprValid {args : List Value} {h : Heap} {k : Value → Heap → Prop} (hargs : args.length = 1) (hw : B_impl_ExprValid.wp Tryz.prog (retQ [(2, none)] k) (env0 args 3) h) : CallE Tryz.prog fn_impl_ExprValid args h k := enter Tryz.func59 rfl IR_impl_ExprValid hargs hw

def H_impl_Expr_eval : Hint := ⟨[(0, false), (1, false), (2, true), (4, false), (5, false), (6, false), (8, false), (39, false)], []⟩
def K61_1 : C := .seq (.pl <| .st (.ext 8 6) <|
    .st (.act none (.px (some 8) (.mv (.v 4)))) <|
    .st (.act none (.px (some 9) (.mv (.v 5)))) <|
    .st (.act none (.px (some 10) (.bin .sub (.v 8) (.v 9)))) <|
    .st (.act none (.px (some 11) (.bin .add (.v 10) (.c (.int .i64 3))))) <|
    .st (.act none (.px (some 12) (.bin .add (.v 11) (.c (.int .i64 1))))) <|
    .st (.act none (.px (some 13) (.bin .rem (.v 12) (.c (.int .i64 4))))) <|
    .st (.act none (.px (some 3) (.mv (.v 13)))) .done) (.ret)
@[simp] def W61_1 := @C.wpe _ _ K61_1.eq_1
def K61_2 : Pl := .st (.act none (.px (some 3) (.mv (.v 14)))) .done
@[simp] def W61_2 := @Pl.wpe _ _ K61_2.eq_1
def K61_3 : C := .seq (.pl <| .st (.ext 8 7) <|
    .st (.act none (.px (some 8) (.mv (.v 4)))) <|
    .st (.act none (.px (some 9) (.bin .neq (.v 8) (.c (.int .i64 0))))) <|
    .st (.act none (.px (some 10) (.mv (.v 9)))) <|
    .st (.act (some (.v 10, true)) (.px (some 11) (.mv (.v 5)))) <|
    .st (.act (some (.v 10, true)) (.px (some 12) (.bin .neq (.v 11) (.c (.int .i64 0))))) <|
    .st (.act none (.px (some 13) (.pick (.v 10) (.v 12) (.c (.bool false))))) <|
    .st (.act none (.ex (some 14) (.call fn_impl_truth [.v 13]))) K61_2) (.ret)
@[simp] def W61_3 := @C.wpe _ _ K61_3.eq_1
def K61_4 : Pl := .st (.act none (.px (some 3) (.mv (.v 14)))) .done
@[simp] def W61_4 := @Pl.wpe _ _ K61_4.eq_1
def K61_5 : C := .seq (.pl <| .st (.ext 8 7) <|
    .st (.act none (.px (some 8) (.mv (.v 4)))) <|
    .st (.act none (.px (some 9) (.bin .neq (.v 8) (.c (.int .i64 0))))) <|
    .st (.act none (.px (some 10) (.mv (.v 9)))) <|
    .st (.act (some (.v 10, false)) (.px (some 11) (.mv (.v 5)))) <|
    .st (.act (some (.v 10, false)) (.px (some 12) (.bin .neq (.v 11) (.c (.int .i64 0))))) <|
    .st (.act none (.px (some 13) (.pick (.v 10) (.c (.bool true)) (.v 12)))) <|
    .st (.act none (.ex (some 14) (.call fn_impl_truth [.v 13]))) K61_4) (.ret)
@[simp] def W61_5 := @C.wpe _ _ K61_5.eq_1
def K61_6 : Pl := .st (.act none (.px (some 3) (.mv (.v 11)))) .done
@[simp] def W61_6 := @Pl.wpe _ _ K61_6.eq_1
def K61_7 : C := .seq (.pl <| .st (.ext 8 4) <|
    .st (.act none (.px (some 8) (.mv (.v 4)))) <|
    .st (.act none (.px (some 9) (.mv (.v 5)))) <|
    .st (.act none (.px (some 10) (.bin .eql (.v 8) (.v 9)))) <|
    .st (.act none (.ex (some 11) (.call fn_impl_truth [.v 10]))) K61_6) (.ret)
@[simp] def W61_7 := @C.wpe _ _ K61_7.eq_1
def K61_8 : Pl := .st (.act none (.px (some 3) (.mv (.v 11)))) .done
@[simp] def W61_8 := @Pl.wpe _ _ K61_8.eq_1
def K61_9 : C := .seq (.pl <| .st (.ext 8 4) <|
    .st (.act none (.px (some 8) (.mv (.v 4)))) <|
    .st (.act none (.px (some 9) (.mv (.v 5)))) <|
    .st (.act none (.px (some 10) (.bin .lss (.v 8) (.v 9)))) <|
    .st (.act none (.ex (some 11) (.call fn_impl_truth [.v 10]))) K61_8) (.ret)
@[simp] def W61_9 := @C.wpe _ _ K61_9.eq_1
def K61_10 : C := .seq (.pl <| .st (.ext 8 4) <|
    .st (.act none (.px (some 8) (.mv (.v 4)))) <|
    .st (.act none (.px (some 9) (.mv (.v 5)))) <|
    .st (.act none (.px (some 10) (.bin .add (.v 8) (.v 9)))) <|
    .st (.act none (.px (some 11) (.bin .rem (.v 10) (.c (.int .i64 4))))) <|
    .st (.act none (.px (some 3) (.mv (.v 11)))) .done) (.ret)
@[simp] def W61_10 := @C.wpe _ _ K61_10.eq_1
def K61_11 : C := .cond 8 (.v 9) K61_10 (.skip)
@[simp] def W61_11 := @C.wpe _ _ K61_11.eq_1
def K61_12 : C := .seq (.pl <| .st (.ext 8 2) <|
    .st (.act none (.px (some 8) (.bin .eql (.v 7) (.c (.int .i64 8))))) <|
    .st (.act none (.px (some 9) (.mv (.v 8)))) .done) K61_11
@[simp] def W61_12 := @C.wpe _ _ K61_12.eq_1
def K61_13 : C := .cond 8 (.v 9) K61_9 K61_12
@[simp] def W61_13 := @C.wpe _ _ K61_13.eq_1
def K61_14 : C := .seq (.pl <| .st (.ext 8 2) <|
    .st (.act none (.px (some 8) (.bin .eql (.v 7) (.c (.int .i64 7))))) <|
    .st (.act none (.px (some 9) (.mv (.v 8)))) .done) K61_13
@[simp] def W61_14 := @C.wpe _ _ K61_14.eq_1
def K61_15 : C := .cond 8 (.v 9) K61_7 K61_14
@[simp] def W61_15 := @C.wpe _ _ K61_15.eq_1
def K61_16 : C := .seq (.pl <| .st (.ext 8 2) <|
    .st (.act none (.px (some 8) (.bin .eql (.v 7) (.c (.int .i64 6))))) <|
    .st (.act none (.px (some 9) (.mv (.v 8)))) .done) K61_15
@[simp] def W61_16 := @C.wpe _ _ K61_16.eq_1
def K61_17 : C := .cond 8 (.v 9) K61_5 K61_16
@[simp] def W61_17 := @C.wpe _ _ K61_17.eq_1
def K61_18 : C := .seq (.pl <| .st (.ext 8 2) <|
    .st (.act none (.px (some 8) (.bin .eql (.v 7) (.c (.int .i64 5))))) <|
    .st (.act none (.px (some 9) (.mv (.v 8)))) .done) K61_17
@[simp] def W61_18 := @C.wpe _ _ K61_18.eq_1
def K61_19 : C := .cond 8 (.v 9) K61_3 K61_18
@[simp] def W61_19 := @C.wpe _ _ K61_19.eq_1
def K61_20 : C := .block 1 (.seq (.pl <| .st (.ext 8 2) <|
    .st (.act none (.px (some 8) (.bin .eql (.v 7) (.c (.int .i64 4))))) <|
    .st (.act none (.px (some 9) (.mv (.v 8)))) .done) K61_19)
@[simp] def W61_20 := @C.wpe _ _ K61_20.eq_1
def K61_21 : C := .seq (.seq (.pl <| .st (.ext 8 1) <|
    .st (.act none (.als 8 none 2)) <|
    .st (.act none (.pget (some 7) (some 8) 2 0 none)) .done) K61_20) K61_1
@[simp] def W61_21 := @C.wpe _ _ K61_21.eq_1
def K61_22 : Pl := .st (.act none (.px (some 5) (.mv (.v 13)))) .done
@[simp] def W61_22 := @Pl.wpe _ _ K61_22.eq_1
def K61_23 : C := .seq (.pl <| .st (.ext 8 6) <|
    .st (.act none (.als 8 none 2)) <|
    .st (.act none (.pget (some 9) (some 8) 2 2 none)) <|
    .st (.act none (.px (some 10) (.ia 3 (.v 9) (.c (.int .i64 1))))) <|
    .st (.act none (.ld (some 11) (.v 10) (some 3))) <|
    .st (.act none (.px (some 12) (.mv (.v 1)))) <|
    .st (.act none (.ex (some 13) (.call fn_impl_Expr_eval [.v 11, .v 12]))) K61_22) K61_21
@[simp] def W61_23 := @C.wpe _ _ K61_23.eq_1
def K61_24 : Pl := .st (.act none (.px (some 3) (.mv (.v 10)))) .done
@[simp] def W61_24 := @Pl.wpe _ _ K61_24.eq_1
def K61_25 : C := .seq (.pl <| .st (.ext 8 3) <|
    .st (.act none (.px (some 8) (.mv (.v 4)))) <|
    .st (.act none (.px (some 9) (.bin .eql (.v 8) (.c (.int .i64 0))))) <|
    .st (.act none (.ex (some 10) (.call fn_impl_truth [.v 9]))) K61_24) (.ret)
@[simp] def W61_25 := @C.wpe _ _ K61_25.eq_1
def K61_26 : C := .cond 8 (.v 10) K61_25 (.skip)
@[simp] def W61_26 := @C.wpe _ _ K61_26.eq_1
def K61_27 : C := .seq (.seq (.pl <| .st (.ext 8 3) <|
    .st (.act none (.als 8 none 2)) <|
    .st (.act none (.pget (some 9) (some 8) 2 0 none)) <|
    .st (.act none (.px (some 10) (.bin .eql (.v 9) (.c (.int .i64 3))))) .done) K61_26) K61_23
@[simp] def W61_27 := @C.wpe _ _ K61_27.eq_1
def K61_28 : Pl := .st (.act none (.px (some 4) (.mv (.v 13)))) .done
@[simp] def W61_28 := @Pl.wpe _ _ K61_28.eq_1
def K61_29 : C := .seq (.pl <| .st (.ext 8 6) <|
    .st (.act none (.als 8 none 2)) <|
    .st (.act none (.pget (some 9) (some 8) 2 2 none)) <|
    .st (.act none (.px (some 10) (.ia 3 (.v 9) (.c (.int .i64 0))))) <|
    .st (.act none (.ld (some 11) (.v 10) (some 3))) <|
    .st (.act none (.px (some 12) (.mv (.v 1)))) <|
    .st (.act none (.ex (some 13) (.call fn_impl_Expr_eval [.v 11, .v 12]))) K61_28) K61_27
@[simp] def W61_29 := @C.wpe _ _ K61_29.eq_1
def K61_30 : C := .seq (.pl <| .st (.ext 8 2) <|
    .st (.act none (.als 8 none 2)) <|
    .st (.act none (.pget (some 9) (some 8) 2 1 none)) <|
    .st (.act none (.px (some 3) (.mv (.v 9)))) .done) (.ret)
@[simp] def W61_30 := @C.wpe _ _ K61_30.eq_1
def K61_31 : C := .seq (.pl <| .st (.ext 8 5) <|
    .st (.act none (.px (some 8) (.mv (.v 1)))) <|
    .st (.act none (.als 9 none 2)) <|
    .st (.act none (.pget (some 10) (some 9) 2 1 none)) <|
    .st (.act none (.px (some 11) (.ia 1 (.v 8) (.v 10)))) <|
    .st (.act none (.ld (some 12) (.v 11) none)) <|
    .st (.act none (.px (some 3) (.mv (.v 12)))) .done) (.ret)
@[simp] def W61_31 := @C.wpe _ _ K61_31.eq_1
def K61_32 : C := .cond 8 (.v 9) K61_31 (.skip)
@[simp] def W61_32 := @C.wpe _ _ K61_32.eq_1
def K61_33 : C := .seq (.pl <| .st (.ext 8 2) <|
    .st (.act none (.px (some 8) (.bin .eql (.v 6) (.c (.int .i64 2))))) <|
    .st (.act none (.px (some 9) (.mv (.v 8)))) .done) K61_32
@[simp] def W61_33 := @C.wpe _ _ K61_33.eq_1
def K61_34 : C := .cond 8 (.v 9) K61_30 K61_33
@[simp] def W61_34 := @C.wpe _ _ K61_34.eq_1
def K61_35 : C := .block 0 (.seq (.pl <| .st (.ext 8 2) <|
    .st (.act none (.px (some 8) (.bin .eql (.v 6) (.c (.int .i64 1))))) <|
    .st (.act none (.px (some 9) (.mv (.v 8)))) .done) K61_34)
@[simp] def W61_35 := @C.wpe _ _ K61_35.eq_1
def K61_36 : C := .seq (.seq (.pl <| .st (.ext 8 1) <|
    .st (.act none (.als 8 none 2)) <|
    .st (.act none (.pget (some 6) (some 8) 2 0 none)) .done) K61_35) K61_29
@[simp] def W61_36 := @C.wpe _ _ K61_36.eq_1
def B_impl_Expr_eval : C := .seq (.pl <| .st (.ext 8 0) <|
    .st (.act none (.pnew 2 (.v 0) [])) <|
    .st (.act none (.px (some 3) (.mv (.c (.int .i64 0))))) .done) K61_36
@[simp] def WB_impl_Expr_eval := @C.wpe _ _ B_impl_Expr_eval.eq_1
def R_impl_Expr_eval : FIR := ⟨B_impl_Expr_eval, 8, [(3, none)]⟩
theorem IR_impl_Expr_eval : cfun Tryz.prog H_impl_Expr_eval Tryz.f61 = some R_impl_Expr_eval := by kernel_rfl
theorem EN_impl_Expr_eval {args : List Value} {h : Heap} {k : Value → Heap → Prop} (hargs : args.length = 2) (hw : B_impl_Expr_eval.wp Tryz.prog (retQ [(3, none)] k) (env0 args 8) h) : CallE Tryz.prog fn_impl_Expr_eval args h k := enter Tryz.func61 rfl IR_impl_Expr_eval hargs hw

def H_impl_Expr_walk : Hint := ⟨[(0, false), (1, false), (2, false), (3, true), (4, false), (5, false), (6, false), (7, false), (8, false), (15, false)], []⟩
def K121_1 : Pl := .st (.act none (.px (some 14) (.un .not (.v 13)))) <|
    .st (.act none (.px (some 6) (.mv (.v 14)))) .done
@[simp] def W121_1 := @Pl.wpe _ _ K121_1.eq_1
def K121_2 : C := .seq (.pl <| .st (.ext 10 5) <|
    .st (.act none (.als 10 none 3)) <|
    .st (.act none (.pget (some 11) (some 10) 3 2 none)) <|
    .st (.act none (.px (some 12) (.mkf (.func fn_impl_Expr_walk_1) [] [.v 4, .v 5]))) <|
    .st (.act none (.ex (some 13) (.call fn_slices_ContainsFunc_S_impl_Expr_impl_Expr [.v 11, .v 12]))) K121_1) (.ret)
@[simp] def W121_2 := @C.wpe _ _ K121_2.eq_1
def K121_3 : C := .seq (.pl <| .st (.ext 10 0) <|
    .st (.act none (.px (some 6) (.mv (.c (.bool false))))) .done) (.ret)
@[simp] def W121_3 := @C.wpe _ _ K121_3.eq_1
def K121_4 : C := .cond 10 (.v 37) K121_3 (.skip)
@[simp] def W121_4 := @C.wpe _ _ K121_4.eq_1
def K121_5 : Pl := .st (.act (some (.v 24, false)) (.px (some 29) (.un .not (.v 28)))) <|
    .st (.act none (.px (some 30) (.pick (.v 24) (.c (.bool true)) (.v 29)))) <|
    .st (.act none (.px (some 31) (.mv (.v 30)))) <|
    .st (.act (some (.v 31, false)) (.als 32 none 3)) <|
    .st (.act (some (.v 31, false)) (.pget (some 33) (some 32) 3 2 none)) <|
    .st (.act (some (.v 31, false)) (.px (some 34) (.lenV (.v 33)))) <|
    .st (.act (some (.v 31, false)) (.px (some 35) (.mv (.v 7)))) <|
    .st (.act (some (.v 31, false)) (.px (some 36) (.bin .neq (.v 34) (.v 35)))) <|
    .st (.act none (.px (some 37) (.pick (.v 31) (.c (.bool true)) (.v 36)))) .done
@[simp] def W121_5 := @Pl.wpe _ _ K121_5.eq_1
def K121_6 : Pl := .st (.act (some (.v 18, false)) (.px (some 22) (.un .not (.v 21)))) <|
    .st (.act none (.px (some 23) (.pick (.v 18) (.c (.bool true)) (.v 22)))) <|
    .st (.act none (.px (some 24) (.mv (.v 23)))) <|
    .st (.act (some (.v 24, false)) (.als 25 none 3)) <|
    .st (.act (some (.v 24, false)) (.pget (some 26) (some 25) 3 1 none)) <|
    .st (.act (some (.v 24, false)) (.px (some 27) (.mv (.v 8)))) <|
    .st (.act (some (.v 24, false)) (.ex (some 28) (.call fn_impl_in [.v 26, .c (.int .i64 0), .v 27]))) K121_5
@[simp] def W121_6 := @Pl.wpe _ _ K121_6.eq_1
def K121_7 : C := .seq (.seq (.pl <| .st (.ext 10 28) <|
    .st (.act none (.ld (some 10) (.v 4) none)) <|
    .st (.act none (.px (some 11) (.bin .gtr (.v 10) (.c (.int .i64 6))))) <|
    .st (.act none (.px (some 12) (.mv (.v 11)))) <|
    .st (.act (some (.v 12, false)) (.ld (some 13) (.v 5) none)) <|
    .st (.act (some (.v 12, false)) (.px (some 14) (.nilc (.v 13)))) <|
    .st (.act (some (.v 12, false)) (.ld (some 15) (.v 14) none)) <|
    .st (.act (some (.v 12, false)) (.px (some 16) (.bin .gtr (.v 15) (.c (.int .i64 15))))) <|
    .st (.act none (.px (some 17) (.pick (.v 12) (.c (.bool true)) (.v 16)))) <|
    .st (.act none (.px (some 18) (.mv (.v 17)))) <|
    .st (.act (some (.v 18, false)) (.als 19 none 3)) <|
    .st (.act (some (.v 18, false)) (.pget (some 20) (some 19) 3 0 none)) <|
    .st (.act (some (.v 18, false)) (.ex (some 21) (.call fn_impl_in [.v 20, .c (.int .i64 1), .c (.int .i64 9)]))) K121_6) K121_4) K121_2
@[simp] def W121_7 := @C.wpe _ _ K121_7.eq_1
def K121_8 : C := .pl <| .st (.ext 10 0) <|
    .st (.act none (.px (some 7) (.mv (.c (.int .i64 0))))) <|
    .st (.act none (.px (some 8) (.mv (.c (.int .i64 3))))) .done
@[simp] def W121_8 := @C.wpe _ _ K121_8.eq_1
def K121_9 : C := .pl <| .st (.ext 10 0) <|
    .st (.act none (.px (some 7) (.mv (.c (.int .i64 0))))) <|
    .st (.act none (.px (some 8) (.mv (.c (.int .i64 2))))) .done
@[simp] def W121_9 := @C.wpe _ _ K121_9.eq_1
def K121_10 : C := .pl <| .st (.ext 10 0) <|
    .st (.act none (.px (some 7) (.mv (.c (.int .i64 1))))) .done
@[simp] def W121_10 := @C.wpe _ _ K121_10.eq_1
def K121_11 : C := .cond 10 (.v 11) K121_10 (.skip)
@[simp] def W121_11 := @C.wpe _ _ K121_11.eq_1
def K121_12 : C := .seq (.pl <| .st (.ext 10 2) <|
    .st (.act none (.px (some 10) (.bin .eql (.v 9) (.c (.int .i64 3))))) <|
    .st (.act none (.px (some 11) (.mv (.v 10)))) .done) K121_11
@[simp] def W121_12 := @C.wpe _ _ K121_12.eq_1
def K121_13 : C := .cond 10 (.v 11) K121_9 K121_12
@[simp] def W121_13 := @C.wpe _ _ K121_13.eq_1
def K121_14 : C := .seq (.pl <| .st (.ext 10 2) <|
    .st (.act none (.px (some 10) (.bin .eql (.v 9) (.c (.int .i64 2))))) <|
    .st (.act none (.px (some 11) (.mv (.v 10)))) .done) K121_13
@[simp] def W121_14 := @C.wpe _ _ K121_14.eq_1
def K121_15 : C := .cond 10 (.v 11) K121_8 K121_14
@[simp] def W121_15 := @C.wpe _ _ K121_15.eq_1
def K121_16 : C := .block 0 (.seq (.pl <| .st (.ext 10 2) <|
    .st (.act none (.px (some 10) (.bin .eql (.v 9) (.c (.int .i64 1))))) <|
    .st (.act none (.px (some 11) (.mv (.v 10)))) .done) K121_15)
@[simp] def W121_16 := @C.wpe _ _ K121_16.eq_1
def K121_17 : C := .seq (.seq (.pl <| .st (.ext 10 1) <|
    .st (.act none (.als 10 none 3)) <|
    .st (.act none (.pget (some 9) (some 10) 3 0 none)) .done) K121_16) K121_7
@[simp] def W121_17 := @C.wpe _ _ K121_17.eq_1
def K121_18 : C := .seq (.pl <| .st (.ext 10 0) <|
    .st (.act none (.px (some 7) (.mv (.c (.int .i64 2))))) <|
    .st (.act none (.px (some 8) (.mv (.c (.int .i64 0))))) .done) K121_17
@[simp] def W121_18 := @C.wpe _ _ K121_18.eq_1
def K121_19 : C := .seq (.pl <| .st (.ext 10 5) <|
    .st (.act none (.ld (some 10) (.v 5) none)) <|
    .st (.act none (.px (some 11) (.nilc (.v 10)))) <|
    .st (.act none (.ld (some 12) (.v 11) none)) <|
    .st (.act none (.px (some 13) (.bin .add (.v 12) (.c (.int .i64 1))))) <|
    .st (.act none (.px (some 14) (.nilc (.v 10)))) <|
    .st (.act none (.ex none (.store 1 (.v 14) (.v 13)))) .done) K121_18
@[simp] def W121_19 := @C.wpe _ _ K121_19.eq_1
def K121_20 : Pl := .st (.act none (.px (some 6) (.mv (.c (.bool false))))) .done
@[simp] def W121_20 := @Pl.wpe _ _ K121_20.eq_1
def K121_21 : Pl := .st (.act none (.ex (some 5) (.alloc (.v 2)))) K121_20
@[simp] def W121_21 := @Pl.wpe _ _ K121_21.eq_1
def B_impl_Expr_walk : C := .seq (.pl <| .st (.ext 10 0) <|
    .st (.act none (.pnew 3 (.v 0) [])) <|
    .st (.act none (.ex (some 4) (.alloc (.v 1)))) K121_21) K121_19
@[simp] def WB_impl_Expr_walk := @C.wpe _ _ B_impl_Expr_walk.eq_1
def R_impl_Expr_walk : FIR := ⟨B_impl_Expr_walk, 10, [(6, none)]⟩
theorem IR_impl_Expr_walk : cfun Tryz.prog H_impl_Expr_walk Tryz.f121 = some R_impl_Expr_walk := by kernel_rfl
theorem EN_impl_Expr_walk {args : List Value} {h : Heap} {k : Value → Heap → Prop} (hargs : args.length = 3) (hw : B_impl_Expr_walk.wp Tryz.prog (retQ [(6, none)] k) (env0 args 10) h) : CallE Tryz.prog fn_impl_Expr_walk args h k := enter Tryz.func121 rfl IR_impl_Expr_walk hargs hw

def H_impl_Expr_walk_1 : Hint := ⟨[(0, false), (1, false), (2, false), (3, true), (4, false)], []⟩
def K131_1 : Pl := .st (.act none (.px (some 10) (.un .not (.v 9)))) <|
    .st (.act none (.px (some 4) (.mv (.v 10)))) .done
@[simp] def W131_1 := @Pl.wpe _ _ K131_1.eq_1
def K131_2 : C := .seq (.pl <| .st (.ext 5 6) <|
    .st (.act none (.pget (some 5) none 3 0 (some 3))) <|
    .st (.act none (.ld (some 6) (.v 1) none)) <|
    .st (.act none (.px (some 7) (.bin .add (.v 6) (.c (.int .i64 1))))) <|
    .st (.act none (.ld (some 8) (.v 2) none)) <|
    .st (.act none (.ex (some 9) (.call fn_impl_Expr_walk [.v 5, .v 7, .v 8]))) K131_1) (.ret)
@[simp] def W131_2 := @C.wpe _ _ K131_2.eq_1
def B_impl_Expr_walk_1 : C := .seq (.pl <| .st (.ext 5 0) <|
    .st (.act none (.pnew 3 (.v 0) [])) <|
    .st (.act none (.px (some 4) (.mv (.c (.bool false))))) .done) K131_2
@[simp] def WB_impl_Expr_walk_1 := @C.wpe _ _ B_impl_Expr_walk_1.eq_1
def R_impl_Expr_walk_1 : FIR := ⟨B_impl_Expr_walk_1, 5, [(4, none)]⟩
theorem IR_impl_Expr_walk_1 : cfun Tryz.prog H_impl_Expr_walk_1 Tryz.f131 = some R_impl_Expr_walk_1 := by kernel_rfl
theorem EN_impl_Expr_walk_1 {args : List Value} {h : Heap} {k : Value → Heap → Prop} (hargs : args.length = 3) (hw : B_impl_Expr_walk_1.wp Tryz.prog (retQ [(4, none)] k) (env0 args 5) h) : CallE Tryz.prog fn_impl_Expr_walk_1 args h k := enter Tryz.func131 rfl IR_impl_Expr_walk_1 hargs hw

def H_impl_StateSame : Hint := ⟨[(0, false), (1, false), (2, true), (3, true), (4, false)], []⟩
def K86_1 : Pl := .st (.act none (.px (some 16) (.pick (.v 10) (.v 15) (.c (.bool false))))) <|
    .st (.act none (.px (some 4) (.mv (.v 16)))) .done
@[simp] def W86_1 := @Pl.wpe _ _ K86_1.eq_1
def K86_2 : Pl := .st (.act none (.px (some 10) (.mv (.v 9)))) <|
    .st (.act (some (.v 10, true)) (.als 11 none 2)) <|
    .st (.act (some (.v 10, true)) (.pget (some 12) (some 11) 2 1 none)) <|
    .st (.act (some (.v 10, true)) (.als 13 none 3)) <|
    .st (.act (some (.v 10, true)) (.pget (some 14) (some 13) 3 1 none)) <|
    .st (.act (some (.v 10, true)) (.ex (some 15) (.call fn_slices_Equal_S_int_int [.v 12, .v 14]))) K86_1
@[simp] def W86_2 := @Pl.wpe _ _ K86_2.eq_1
def K86_3 : C := .seq (.pl <| .st (.ext 5 12) <|
    .st (.act none (.als 5 none 2)) <|
    .st (.act none (.pget (some 6) (some 5) 2 0 none)) <|
    .st (.act none (.als 7 none 3)) <|
    .st (.act none (.pget (some 8) (some 7) 3 0 none)) <|
    .st (.act none (.ex (some 9) (.call fn_slices_Equal_S_int_int [.v 6, .v 8]))) K86_2) (.ret)
@[simp] def W86_3 := @C.wpe _ _ K86_3.eq_1
def B_impl_StateSame : C := .seq (.pl <| .st (.ext 5 0) <|
    .st (.act none (.pnew 2 (.v 0) [])) <|
    .st (.act none (.pnew 3 (.v 1) [])) <|
    .st (.act none (.px (some 4) (.mv (.c (.bool false))))) .done) K86_3
@[simp] def WB_impl_StateSame := @C.wpe _ _ B_impl_StateSame.eq_1
def R_impl_StateSame : FIR := ⟨B_impl_StateSame, 5, [(4, none)]⟩
theorem IR_impl_StateSame : cfun Tryz.prog H_impl_StateSame Tryz.f86 = some R_impl_StateSame := by kernel_rfl
theorem EN_impl_StateSame {args : List Value} {h : Heap} {k : Value → Heap → Prop} (hargs : args.length = 2) (hw : B_impl_StateSame.wp Tryz.prog (retQ [(4, none)] k) (env0 args 5) h) : CallE Tryz.prog fn_impl_StateSame args h k := enter Tryz.func86 rfl IR_impl_StateSame hargs hw

def H_impl_State_copyOf : Hint := ⟨[(0, false), (1, true), (2, true)], []⟩
def K113_1 : Pl := .st (.act none (.px (some 9) (.build [.slice none 0 0, .slice none 0 0] [(0, 1, .v 5), (1, 1, .v 8)]))) <|
    .st (.act none (.pset none 2 0 2 (.v 9))) .done
@[simp] def W113_1 := @Pl.wpe _ _ K113_1.eq_1
def K113_2 : Pl := .st (.act none (.ex (some 8) (.call fn_impl_clone_int [.v 7]))) K113_1
@[simp] def W113_2 := @Pl.wpe _ _ K113_2.eq_1
def K113_3 : C := .seq (.pl <| .st (.ext 3 7) <|
    .st (.act none (.als 3 none 1)) <|
    .st (.act none (.pget (some 4) (some 3) 1 0 none)) <|
    .st (.act none (.als 6 none 1)) <|
    .st (.act none (.pget (some 7) (some 6) 1 1 none)) <|
    .st (.act none (.ex (some 5) (.call fn_impl_clone_int [.v 4]))) K113_2) (.ret)
@[simp] def W113_3 := @C.wpe _ _ K113_3.eq_1
def B_impl_State_copyOf : C := .seq (.pl <| .st (.ext 3 0) <|
    .st (.act none (.pnew 1 (.v 0) [])) <|
    .st (.act none (.pnew 2 (.c (.agg #[.slice none 0 0, .slice none 0 0])) [])) .done) K113_3
@[simp] def WB_impl_State_copyOf := @C.wpe _ _ B_impl_State_copyOf.eq_1
def R_impl_State_copyOf : FIR := ⟨B_impl_State_copyOf, 3, [(2, some (some 2))]⟩
theorem IR_impl_State_copyOf : cfun Tryz.prog H_impl_State_copyOf Tryz.f113 = some R_impl_State_copyOf := by kernel_rfl
theorem EN_impl_State_copyOf {args : List Value} {h : Heap} {k : Value → Heap → Prop} (hargs : args.length = 1) (hw : B_impl_State_copyOf.wp Tryz.prog (retQ [(2, some (some 2))] k) (env0 args 3) h) : CallE Tryz.prog fn_impl_State_copyOf args h k := enter Tryz.func113 rfl IR_impl_State_copyOf hargs hw

def H_impl_State_take : Hint := ⟨[(0, false), (1, false), (2, false), (3, true), (5, true)], []⟩
def K114_1 : Pl := .st (.act none (.px (some 14) (.ia 1 (.v 6) (.v 8)))) <|
    .st (.act none (.ex none (.store 1 (.v 14) (.v 13)))) .done
@[simp] def W114_1 := @Pl.wpe _ _ K114_1.eq_1
def K114_2 : C := .pl <| .st (.ext 5 10) <|
    .st (.act none (.als 5 none 3)) <|
    .st (.act none (.pget (some 6) (some 5) 3 1 none)) <|
    .st (.act none (.als 7 none 4)) <|
    .st (.act none (.pget (some 8) (some 7) 4 5 none)) <|
    .st (.act none (.als 9 none 4)) <|
    .st (.act none (.pget (some 10) (some 9) 4 6 (some 3))) <|
    .st (.act none (.als 11 none 3)) <|
    .st (.act none (.pget (some 12) (some 11) 3 1 none)) <|
    .st (.act none (.ex (some 13) (.call fn_impl_Expr_eval [.v 10, .v 12]))) K114_1
@[simp] def W114_2 := @C.wpe _ _ K114_2.eq_1
def K114_3 : C := .cond 5 (.v 7) K114_2 (.skip)
@[simp] def W114_3 := @C.wpe _ _ K114_3.eq_1
def K114_4 : C := .seq (.pl <| .st (.ext 5 3) <|
    .st (.act none (.als 5 none 4)) <|
    .st (.act none (.pget (some 6) (some 5) 4 5 none)) <|
    .st (.act none (.px (some 7) (.bin .geq (.v 6) (.c (.int .i64 0))))) .done) K114_3
@[simp] def W114_4 := @C.wpe _ _ K114_4.eq_1
def K114_5 : C := .seq (.pl <| .st (.ext 5 6) <|
    .st (.act none (.als 5 none 3)) <|
    .st (.act none (.pget (some 6) (some 5) 3 0 none)) <|
    .st (.act none (.px (some 7) (.mv (.v 1)))) <|
    .st (.act none (.als 8 none 4)) <|
    .st (.act none (.pget (some 9) (some 8) 4 1 none)) <|
    .st (.act none (.px (some 10) (.ia 1 (.v 6) (.v 7)))) <|
    .st (.act none (.ex none (.store 1 (.v 10) (.v 9)))) .done) K114_4
@[simp] def W114_5 := @C.wpe _ _ K114_5.eq_1
def B_impl_State_take : C := .seq (.pl <| .st (.ext 5 0) <|
    .st (.act none (.pnew 3 (.v 0) [])) <|
    .st (.act none (.pnew 4 (.v 2) [])) .done) K114_5
@[simp] def WB_impl_State_take := @C.wpe _ _ B_impl_State_take.eq_1
def R_impl_State_take : FIR := ⟨B_impl_State_take, 5, []⟩
theorem IR_impl_State_take : cfun Tryz.prog H_impl_State_take Tryz.f114 = some R_impl_State_take := by kernel_rfl
theorem EN_impl_State_take {args : List Value} {h : Heap} {k : Value → Heap → Prop} (hargs : args.length = 3) (hw : B_impl_State_take.wp Tryz.prog (retQ [] k) (env0 args 5) h) : CallE Tryz.prog fn_impl_State_take args h k := enter Tryz.func114 rfl IR_impl_State_take hargs hw

def H_impl_SystemValid : Hint := ⟨[(0, false), (1, true), (2, false), (4, false), (17, false), (18, false), (19, false)], [[0, 1, 2, 3]]⟩
def K47_1 : C := .seq (.pl <| .st (.ext 7 0) <|
    .st (.act none (.px (some 2) (.mv (.c (.bool true))))) .done) (.ret)
@[simp] def W47_1 := @C.wpe _ _ K47_1.eq_1
def K47_2 : C := .pl <| .st (.ext 7 1) <|
    .st (.act none (.px (some 7) (.bin .add (.v 6) (.c (.int .i64 1))))) <|
    .st (.act none (.px (some 6) (.mv (.v 7)))) .done
@[simp] def W47_2 := @C.wpe _ _ K47_2.eq_1
def K47_3 : C := .seq (.pl <| .st (.ext 7 0) <|
    .st (.act none (.px (some 2) (.mv (.c (.bool false))))) .done) (.ret)
@[simp] def W47_3 := @C.wpe _ _ K47_3.eq_1
def K47_4 : C := .cond 7 (.v 22) K47_3 (.skip)
@[simp] def W47_4 := @C.wpe _ _ K47_4.eq_1
def K47_5 : Pl := .st (.act none (.px (some 22) (.pick (.v 17) (.c (.bool true)) (.v 21)))) .done
@[simp] def W47_5 := @Pl.wpe _ _ K47_5.eq_1
def K47_6 : Pl := .st (.act none (.px (some 10) (.un .not (.v 9)))) <|
    .st (.act none (.px (some 11) (.mv (.v 10)))) <|
    .st (.act (some (.v 11, false)) (.px (some 12) (.fa 1 (.v 3)))) <|
    .st (.act (some (.v 11, false)) (.ld (some 13) (.v 12) none)) <|
    .st (.act (some (.v 11, false)) (.px (some 14) (.lenV (.v 13)))) <|
    .st (.act (some (.v 11, false)) (.px (some 15) (.bin .gtr (.v 14) (.c (.int .i64 6))))) <|
    .st (.act none (.px (some 16) (.pick (.v 11) (.c (.bool true)) (.v 15)))) <|
    .st (.act none (.px (some 17) (.mv (.v 16)))) <|
    .st (.act (some (.v 17, false)) (.px (some 18) (.fa 1 (.v 3)))) <|
    .st (.act (some (.v 17, false)) (.ld (some 19) (.v 18) none)) <|
    .st (.act (some (.v 17, false)) (.px (some 20) (.mkf (.func fn_impl_SystemValid_1) [] [.v 3]))) <|
    .st (.act (some (.v 17, false)) (.ex (some 21) (.call fn_slices_ContainsFunc_S_impl_Edge_impl_Edge [.v 19, .v 20]))) K47_5
@[simp] def W47_6 := @Pl.wpe _ _ K47_6.eq_1
def K47_7 : C := .seq (.pl <| .st (.ext 7 16) <|
    .st (.act none (.px (some 7) (.fa 0 (.v 3)))) <|
    .st (.act none (.ld (some 8) (.v 7) none)) <|
    .st (.act none (.ex (some 9) (.call fn_impl_in [.v 8, .c (.int .i64 1), .c (.int .i64 4)]))) K47_6) K47_4
@[simp] def W47_7 := @C.wpe _ _ K47_7.eq_1
def K47_8 : Pl := .st (.act none (.ex none (.store 2 (.v 3) (.v 8)))) .done
@[simp] def W47_8 := @Pl.wpe _ _ K47_8.eq_1
def K47_9 : C := .seq (.block 1 (.seq (.pl <| .st (.ext 7 2) <|
    .st (.act none (.px (some 7) (.ia 2 (.v 4) (.v 6)))) <|
    .st (.act none (.ld (some 8) (.v 7) (some 2))) <|
    .st (.act none (.ex (some 3) (.alloc (.c (.agg #[.int .i64 0, .slice none 0 0]))))) K47_8) K47_7)) K47_2
@[simp] def W47_9 := @C.wpe _ _ K47_9.eq_1
def K47_10 : C := .seq (.cond 7 (.v 7) (.skip) (.exit 0)) K47_9
@[simp] def W47_10 := @C.wpe _ _ K47_10.eq_1
def K47_11 : C := .seq (.pl <| .st (.ext 7 1) <|
    .st (.act none (.px (some 7) (.bin .lss (.v 6) (.v 5)))) .done) K47_10
@[simp] def W47_11 := @C.wpe _ _ K47_11.eq_1
def K47_12 : C := .block 0 (.loop 7 [0, 1, 2, 3] K47_11)
@[simp] def W47_12 := @C.wpe _ _ K47_12.eq_1
def K47_13 : C := .seq (.seq (.pl <| .st (.ext 7 1) <|
    .st (.act none (.als 7 none 1)) <|
    .st (.act none (.pget (some 4) (some 7) 1 1 none)) <|
    .st (.act none (.px (some 5) (.lenV (.v 4)))) <|
    .st (.act none (.px (some 6) (.mv (.c (.int .i64 0))))) .done) K47_12) K47_1
@[simp] def W47_13 := @C.wpe _ _ K47_13.eq_1
def K47_14 : C := .seq (.pl <| .st (.ext 7 0) <|
    .st (.act none (.px (some 2) (.mv (.c (.bool false))))) .done) (.ret)
@[simp] def W47_14 := @C.wpe _ _ K47_14.eq_1
def K47_15 : C := .cond 7 (.v 17) K47_14 (.skip)
@[simp] def W47_15 := @C.wpe _ _ K47_15.eq_1
def K47_16 : Pl := .st (.act (some (.v 11, false)) (.px (some 16) (.un .not (.v 15)))) <|
    .st (.act none (.px (some 17) (.pick (.v 11) (.c (.bool true)) (.v 16)))) .done
@[simp] def W47_16 := @Pl.wpe _ _ K47_16.eq_1
def K47_17 : Pl := .st (.act none (.px (some 10) (.un .not (.v 9)))) <|
    .st (.act none (.px (some 11) (.mv (.v 10)))) <|
    .st (.act (some (.v 11, false)) (.als 12 none 1)) <|
    .st (.act (some (.v 11, false)) (.pget (some 13) (some 12) 1 1 none)) <|
    .st (.act (some (.v 11, false)) (.px (some 14) (.lenV (.v 13)))) <|
    .st (.act (some (.v 11, false)) (.ex (some 15) (.call fn_impl_in [.v 14, .c (.int .i64 1), .c (.int .i64 3)]))) K47_16
@[simp] def W47_17 := @Pl.wpe _ _ K47_17.eq_1
def K47_18 : C := .seq (.seq (.pl <| .st (.ext 7 11) <|
    .st (.act none (.als 7 none 1)) <|
    .st (.act none (.pget (some 8) (some 7) 1 0 none)) <|
    .st (.act none (.ex (some 9) (.call fn_impl_valsOk [.v 8]))) K47_17) K47_15) K47_13
@[simp] def W47_18 := @C.wpe _ _ K47_18.eq_1
def B_impl_SystemValid : C := .seq (.pl <| .st (.ext 7 0) <|
    .st (.act none (.pnew 1 (.v 0) [])) <|
    .st (.act none (.px (some 2) (.mv (.c (.bool false))))) .done) K47_18
@[simp] def WB_impl_SystemValid := @C.wpe _ _ B_impl_SystemValid.eq_1
def R_impl_SystemValid : FIR := ⟨B_impl_SystemValid, 7, [(2, none)]⟩
theorem IR_impl_SystemValid : cfun Tryz.prog H_impl_SystemValid Tryz.f47 = some R_impl_SystemValid := by kernel_rfl
theorem EN_impl_SystemValid {args : List Value} {h : Heap} {k : Value → Heap → Prop} (hargs : args.length = 1) (hw : B_impl_SystemValid.wp Tryz.prog (retQ [(2, none)] k) (env0 args 7) h) : CallE Tryz.prog fn_impl_SystemValid args h k := enter Tryz.func47 rfl IR_impl_SystemValid hargs hw

def H_impl_SystemValid_1 : Hint := ⟨[(0, false), (1, false), (2, true), (3, false)], []⟩
def K80_1 : Pl := .st (.act none (.px (some 8) (.un .not (.v 7)))) <|
    .st (.act none (.px (some 3) (.mv (.v 8)))) .done
@[simp] def W80_1 := @Pl.wpe _ _ K80_1.eq_1
def K80_2 : C := .seq (.pl <| .st (.ext 4 5) <|
    .st (.act none (.pget (some 4) none 2 0 (some 10))) <|
    .st (.act none (.px (some 5) (.fa 0 (.v 1)))) <|
    .st (.act none (.ld (some 6) (.v 5) none)) <|
    .st (.act none (.ex (some 7) (.call fn_impl_EdgeValid [.v 4, .v 6]))) K80_1) (.ret)
@[simp] def W80_2 := @C.wpe _ _ K80_2.eq_1
def B_impl_SystemValid_1 : C := .seq (.pl <| .st (.ext 4 0) <|
    .st (.act none (.pnew 2 (.v 0) [])) <|
    .st (.act none (.px (some 3) (.mv (.c (.bool false))))) .done) K80_2
@[simp] def WB_impl_SystemValid_1 := @C.wpe _ _ B_impl_SystemValid_1.eq_1
def R_impl_SystemValid_1 : FIR := ⟨B_impl_SystemValid_1, 4, [(3, none)]⟩
theorem IR_impl_SystemValid_1 : cfun Tryz.prog H_impl_SystemValid_1 Tryz.f80 = some R_impl_SystemValid_1 := by kernel_rfl
theorem EN_impl_SystemValid_1 {args : List Value} {h : Heap} {k : Value → Heap → Prop} (hargs : args.length = 2) (hw : B_impl_SystemValid_1.wp Tryz.prog (retQ [(3, none)] k) (env0 args 4) h) : CallE Tryz.prog fn_impl_SystemValid_1 args h k := enter Tryz.func80 rfl IR_impl_SystemValid_1 hargs hw

def H_impl_System_after : Hint := ⟨[(0, false), (1, false), (2, false), (3, true), (4, true), (5, true), (6, true), (7, true)], []⟩
def K83_1 : C := .seq (.pl <| .st (.ext 8 1) <|
    .st (.act none (.pget (some 8) none 7 0 (some 2))) <|
    .st (.act none (.pset none 6 0 2 (.v 8))) .done) (.ret)
@[simp] def W83_1 := @C.wpe _ _ K83_1.eq_1
def K83_2 : C := .pl <| .st (.ext 8 15) <|
    .st (.act none (.pget (some 8) none 7 0 (some 2))) <|
    .st (.act none (.als 9 none 5)) <|
    .st (.act none (.pget (some 10) (some 9) 5 2 none)) <|
    .st (.act none (.als 11 none 3)) <|
    .st (.act none (.pget (some 12) (some 11) 3 1 none)) <|
    .st (.act none (.als 13 none 5)) <|
    .st (.act none (.pget (some 14) (some 13) 5 2 none)) <|
    .st (.act none (.px (some 15) (.ia 2 (.v 12) (.v 14)))) <|
    .st (.act none (.px (some 16) (.fa 1 (.v 15)))) <|
    .st (.act none (.ld (some 17) (.v 16) none)) <|
    .st (.act none (.als 18 none 5)) <|
    .st (.act none (.pget (some 19) (some 18) 5 3 none)) <|
    .st (.act none (.px (some 20) (.ia 10 (.v 17) (.v 19)))) <|
    .st (.act none (.ld (some 21) (.v 20) (some 10))) <|
    .st (.act none (.ex (some 22) (.call fn_impl_State_take [.v 8, .v 10, .v 21]))) .done
@[simp] def W83_2 := @C.wpe _ _ K83_2.eq_1
def K83_3 : C := .cond 8 (.v 10) K83_2 (.skip)
@[simp] def W83_3 := @C.wpe _ _ K83_3.eq_1
def K83_4 : C := .seq (.seq (.pl <| .st (.ext 8 3) <|
    .st (.act none (.als 8 none 5)) <|
    .st (.act none (.pget (some 9) (some 8) 5 2 none)) <|
    .st (.act none (.px (some 10) (.bin .geq (.v 9) (.c (.int .i64 0))))) .done) K83_3) K83_1
@[simp] def W83_4 := @C.wpe _ _ K83_4.eq_1
def K83_5 : C := .seq (.pl <| .st (.ext 8 15) <|
    .st (.act none (.pget (some 8) none 7 0 (some 2))) <|
    .st (.act none (.als 9 none 5)) <|
    .st (.act none (.pget (some 10) (some 9) 5 0 none)) <|
    .st (.act none (.als 11 none 3)) <|
    .st (.act none (.pget (some 12) (some 11) 3 1 none)) <|
    .st (.act none (.als 13 none 5)) <|
    .st (.act none (.pget (some 14) (some 13) 5 0 none)) <|
    .st (.act none (.px (some 15) (.ia 2 (.v 12) (.v 14)))) <|
    .st (.act none (.px (some 16) (.fa 1 (.v 15)))) <|
    .st (.act none (.ld (some 17) (.v 16) none)) <|
    .st (.act none (.als 18 none 5)) <|
    .st (.act none (.pget (some 19) (some 18) 5 1 none)) <|
    .st (.act none (.px (some 20) (.ia 10 (.v 17) (.v 19)))) <|
    .st (.act none (.ld (some 21) (.v 20) (some 10))) <|
    .st (.act none (.ex (some 22) (.call fn_impl_State_take [.v 8, .v 10, .v 21]))) .done) K83_4
@[simp] def W83_5 := @C.wpe _ _ K83_5.eq_1
def K83_6 : Pl := .st (.act none (.pnew 7 (.c (.agg #[.slice none 0 0, .slice none 0 0])) [])) <|
    .st (.act none (.pset none 7 0 2 (.v 9))) .done
@[simp] def W83_6 := @Pl.wpe _ _ K83_6.eq_1
def K83_7 : C := .seq (.pl <| .st (.ext 8 2) <|
    .st (.act none (.pget (some 8) none 4 0 (some 2))) <|
    .st (.act none (.ex (some 9) (.call fn_impl_State_copyOf [.v 8]))) K83_6) K83_5
@[simp] def W83_7 := @C.wpe _ _ K83_7.eq_1
def B_impl_System_after : C := .seq (.pl <| .st (.ext 8 0) <|
    .st (.act none (.pnew 3 (.v 0) [])) <|
    .st (.act none (.pnew 4 (.v 1) [])) <|
    .st (.act none (.pnew 5 (.v 2) [])) <|
    .st (.act none (.pnew 6 (.c (.agg #[.slice none 0 0, .slice none 0 0])) [])) .done) K83_7
@[simp] def WB_impl_System_after := @C.wpe _ _ B_impl_System_after.eq_1
def R_impl_System_after : FIR := ⟨B_impl_System_after, 8, [(6, some (some 2))]⟩
theorem IR_impl_System_after : cfun Tryz.prog H_impl_System_after Tryz.f83 = some R_impl_System_after := by kernel_rfl
theorem EN_impl_System_after {args : List Value} {h : Heap} {k : Value → Heap → Prop} (hargs : args.length = 3) (hw : B_impl_System_after.wp Tryz.prog (retQ [(6, some (some 2))] k) (env0 args 8) h) : CallE Tryz.prog fn_impl_System_after args h k := enter Tryz.func83 rfl IR_impl_System_after hargs hw

def H_impl_System_build : Hint := ⟨[(0, false), (1, true), (2, true), (3, false), (4, true), (5, false), (6, false), (8, true), (9, false), (10, false), (28, false), (29, false), (30, false)], [[0, 3, 6, 7, 8, 9, 10, 11, 12], [0, 3, 7, 8, 9]]⟩
def K48_1 : Pl := .st (.act none (.px (some 19) (.build [.slice none 0 0, .slice none 0 0] [(0, 1, .v 15), (1, 1, .v 18)]))) <|
    .st (.act none (.pset none 2 0 2 (.v 19))) <|
    .st (.act none (.px (some 3) (.mv (.c (.bool true))))) .done
@[simp] def W48_1 := @Pl.wpe _ _ K48_1.eq_1
def K48_2 : Pl := .st (.act none (.ex (some 18) (.call fn_slices_Clip_S_S_int_S_int [.v 17]))) K48_1
@[simp] def W48_2 := @Pl.wpe _ _ K48_2.eq_1
def K48_3 : C := .seq (.pl <| .st (.ext 13 7) <|
    .st (.act none (.als 13 none 4)) <|
    .st (.act none (.pget (some 14) (some 13) 4 0 none)) <|
    .st (.act none (.als 16 none 4)) <|
    .st (.act none (.pget (some 17) (some 16) 4 1 none)) <|
    .st (.act none (.ex (some 15) (.call fn_slices_Clip_S_impl_State_impl_State [.v 14]))) K48_2) (.ret)
@[simp] def W48_3 := @C.wpe _ _ K48_3.eq_1
def K48_4 : C := .pl <| .st (.ext 13 2) <|
    .st (.act none (.px (some 13) (.mv (.v 5)))) <|
    .st (.act none (.px (some 14) (.bin .add (.v 13) (.c (.int .i64 1))))) <|
    .st (.act none (.px (some 5) (.mv (.v 14)))) .done
@[simp] def W48_4 := @C.wpe _ _ K48_4.eq_1
def K48_5 : C := .seq (.pl <| .st (.ext 13 1) <|
    .st (.act none (.px (some 13) (.build [.slice none 0 0, .slice none 0 0] []))) <|
    .st (.act none (.pset none 2 0 2 (.v 13))) <|
    .st (.act none (.px (some 3) (.mv (.c (.bool false))))) .done) (.ret)
@[simp] def W48_5 := @C.wpe _ _ K48_5.eq_1
def K48_6 : C := .cond 13 (.v 16) K48_5 (.skip)
@[simp] def W48_6 := @C.wpe _ _ K48_6.eq_1
def K48_7 : C := .seq (.pl <| .st (.ext 13 4) <|
    .st (.act none (.als 13 none 4)) <|
    .st (.act none (.pget (some 14) (some 13) 4 0 none)) <|
    .st (.act none (.px (some 15) (.lenV (.v 14)))) <|
    .st (.act none (.px (some 16) (.bin .gtr (.v 15) (.c (.int .i64 60))))) .done) K48_6
@[simp] def W48_7 := @C.wpe _ _ K48_7.eq_1
def K48_8 : Pl := .st (.act none (.als 19 none 4)) <|
    .st (.act none (.pset (some 19) 4 1 1 (.v 18))) .done
@[simp] def W48_8 := @Pl.wpe _ _ K48_8.eq_1
def K48_9 : Pl := .st (.act none (.psl 17 [.slice none 0 0] [(0, 1, .v 16)])) <|
    .st (.act none (.ex (some 18) (.app 24 1 [.slice none 0 0] (.o (.v 14)) (.p 1 17)))) K48_8
@[simp] def W48_9 := @Pl.wpe _ _ K48_9.eq_1
def K48_10 : C := .seq (.pl <| .st (.ext 13 7) <|
    .st (.act none (.als 13 none 4)) <|
    .st (.act none (.pget (some 14) (some 13) 4 1 none)) <|
    .st (.act none (.px (some 15) (.mv (.v 6)))) <|
    .st (.act none (.ex (some 16) (.call fn_slices_Clip_S_int_int [.v 15]))) K48_9) K48_7
@[simp] def W48_10 := @C.wpe _ _ K48_10.eq_1
def K48_11 : Pl := .st (.act none (.px (some 6) (.mv (.v 14)))) .done
@[simp] def W48_11 := @Pl.wpe _ _ K48_11.eq_1
def K48_12 : C := .pl <| .st (.ext 13 2) <|
    .st (.act none (.px (some 13) (.mv (.v 5)))) <|
    .st (.act none (.ex (some 14) (.bls 1 1 [.int .i64 0] [(0, 1, .v 13)]))) K48_11
@[simp] def W48_12 := @C.wpe _ _ K48_12.eq_1
def K48_13 : C := .cond 13 (.v 15) K48_12 (.skip)
@[simp] def W48_13 := @C.wpe _ _ K48_13.eq_1
def K48_14 : C := .seq (.seq (.pl <| .st (.ext 13 3) <|
    .st (.act none (.px (some 13) (.mv (.v 6)))) <|
    .st (.act none (.px (some 14) (.lenV (.v 13)))) <|
    .st (.act none (.px (some 15) (.bin .eql (.v 14) (.c (.int .i64 0))))) .done) K48_13) K48_10
@[simp] def W48_14 := @C.wpe _ _ K48_14.eq_1
def K48_15 : C := .pl <| .st (.ext 13 1) <|
    .st (.act none (.px (some 13) (.bin .add (.v 12) (.c (.int .i64 1))))) <|
    .st (.act none (.px (some 12) (.mv (.v 13)))) .done
@[simp] def W48_15 := @C.wpe _ _ K48_15.eq_1
def K48_16 : Pl := .st (.act none (.px (some 6) (.mv (.v 16)))) .done
@[simp] def W48_16 := @Pl.wpe _ _ K48_16.eq_1
def K48_17 : C := .pl <| .st (.ext 13 4) <|
    .st (.act none (.px (some 13) (.mv (.v 6)))) <|
    .st (.act none (.px (some 14) (.mv (.v 9)))) <|
    .st (.act none (.psl 15 [.int .i64 0] [(0, 1, .v 14)])) <|
    .st (.act none (.ex (some 16) (.app 8 1 [.int .i64 0] (.o (.v 13)) (.p 1 15)))) K48_16
@[simp] def W48_17 := @C.wpe _ _ K48_17.eq_1
def K48_18 : C := .cond 13 (.v 16) K48_17 (.skip)
@[simp] def W48_18 := @C.wpe _ _ K48_18.eq_1
def K48_19 : Pl := .st (.act none (.px (some 16) (.un .not (.v 15)))) .done
@[simp] def W48_19 := @Pl.wpe _ _ K48_19.eq_1
def K48_20 : C := .seq (.pl <| .st (.ext 13 4) <|
    .st (.act none (.px (some 13) (.mv (.v 6)))) <|
    .st (.act none (.px (some 14) (.mv (.v 9)))) <|
    .st (.act none (.ex (some 15) (.call fn_slices_Contains_S_int_int [.v 13, .v 14]))) K48_19) K48_18
@[simp] def W48_20 := @C.wpe _ _ K48_20.eq_1
def K48_21 : Pl := .st (.act none (.als 18 none 4)) <|
    .st (.act none (.pset (some 18) 4 0 1 (.v 17))) .done
@[simp] def W48_21 := @Pl.wpe _ _ K48_21.eq_1
def K48_22 : C := .pl <| .st (.ext 13 6) <|
    .st (.act none (.als 13 none 4)) <|
    .st (.act none (.pget (some 14) (some 13) 4 0 none)) <|
    .st (.act none (.ld (some 15) (.v 8) (some 2))) <|
    .st (.act none (.psl 16 [.slice none 0 0, .slice none 0 0] [(0, 2, .v 15)])) <|
    .st (.act none (.ex (some 17) (.app 48 2 [.slice none 0 0, .slice none 0 0] (.o (.v 14)) (.p 1 16)))) K48_21
@[simp] def W48_22 := @C.wpe _ _ K48_22.eq_1
def K48_23 : C := .seq (.pl <| .st (.ext 13 3) <|
    .st (.act none (.als 13 none 4)) <|
    .st (.act none (.pget (some 14) (some 13) 4 0 none)) <|
    .st (.act none (.px (some 15) (.lenV (.v 14)))) <|
    .st (.act none (.px (some 9) (.mv (.v 15)))) .done) K48_22
@[simp] def W48_23 := @C.wpe _ _ K48_23.eq_1
def K48_24 : C := .cond 13 (.v 14) K48_23 (.skip)
@[simp] def W48_24 := @C.wpe _ _ K48_24.eq_1
def K48_25 : C := .seq (.seq (.pl <| .st (.ext 13 2) <|
    .st (.act none (.px (some 13) (.mv (.v 9)))) <|
    .st (.act none (.px (some 14) (.bin .lss (.v 13) (.c (.int .i64 0))))) .done) K48_24) K48_20
@[simp] def W48_25 := @C.wpe _ _ K48_25.eq_1
def K48_26 : Pl := .st (.act none (.px (some 9) (.mv (.v 16)))) .done
@[simp] def W48_26 := @Pl.wpe _ _ K48_26.eq_1
def K48_27 : C := .seq (.pl <| .st (.ext 13 4) <|
    .st (.act none (.als 13 none 4)) <|
    .st (.act none (.pget (some 14) (some 13) 4 0 none)) <|
    .st (.act none (.px (some 15) (.mkf (.func fn_impl_System_build_1) [] [.v 8]))) <|
    .st (.act none (.ex (some 16) (.call fn_slices_IndexFunc_S_impl_State_impl_State [.v 14, .v 15]))) K48_26) K48_25
@[simp] def W48_27 := @C.wpe _ _ K48_27.eq_1
def K48_28 : Pl := .st (.re 18 (.v 17) (some 2) none) <|
    .st (.act none (.ex none (.store 2 (.v 8) (.v 20)))) .done
@[simp] def W48_28 := @Pl.wpe _ _ K48_28.eq_1
def K48_29 : Pl := .st (.act none (.ex (some 8) (.alloc (.c (.agg #[.slice none 0 0, .slice none 0 0]))))) K48_28
@[simp] def W48_29 := @Pl.wpe _ _ K48_29.eq_1
def K48_30 : Pl := .st (.act none (.ex (some 20) (.call fn_impl_System_after [.v 13, .v 18, .v 19]))) K48_29
@[simp] def W48_30 := @Pl.wpe _ _ K48_30.eq_1
def K48_31 : Pl := .st (.act none (.ex none (.store 2 (.v 8) (.v 20)))) .done
@[simp] def W48_31 := @Pl.wpe _ _ K48_31.eq_1
def K48_32 : Pl := .st (.re 18 (.v 17) (some 2) none) <|
    .st (.act none (.ex (some 20) (.call fn_impl_System_after [.v 13, .v 18, .v 19]))) K48_31
@[simp] def W48_32 := @Pl.wpe _ _ K48_32.eq_1
def K48_33 : Pl := .st (.act none (.ex (some 8) (.alloc (.c (.agg #[.slice none 0 0, .slice none 0 0]))))) K48_32
@[simp] def W48_33 := @Pl.wpe _ _ K48_33.eq_1
def K48_34 : C := .seq (.pl <| .st (.ext 13 8) <|
    .st (.act none (.pget (some 13) none 1 0 (some 2))) <|
    .st (.act none (.als 14 none 4)) <|
    .st (.act none (.pget (some 15) (some 14) 4 0 none)) <|
    .st (.act none (.px (some 16) (.mv (.v 5)))) <|
    .st (.act none (.px (some 17) (.ia 2 (.v 15) (.v 16)))) <|
    .st (.act none (.ld (some 18) (.v 17) (some 2))) <|
    .st (.act none (.pget (some 19) none 7 0 (some 4))) <|
    .both K48_30 K48_33) K48_27
@[simp] def W48_34 := @C.wpe _ _ K48_34.eq_1
def K48_35 : C := .seq (.block 3 (.seq (.pl <| .st (.ext 13 2) <|
    .st (.act none (.px (some 13) (.ia 4 (.v 10) (.v 12)))) <|
    .st (.act none (.ld (some 14) (.v 13) (some 4))) <|
    .st (.act none (.pnew 7 (.c (.agg #[.int .i64 0, .int .i64 0, .int .i64 0, .int .i64 0])) [])) <|
    .st (.act none (.pset none 7 0 4 (.v 14))) .done) K48_34)) K48_15
@[simp] def W48_35 := @C.wpe _ _ K48_35.eq_1
def K48_36 : C := .seq (.cond 13 (.v 13) (.skip) (.exit 2)) K48_35
@[simp] def W48_36 := @C.wpe _ _ K48_36.eq_1
def K48_37 : C := .seq (.pl <| .st (.ext 13 1) <|
    .st (.act none (.px (some 13) (.bin .lss (.v 12) (.v 11)))) .done) K48_36
@[simp] def W48_37 := @C.wpe _ _ K48_37.eq_1
def K48_38 : C := .block 2 (.loop 13 [0, 3, 7, 8, 9] K48_37)
@[simp] def W48_38 := @C.wpe _ _ K48_38.eq_1
def K48_39 : Pl := .st (.act none (.px (some 11) (.lenV (.v 10)))) <|
    .st (.act none (.px (some 12) (.mv (.c (.int .i64 0))))) <|
    .st (.re 18 (.v 17) (some 2) none) .done
@[simp] def W48_39 := @Pl.wpe _ _ K48_39.eq_1
def K48_40 : Pl := .st (.act none (.px (some 12) (.mv (.c (.int .i64 0))))) <|
    .st (.re 18 (.v 17) (some 2) none) <|
    .st (.act none (.px (some 11) (.lenV (.v 10)))) .done
@[simp] def W48_40 := @Pl.wpe _ _ K48_40.eq_1
def K48_41 : Pl := .both K48_39 K48_40
@[simp] def W48_41 := @Pl.wpe _ _ K48_41.eq_1
def K48_42 : Pl := .st (.act none (.ex (some 10) (.call fn_impl_System_enabled [.v 13, .v 18]))) K48_41
@[simp] def W48_42 := @Pl.wpe _ _ K48_42.eq_1
def K48_43 : Pl := .st (.act none (.px (some 11) (.lenV (.v 10)))) .done
@[simp] def W48_43 := @Pl.wpe _ _ K48_43.eq_1
def K48_44 : Pl := .st (.act none (.px (some 12) (.mv (.c (.int .i64 0))))) <|
    .st (.re 18 (.v 17) (some 2) none) <|
    .st (.act none (.ex (some 10) (.call fn_impl_System_enabled [.v 13, .v 18]))) K48_43
@[simp] def W48_44 := @Pl.wpe _ _ K48_44.eq_1
def K48_45 : C := .seq (.seq (.pl <| .st (.ext 13 6) <|
    .st (.act none (.pget (some 13) none 1 0 (some 2))) <|
    .st (.act none (.als 14 none 4)) <|
    .st (.act none (.pget (some 15) (some 14) 4 0 none)) <|
    .st (.act none (.px (some 16) (.mv (.v 5)))) <|
    .st (.act none (.px (some 17) (.ia 2 (.v 15) (.v 16)))) <|
    .st (.act none (.ld (some 18) (.v 17) (some 2))) <|
    .both K48_42 K48_44) K48_38) K48_14
@[simp] def W48_45 := @C.wpe _ _ K48_45.eq_1
def K48_46 : C := .seq (.block 1 (.seq (.pl <| .st (.ext 13 0) <|
    .st (.act none (.px (some 6) (.mv (.c (.slice none 0 0))))) .done) K48_45)) K48_4
@[simp] def W48_46 := @C.wpe _ _ K48_46.eq_1
def K48_47 : C := .cond 13 (.v 17) (.skip) (.exit 0)
@[simp] def W48_47 := @C.wpe _ _ K48_47.eq_1
def K48_48 : C := .seq (.seq (.pl <| .st (.ext 13 5) <|
    .st (.act none (.px (some 13) (.mv (.v 5)))) <|
    .st (.act none (.als 14 none 4)) <|
    .st (.act none (.pget (some 15) (some 14) 4 0 none)) <|
    .st (.act none (.px (some 16) (.lenV (.v 15)))) <|
    .st (.act none (.px (some 17) (.bin .lss (.v 13) (.v 16)))) .done) K48_47) K48_46
@[simp] def W48_48 := @C.wpe _ _ K48_48.eq_1
def K48_49 : C := .block 0 (.loop 13 [0, 3, 6, 7, 8, 9, 10, 11, 12] K48_48)
@[simp] def W48_49 := @C.wpe _ _ K48_49.eq_1
def K48_50 : C := .seq (.seq (.pl <| .st (.ext 13 0) <|
    .st (.act none (.px (some 5) (.mv (.c (.int .i64 0))))) .done) K48_49) K48_3
@[simp] def W48_50 := @C.wpe _ _ K48_50.eq_1
def K48_51 : Pl := .st (.act none (.px (some 16) (.build [.slice none 0 0, .slice none 0 0] [(0, 1, .v 15)]))) <|
    .st (.act none (.pnew 4 (.c (.agg #[.slice none 0 0, .slice none 0 0])) [])) <|
    .st (.act none (.pset none 4 0 2 (.v 16))) .done
@[simp] def W48_51 := @Pl.wpe _ _ K48_51.eq_1
def K48_52 : Pl := .st (.act none (.ex (some 15) (.bls 2 1 [.slice none 0 0, .slice none 0 0] [(0, 2, .v 14)]))) K48_51
@[simp] def W48_52 := @Pl.wpe _ _ K48_52.eq_1
def K48_53 : C := .seq (.pl <| .st (.ext 13 4) <|
    .st (.act none (.pget (some 13) none 1 0 (some 2))) <|
    .st (.act none (.ex (some 14) (.call fn_impl_System_initial [.v 13]))) K48_52) K48_50
@[simp] def W48_53 := @C.wpe _ _ K48_53.eq_1
def B_impl_System_build : C := .seq (.pl <| .st (.ext 13 0) <|
    .st (.act none (.pnew 1 (.v 0) [])) <|
    .st (.act none (.pnew 2 (.c (.agg #[.slice none 0 0, .slice none 0 0])) [])) <|
    .st (.act none (.px (some 3) (.mv (.c (.bool false))))) .done) K48_53
@[simp] def WB_impl_System_build := @C.wpe _ _ B_impl_System_build.eq_1
def R_impl_System_build : FIR := ⟨B_impl_System_build, 13, [(2, some (some 2)), (3, none)]⟩
theorem IR_impl_System_build : cfun Tryz.prog H_impl_System_build Tryz.f48 = some R_impl_System_build := by kernel_rfl
theorem EN_impl_System_build {args : List Value} {h : Heap} {k : Value → Heap → Prop} (hargs : args.length = 1) (hw : B_impl_System_build.wp Tryz.prog (retQ [(2, some (some 2)), (3, none)] k) (env0 args 13) h) : CallE Tryz.prog fn_impl_System_build args h k := enter Tryz.func48 rfl IR_impl_System_build hargs hw

def H_impl_System_build_1 : Hint := ⟨[(0, false), (1, false), (2, true), (3, false)], []⟩
def K85_1 : Pl := .st (.act none (.px (some 3) (.mv (.v 6)))) .done
@[simp] def W85_1 := @Pl.wpe _ _ K85_1.eq_1
def K85_2 : C := .seq (.pl <| .st (.ext 4 3) <|
    .st (.act none (.pget (some 4) none 2 0 (some 2))) <|
    .st (.act none (.ld (some 5) (.v 1) (some 2))) <|
    .st (.act none (.ex (some 6) (.call fn_impl_StateSame [.v 4, .v 5]))) K85_1) (.ret)
@[simp] def W85_2 := @C.wpe _ _ K85_2.eq_1
def B_impl_System_build_1 : C := .seq (.pl <| .st (.ext 4 0) <|
    .st (.act none (.pnew 2 (.v 0) [])) <|
    .st (.act none (.px (some 3) (.mv (.c (.bool false))))) .done) K85_2
@[simp] def WB_impl_System_build_1 := @C.wpe _ _ B_impl_System_build_1.eq_1
def R_impl_System_build_1 : FIR := ⟨B_impl_System_build_1, 4, [(3, none)]⟩
theorem IR_impl_System_build_1 : cfun Tryz.prog H_impl_System_build_1 Tryz.f85 = some R_impl_System_build_1 := by kernel_rfl
theorem EN_impl_System_build_1 {args : List Value} {h : Heap} {k : Value → Heap → Prop} (hargs : args.length = 2) (hw : B_impl_System_build_1.wp Tryz.prog (retQ [(3, none)] k) (env0 args 4) h) : CallE Tryz.prog fn_impl_System_build_1 args h k := enter Tryz.func85 rfl IR_impl_System_build_1 hargs hw

def H_impl_System_enabled : Hint := ⟨[(0, false), (1, false), (2, true), (3, true), (4, false), (5, false), (6, false), (7, true), (8, false), (9, true), (10, false), (11, true), (12, false), (13, true), (15, false), (16, false), (17, false), (23, false), (24, false), (25, false), (53, false), (54, false), (55, false), (61, false), (62, false), (63, false)], [[0, 1, 4, 6, 7, 8, 9, 10, 11, 12, 13, 17, 18, 19, 20, 21, 22, 23, 24, 25], [0, 1, 4, 7, 8, 9, 10, 11, 12, 13, 20, 21, 22, 23, 24, 25], [0, 1, 4, 7, 10, 11, 12, 13, 23, 24, 25], [0, 1, 4, 7, 11, 12, 13]]⟩
def K38_1 : Pl := .st (.act none (.px (some 4) (.mv (.v 27)))) .done
@[simp] def W38_1 := @Pl.wpe _ _ K38_1.eq_1
def K38_2 : C := .seq (.pl <| .st (.ext 26 2) <|
    .st (.act none (.px (some 26) (.mv (.v 5)))) <|
    .st (.act none (.ex (some 27) (.call fn_slices_Clip_S_impl_Step_impl_Step [.v 26]))) K38_1) (.ret)
@[simp] def W38_2 := @C.wpe _ _ K38_2.eq_1
def K38_3 : C := .pl <| .st (.ext 26 1) <|
    .st (.act none (.px (some 26) (.bin .add (.v 16) (.c (.int .i64 1))))) <|
    .st (.act none (.px (some 16) (.mv (.v 26)))) .done
@[simp] def W38_3 := @C.wpe _ _ K38_3.eq_1
def K38_4 : C := .pl <| .st (.ext 26 1) <|
    .st (.act none (.px (some 26) (.bin .add (.v 19) (.c (.int .i64 1))))) <|
    .st (.act none (.px (some 19) (.mv (.v 26)))) .done
@[simp] def W38_4 := @C.wpe _ _ K38_4.eq_1
def K38_5 : C := .pl <| .st (.ext 26 1) <|
    .st (.act none (.px (some 26) (.bin .add (.v 22) (.c (.int .i64 1))))) <|
    .st (.act none (.px (some 22) (.mv (.v 26)))) .done
@[simp] def W38_5 := @C.wpe _ _ K38_5.eq_1
def K38_6 : C := .pl <| .st (.ext 26 1) <|
    .st (.act none (.px (some 26) (.bin .add (.v 25) (.c (.int .i64 1))))) <|
    .st (.act none (.px (some 25) (.mv (.v 26)))) .done
@[simp] def W38_6 := @C.wpe _ _ K38_6.eq_1
def K38_7 : Pl := .st (.act none (.px (some 5) (.mv (.v 33)))) .done
@[simp] def W38_7 := @Pl.wpe _ _ K38_7.eq_1
def K38_8 : C := .pl <| .st (.ext 26 8) <|
    .st (.act none (.px (some 26) (.mv (.v 5)))) <|
    .st (.act none (.px (some 27) (.mv (.v 6)))) <|
    .st (.act none (.px (some 28) (.mv (.v 8)))) <|
    .st (.act none (.px (some 29) (.mv (.v 10)))) <|
    .st (.act none (.px (some 30) (.mv (.v 12)))) <|
    .st (.act none (.px (some 31) (.build [.int .i64 0, .int .i64 0, .int .i64 0, .int .i64 0] [(0, 1, .v 27), (1, 1, .v 28), (2, 1, .v 29), (3, 1, .v 30)]))) <|
    .st (.act none (.psl 32 [.int .i64 0, .int .i64 0, .int .i64 0, .int .i64 0] [(0, 4, .v 31)])) <|
    .st (.act none (.ex (some 33) (.app 32 4 [.int .i64 0, .int .i64 0, .int .i64 0, .int .i64 0] (.o (.v 26)) (.p 1 32)))) K38_7
@[simp] def W38_8 := @C.wpe _ _ K38_8.eq_1
def K38_9 : C := .cond 26 (.v 43) K38_8 (.skip)
@[simp] def W38_9 := @C.wpe _ _ K38_9.eq_1
def K38_10 : Pl := .st (.act none (.px (some 43) (.pick (.v 37) (.v 42) (.c (.bool false))))) .done
@[simp] def W38_10 := @Pl.wpe _ _ K38_10.eq_1
def K38_11 : C := .seq (.pl <| .st (.ext 26 18) <|
    .st (.act none (.px (some 26) (.mv (.v 10)))) <|
    .st (.act none (.px (some 27) (.mv (.v 6)))) <|
    .st (.act none (.px (some 28) (.bin .neq (.v 26) (.v 27)))) <|
    .st (.act none (.px (some 29) (.mv (.v 28)))) <|
    .st (.act (some (.v 29, true)) (.als 30 none 13)) <|
    .st (.act (some (.v 29, true)) (.pget (some 31) (some 30) 13 9 none)) <|
    .st (.act (some (.v 29, true)) (.als 32 none 9)) <|
    .st (.act (some (.v 29, true)) (.pget (some 33) (some 32) 9 9 none)) <|
    .st (.act (some (.v 29, true)) (.px (some 34) (.un .neg (.v 33)))) <|
    .st (.act (some (.v 29, true)) (.px (some 35) (.bin .eql (.v 31) (.v 34)))) <|
    .st (.act none (.px (some 36) (.pick (.v 29) (.v 35) (.c (.bool false))))) <|
    .st (.act none (.px (some 37) (.mv (.v 36)))) <|
    .st (.act (some (.v 37, true)) (.pget (some 38) none 2 0 (some 2))) <|
    .st (.act (some (.v 37, true)) (.pget (some 39) none 3 0 (some 2))) <|
    .st (.act (some (.v 37, true)) (.px (some 40) (.mv (.v 10)))) <|
    .st (.act (some (.v 37, true)) (.px (some 41) (.mv (.v 12)))) <|
    .st (.act (some (.v 37, true)) (.ex (some 42) (.call fn_impl_System_ready [.v 38, .v 39, .v 40, .v 41]))) K38_10) K38_9
@[simp] def W38_11 := @C.wpe _ _ K38_11.eq_1
def K38_12 : C := .seq (.block 8 (.seq (.pl <| .st (.ext 26 3) <|
    .st (.act none (.px (some 26) (.mv (.v 25)))) <|
    .st (.act none (.px (some 27) (.ia 10 (.v 23) (.v 25)))) <|
    .st (.act none (.ld (some 28) (.v 27) (some 10))) <|
    .st (.act none (.pnew 13 (.c (.agg #[.int .i64 0, .int .i64 0, .int .i64 0, .int .i64 0, .slice none 0 0, .int .i64 0, .int .i64 0, .int .i64 0, .slice none 0 0, .int .i64 0])) [])) <|
    .st (.act none (.px (some 12) (.mv (.v 26)))) <|
    .st (.act none (.pset none 13 0 10 (.v 28))) .done) K38_11)) K38_6
@[simp] def W38_12 := @C.wpe _ _ K38_12.eq_1
def K38_13 : C := .seq (.cond 26 (.v 26) (.skip) (.exit 7)) K38_12
@[simp] def W38_13 := @C.wpe _ _ K38_13.eq_1
def K38_14 : C := .seq (.pl <| .st (.ext 26 1) <|
    .st (.act none (.px (some 26) (.bin .lss (.v 25) (.v 24)))) .done) K38_13
@[simp] def W38_14 := @C.wpe _ _ K38_14.eq_1
def K38_15 : C := .block 7 (.loop 26 [0, 1, 4, 7, 11, 12, 13] K38_14)
@[simp] def W38_15 := @C.wpe _ _ K38_15.eq_1
def K38_16 : C := .seq (.pl <| .st (.ext 26 1) <|
    .st (.act none (.als 26 none 11)) <|
    .st (.act none (.pget (some 23) (some 26) 11 1 none)) <|
    .st (.act none (.px (some 24) (.lenV (.v 23)))) <|
    .st (.act none (.px (some 25) (.mv (.c (.int .i64 0))))) .done) K38_15
@[simp] def W38_16 := @C.wpe _ _ K38_16.eq_1
def K38_17 : C := .seq (.block 6 (.seq (.pl <| .st (.ext 26 3) <|
    .st (.act none (.px (some 26) (.mv (.v 22)))) <|
    .st (.act none (.px (some 27) (.ia 2 (.v 20) (.v 22)))) <|
    .st (.act none (.ld (some 28) (.v 27) (some 2))) <|
    .st (.act none (.pnew 11 (.c (.agg #[.int .i64 0, .slice none 0 0])) [])) <|
    .st (.act none (.px (some 10) (.mv (.v 26)))) <|
    .st (.act none (.pset none 11 0 2 (.v 28))) .done) K38_16)) K38_5
@[simp] def W38_17 := @C.wpe _ _ K38_17.eq_1
def K38_18 : C := .seq (.cond 26 (.v 26) (.skip) (.exit 5)) K38_17
@[simp] def W38_18 := @C.wpe _ _ K38_18.eq_1
def K38_19 : C := .seq (.pl <| .st (.ext 26 1) <|
    .st (.act none (.px (some 26) (.bin .lss (.v 22) (.v 21)))) .done) K38_18
@[simp] def W38_19 := @C.wpe _ _ K38_19.eq_1
def K38_20 : C := .block 5 (.loop 26 [0, 1, 4, 7, 10, 11, 12, 13, 23, 24, 25] K38_19)
@[simp] def W38_20 := @C.wpe _ _ K38_20.eq_1
def K38_21 : C := .seq (.pl <| .st (.ext 26 1) <|
    .st (.act none (.als 26 none 2)) <|
    .st (.act none (.pget (some 20) (some 26) 2 1 none)) <|
    .st (.act none (.px (some 21) (.lenV (.v 20)))) <|
    .st (.act none (.px (some 22) (.mv (.c (.int .i64 0))))) .done) K38_20
@[simp] def W38_21 := @C.wpe _ _ K38_21.eq_1
def K38_22 : Pl := .st (.act none (.px (some 5) (.mv (.v 31)))) .done
@[simp] def W38_22 := @Pl.wpe _ _ K38_22.eq_1
def K38_23 : C := .seq (.pl <| .st (.ext 26 6) <|
    .st (.act none (.px (some 26) (.mv (.v 5)))) <|
    .st (.act none (.px (some 27) (.mv (.v 6)))) <|
    .st (.act none (.px (some 28) (.mv (.v 8)))) <|
    .st (.act none (.px (some 29) (.build [.int .i64 0, .int .i64 0, .int .i64 0, .int .i64 0] [(0, 1, .v 27), (1, 1, .v 28), (2, 1, .c (.int .i64 (-1))), (3, 1, .c (.int .i64 (-1)))]))) <|
    .st (.act none (.psl 30 [.int .i64 0, .int .i64 0, .int .i64 0, .int .i64 0] [(0, 4, .v 29)])) <|
    .st (.act none (.ex (some 31) (.app 32 4 [.int .i64 0, .int .i64 0, .int .i64 0, .int .i64 0] (.o (.v 26)) (.p 1 30)))) K38_22) (.exit 3)
@[simp] def W38_23 := @C.wpe _ _ K38_23.eq_1
def K38_24 : C := .cond 26 (.v 29) K38_23 (.skip)
@[simp] def W38_24 := @C.wpe _ _ K38_24.eq_1
def K38_25 : C := .seq (.pl <| .st (.ext 26 4) <|
    .st (.act none (.als 26 none 9)) <|
    .st (.act none (.pget (some 27) (some 26) 9 9 none)) <|
    .st (.act none (.px (some 28) (.bin .eql (.v 27) (.c (.int .i64 0))))) <|
    .st (.act none (.px (some 29) (.mv (.v 28)))) .done) K38_24
@[simp] def W38_25 := @C.wpe _ _ K38_25.eq_1
def K38_26 : C := .cond 26 (.v 37) (.exit 3) K38_25
@[simp] def W38_26 := @C.wpe _ _ K38_26.eq_1
def K38_27 : Pl := .st (.act none (.px (some 31) (.un .not (.v 30)))) <|
    .st (.act none (.px (some 32) (.mv (.v 31)))) <|
    .st (.act (some (.v 32, false)) (.als 33 none 9)) <|
    .st (.act (some (.v 32, false)) (.pget (some 34) (some 33) 9 9 none)) <|
    .st (.act (some (.v 32, false)) (.px (some 35) (.bin .lss (.v 34) (.c (.int .i64 0))))) <|
    .st (.act none (.px (some 36) (.pick (.v 32) (.c (.bool true)) (.v 35)))) <|
    .st (.act none (.px (some 37) (.mv (.v 36)))) .done
@[simp] def W38_27 := @Pl.wpe _ _ K38_27.eq_1
def K38_28 : C := .seq (.block 4 (.seq (.pl <| .st (.ext 26 12) <|
    .st (.act none (.pget (some 26) none 2 0 (some 2))) <|
    .st (.act none (.pget (some 27) none 3 0 (some 2))) <|
    .st (.act none (.px (some 28) (.mv (.v 6)))) <|
    .st (.act none (.px (some 29) (.mv (.v 8)))) <|
    .st (.act none (.ex (some 30) (.call fn_impl_System_ready [.v 26, .v 27, .v 28, .v 29]))) K38_27) K38_26)) K38_21
@[simp] def W38_28 := @C.wpe _ _ K38_28.eq_1
def K38_29 : C := .seq (.block 3 (.seq (.pl <| .st (.ext 26 3) <|
    .st (.act none (.px (some 26) (.mv (.v 19)))) <|
    .st (.act none (.px (some 27) (.ia 10 (.v 17) (.v 19)))) <|
    .st (.act none (.ld (some 28) (.v 27) (some 10))) <|
    .st (.act none (.pnew 9 (.c (.agg #[.int .i64 0, .int .i64 0, .int .i64 0, .int .i64 0, .slice none 0 0, .int .i64 0, .int .i64 0, .int .i64 0, .slice none 0 0, .int .i64 0])) [])) <|
    .st (.act none (.px (some 8) (.mv (.v 26)))) <|
    .st (.act none (.pset none 9 0 10 (.v 28))) .done) K38_28)) K38_4
@[simp] def W38_29 := @C.wpe _ _ K38_29.eq_1
def K38_30 : C := .seq (.cond 26 (.v 26) (.skip) (.exit 2)) K38_29
@[simp] def W38_30 := @C.wpe _ _ K38_30.eq_1
def K38_31 : C := .seq (.pl <| .st (.ext 26 1) <|
    .st (.act none (.px (some 26) (.bin .lss (.v 19) (.v 18)))) .done) K38_30
@[simp] def W38_31 := @C.wpe _ _ K38_31.eq_1
def K38_32 : C := .block 2 (.loop 26 [0, 1, 4, 7, 8, 9, 10, 11, 12, 13, 20, 21, 22, 23, 24, 25] K38_31)
@[simp] def W38_32 := @C.wpe _ _ K38_32.eq_1
def K38_33 : C := .seq (.pl <| .st (.ext 26 1) <|
    .st (.act none (.als 26 none 7)) <|
    .st (.act none (.pget (some 17) (some 26) 7 1 none)) <|
    .st (.act none (.px (some 18) (.lenV (.v 17)))) <|
    .st (.act none (.px (some 19) (.mv (.c (.int .i64 0))))) .done) K38_32
@[simp] def W38_33 := @C.wpe _ _ K38_33.eq_1
def K38_34 : C := .seq (.block 1 (.seq (.pl <| .st (.ext 26 3) <|
    .st (.act none (.px (some 26) (.mv (.v 16)))) <|
    .st (.act none (.px (some 27) (.ia 2 (.v 14) (.v 16)))) <|
    .st (.act none (.ld (some 28) (.v 27) (some 2))) <|
    .st (.act none (.pnew 7 (.c (.agg #[.int .i64 0, .slice none 0 0])) [])) <|
    .st (.act none (.px (some 6) (.mv (.v 26)))) <|
    .st (.act none (.pset none 7 0 2 (.v 28))) .done) K38_33)) K38_3
@[simp] def W38_34 := @C.wpe _ _ K38_34.eq_1
def K38_35 : C := .seq (.cond 26 (.v 26) (.skip) (.exit 0)) K38_34
@[simp] def W38_35 := @C.wpe _ _ K38_35.eq_1
def K38_36 : C := .seq (.pl <| .st (.ext 26 1) <|
    .st (.act none (.px (some 26) (.bin .lss (.v 16) (.v 15)))) .done) K38_35
@[simp] def W38_36 := @C.wpe _ _ K38_36.eq_1
def K38_37 : C := .block 0 (.loop 26 [0, 1, 4, 6, 7, 8, 9, 10, 11, 12, 13, 17, 18, 19, 20, 21, 22, 23, 24, 25] K38_36)
@[simp] def W38_37 := @C.wpe _ _ K38_37.eq_1
def K38_38 : C := .seq (.seq (.pl <| .st (.ext 26 1) <|
    .st (.act none (.als 26 none 2)) <|
    .st (.act none (.pget (some 14) (some 26) 2 1 none)) <|
    .st (.act none (.px (some 15) (.lenV (.v 14)))) <|
    .st (.act none (.px (some 16) (.mv (.c (.int .i64 0))))) .done) K38_37) K38_2
@[simp] def W38_38 := @C.wpe _ _ K38_38.eq_1
def K38_39 : C := .seq (.pl <| .st (.ext 26 0) <|
    .st (.act none (.px (some 5) (.mv (.c (.slice none 0 0))))) .done) K38_38
@[simp] def W38_39 := @C.wpe _ _ K38_39.eq_1
def B_impl_System_enabled : C := .seq (.pl <| .st (.ext 26 0) <|
    .st (.act none (.pnew 2 (.v 0) [])) <|
    .st (.act none (.pnew 3 (.v 1) [])) <|
    .st (.act none (.px (some 4) (.mv (.c (.slice none 0 0))))) .done) K38_39
@[simp] def WB_impl_System_enabled := @C.wpe _ _ B_impl_System_enabled.eq_1
def R_impl_System_enabled : FIR := ⟨B_impl_System_enabled, 26, [(4, none)]⟩
theorem IR_impl_System_enabled : cfun Tryz.prog H_impl_System_enabled Tryz.f38 = some R_impl_System_enabled := by kernel_rfl
theorem EN_impl_System_enabled {args : List Value} {h : Heap} {k : Value → Heap → Prop} (hargs : args.length = 2) (hw : B_impl_System_enabled.wp Tryz.prog (retQ [(4, none)] k) (env0 args 26) h) : CallE Tryz.prog fn_impl_System_enabled args h k := enter Tryz.func38 rfl IR_impl_System_enabled hargs hw

def H_impl_System_initial : Hint := ⟨[(0, false), (1, true), (2, true)], []⟩
def K82_1 : Pl := .st (.act none (.px (some 10) (.build [.slice none 0 0, .slice none 0 0] [(0, 1, .v 6), (1, 1, .v 9)]))) <|
    .st (.act none (.pset none 2 0 2 (.v 10))) .done
@[simp] def W82_1 := @Pl.wpe _ _ K82_1.eq_1
def K82_2 : Pl := .st (.act none (.ex (some 9) (.call fn_impl_clone_int [.v 8]))) K82_1
@[simp] def W82_2 := @Pl.wpe _ _ K82_2.eq_1
def K82_3 : Pl := .st (.act none (.ex (some 6) (.mks 8 1 [.int .i64 0] (.v 5) (.v 5)))) K82_2
@[simp] def W82_3 := @Pl.wpe _ _ K82_3.eq_1
def K82_4 : Pl := .st (.act none (.px (some 10) (.build [.slice none 0 0, .slice none 0 0] [(0, 1, .v 6), (1, 1, .v 9)]))) <|
    .st (.act none (.pset none 2 0 2 (.v 10))) .done
@[simp] def W82_4 := @Pl.wpe _ _ K82_4.eq_1
def K82_5 : Pl := .st (.act none (.ex (some 6) (.mks 8 1 [.int .i64 0] (.v 5) (.v 5)))) K82_4
@[simp] def W82_5 := @Pl.wpe _ _ K82_5.eq_1
def K82_6 : Pl := .st (.act none (.ex (some 9) (.call fn_impl_clone_int [.v 8]))) K82_5
@[simp] def W82_6 := @Pl.wpe _ _ K82_6.eq_1
def K82_7 : C := .seq (.pl <| .st (.ext 3 8) <|
    .st (.act none (.als 3 none 1)) <|
    .st (.act none (.pget (some 4) (some 3) 1 1 none)) <|
    .st (.act none (.px (some 5) (.lenV (.v 4)))) <|
    .st (.act none (.als 7 none 1)) <|
    .st (.act none (.pget (some 8) (some 7) 1 0 none)) <|
    .both K82_3 K82_6) (.ret)
@[simp] def W82_7 := @C.wpe _ _ K82_7.eq_1
def B_impl_System_initial : C := .seq (.pl <| .st (.ext 3 0) <|
    .st (.act none (.pnew 1 (.v 0) [])) <|
    .st (.act none (.pnew 2 (.c (.agg #[.slice none 0 0, .slice none 0 0])) [])) .done) K82_7
@[simp] def WB_impl_System_initial := @C.wpe _ _ B_impl_System_initial.eq_1
def R_impl_System_initial : FIR := ⟨B_impl_System_initial, 3, [(2, some (some 2))]⟩
theorem IR_impl_System_initial : cfun Tryz.prog H_impl_System_initial Tryz.f82 = some R_impl_System_initial := by kernel_rfl
theorem EN_impl_System_initial {args : List Value} {h : Heap} {k : Value → Heap → Prop} (hargs : args.length = 1) (hw : B_impl_System_initial.wp Tryz.prog (retQ [(2, some (some 2))] k) (env0 args 3) h) : CallE Tryz.prog fn_impl_System_initial args h k := enter Tryz.func82 rfl IR_impl_System_initial hargs hw

def H_impl_System_ready : Hint := ⟨[(0, false), (1, false), (2, false), (3, false), (4, true), (5, true), (8, false), (9, true)], []⟩
def K72_1 : Pl := .st (.act (some (.v 16, true)) (.px (some 22) (.bin .neq (.v 21) (.c (.int .i64 0))))) <|
    .st (.act none (.px (some 23) (.pick (.v 16) (.v 22) (.c (.bool false))))) <|
    .st (.act none (.px (some 6) (.mv (.v 23)))) .done
@[simp] def W72_1 := @Pl.wpe _ _ K72_1.eq_1
def K72_2 : C := .seq (.pl <| .st (.ext 8 16) <|
    .st (.act none (.als 8 none 5)) <|
    .st (.act none (.pget (some 9) (some 8) 5 0 none)) <|
    .st (.act none (.px (some 10) (.mv (.v 2)))) <|
    .st (.act none (.px (some 11) (.ia 1 (.v 9) (.v 10)))) <|
    .st (.act none (.ld (some 12) (.v 11) none)) <|
    .st (.act none (.als 13 none 7)) <|
    .st (.act none (.pget (some 14) (some 13) 7 0 none)) <|
    .st (.act none (.px (some 15) (.bin .eql (.v 12) (.v 14)))) <|
    .st (.act none (.px (some 16) (.mv (.v 15)))) <|
    .st (.act (some (.v 16, true)) (.als 17 none 7)) <|
    .st (.act (some (.v 16, true)) (.pget (some 18) (some 17) 7 2 (some 3))) <|
    .st (.act (some (.v 16, true)) (.als 19 none 5)) <|
    .st (.act (some (.v 16, true)) (.pget (some 20) (some 19) 5 1 none)) <|
    .st (.act (some (.v 16, true)) (.ex (some 21) (.call fn_impl_Expr_eval [.v 18, .v 20]))) K72_1) (.ret)
@[simp] def W72_2 := @C.wpe _ _ K72_2.eq_1
def K72_3 : C := .seq (.pl <| .st (.ext 8 9) <|
    .st (.act none (.als 8 none 4)) <|
    .st (.act none (.pget (some 9) (some 8) 4 1 none)) <|
    .st (.act none (.px (some 10) (.mv (.v 2)))) <|
    .st (.act none (.px (some 11) (.ia 2 (.v 9) (.v 10)))) <|
    .st (.act none (.px (some 12) (.fa 1 (.v 11)))) <|
    .st (.act none (.ld (some 13) (.v 12) none)) <|
    .st (.act none (.px (some 14) (.mv (.v 3)))) <|
    .st (.act none (.px (some 15) (.ia 10 (.v 13) (.v 14)))) <|
    .st (.act none (.ld (some 16) (.v 15) (some 10))) <|
    .st (.act none (.pnew 7 (.c (.agg #[.int .i64 0, .int .i64 0, .int .i64 0, .int .i64 0, .slice none 0 0, .int .i64 0, .int .i64 0, .int .i64 0, .slice none 0 0, .int .i64 0])) [])) <|
    .st (.act none (.pset none 7 0 10 (.v 16))) .done) K72_2
@[simp] def W72_3 := @C.wpe _ _ K72_3.eq_1
def B_impl_System_ready : C := .seq (.pl <| .st (.ext 8 0) <|
    .st (.act none (.pnew 4 (.v 0) [])) <|
    .st (.act none (.pnew 5 (.v 1) [])) <|
    .st (.act none (.px (some 6) (.mv (.c (.bool false))))) .done) K72_3
@[simp] def WB_impl_System_ready := @C.wpe _ _ B_impl_System_ready.eq_1
def R_impl_System_ready : FIR := ⟨B_impl_System_ready, 8, [(6, none)]⟩
theorem IR_impl_System_ready : cfun Tryz.prog H_impl_System_ready Tryz.f72 = some R_impl_System_ready := by kernel_rfl
theorem EN_impl_System_ready {args : List Value} {h : Heap} {k : Value → Heap → Prop} (hargs : args.length = 4) (hw : B_impl_System_ready.wp Tryz.prog (retQ [(6, none)] k) (env0 args 8) h) : CallE Tryz.prog fn_impl_System_ready args h k := enter Tryz.func72 rfl IR_impl_System_ready hargs hw

def H_impl_clone_int : Hint := ⟨[(0, false), (2, false)], []⟩
def K112_1 : Pl := .st (.act none (.px (some 1) (.mv (.v 4)))) .done
@[simp] def W112_1 := @Pl.wpe _ _ K112_1.eq_1
def K112_2 : Pl := .st (.act none (.ex (some 4) (.call fn_slices_Clip_S_int_int [.v 3]))) K112_1
@[simp] def W112_2 := @Pl.wpe _ _ K112_2.eq_1
def K112_3 : C := .seq (.pl <| .st (.ext 2 3) <|
    .st (.act none (.px (some 2) (.mv (.v 0)))) <|
    .st (.act none (.ex (some 3) (.call fn_slices_Clone_S_int_int [.v 2]))) K112_2) (.ret)
@[simp] def W112_3 := @C.wpe _ _ K112_3.eq_1
def B_impl_clone_int : C := .seq (.pl <| .st (.ext 2 0) <|
    .st (.act none (.px (some 1) (.mv (.c (.slice none 0 0))))) .done) K112_3
@[simp] def WB_impl_clone_int := @C.wpe _ _ B_impl_clone_int.eq_1
def R_impl_clone_int : FIR := ⟨B_impl_clone_int, 2, [(1, none)]⟩
theorem IR_impl_clone_int : cfun Tryz.prog H_impl_clone_int Tryz.f112 = some R_impl_clone_int := by kernel_rfl
theorem EN_impl_clone_int {args : List Value} {h : Heap} {k : Value → Heap → Prop} (hargs : args.length = 1) (hw : B_impl_clone_int.wp Tryz.prog (retQ [(1, none)] k) (env0 args 2) h) : CallE Tryz.prog fn_impl_clone_int args h k := enter Tryz.func112 rfl IR_impl_clone_int hargs hw

def H_impl_in : Hint := ⟨[(0, false), (1, false), (2, false), (6, false)], []⟩
def K37_1 : C := .seq (.pl <| .st (.ext 4 8) <|
    .st (.act none (.px (some 4) (.mv (.v 0)))) <|
    .st (.act none (.px (some 5) (.mv (.v 1)))) <|
    .st (.act none (.px (some 6) (.bin .geq (.v 4) (.v 5)))) <|
    .st (.act none (.px (some 7) (.mv (.v 6)))) <|
    .st (.act (some (.v 7, true)) (.px (some 8) (.mv (.v 0)))) <|
    .st (.act (some (.v 7, true)) (.px (some 9) (.mv (.v 2)))) <|
    .st (.act (some (.v 7, true)) (.px (some 10) (.bin .leq (.v 8) (.v 9)))) <|
    .st (.act none (.px (some 11) (.pick (.v 7) (.v 10) (.c (.bool false))))) <|
    .st (.act none (.px (some 3) (.mv (.v 11)))) .done) (.ret)
@[simp] def W37_1 := @C.wpe _ _ K37_1.eq_1
def B_impl_in : C := .seq (.pl <| .st (.ext 4 0) <|
    .st (.act none (.px (some 3) (.mv (.c (.bool false))))) .done) K37_1
@[simp] def WB_impl_in := @C.wpe _ _ B_impl_in.eq_1
def R_impl_in : FIR := ⟨B_impl_in, 4, [(3, none)]⟩
theorem IR_impl_in : cfun Tryz.prog H_impl_in Tryz.f37 = some R_impl_in := by kernel_rfl
theorem EN_impl_in {args : List Value} {h : Heap} {k : Value → Heap → Prop} (hargs : args.length = 3) (hw : B_impl_in.wp Tryz.prog (retQ [(3, none)] k) (env0 args 4) h) : CallE Tryz.prog fn_impl_in args h k := enter Tryz.func37 rfl IR_impl_in hargs hw

def H_impl_truth : Hint := ⟨[(0, false), (2, false)], []⟩
def K102_1 : C := .seq (.pl <| .st (.ext 2 0) <|
    .st (.act none (.px (some 1) (.mv (.c (.int .i64 0))))) .done) (.ret)
@[simp] def W102_1 := @C.wpe _ _ K102_1.eq_1
def K102_2 : C := .seq (.pl <| .st (.ext 2 0) <|
    .st (.act none (.px (some 1) (.mv (.c (.int .i64 1))))) .done) (.ret)
@[simp] def W102_2 := @C.wpe _ _ K102_2.eq_1
def K102_3 : C := .cond 2 (.v 2) K102_2 (.skip)
@[simp] def W102_3 := @C.wpe _ _ K102_3.eq_1
def K102_4 : C := .seq (.seq (.pl <| .st (.ext 2 1) <|
    .st (.act none (.px (some 2) (.mv (.v 0)))) .done) K102_3) K102_1
@[simp] def W102_4 := @C.wpe _ _ K102_4.eq_1
def B_impl_truth : C := .seq (.pl <| .st (.ext 2 0) <|
    .st (.act none (.px (some 1) (.mv (.c (.int .i64 0))))) .done) K102_4
@[simp] def WB_impl_truth := @C.wpe _ _ B_impl_truth.eq_1
def R_impl_truth : FIR := ⟨B_impl_truth, 2, [(1, none)]⟩
theorem IR_impl_truth : cfun Tryz.prog H_impl_truth Tryz.f102 = some R_impl_truth := by kernel_rfl
theorem EN_impl_truth {args : List Value} {h : Heap} {k : Value → Heap → Prop} (hargs : args.length = 1) (hw : B_impl_truth.wp Tryz.prog (retQ [(1, none)] k) (env0 args 2) h) : CallE Tryz.prog fn_impl_truth args h k := enter Tryz.func102 rfl IR_impl_truth hargs hw

def H_impl_valsOk : Hint := ⟨[(0, false), (2, false)], []⟩
def K78_1 : Pl := .st (.act (some (.v 5, true)) (.px (some 8) (.un .not (.v 7)))) <|
    .st (.act none (.px (some 9) (.pick (.v 5) (.v 8) (.c (.bool false))))) <|
    .st (.act none (.px (some 1) (.mv (.v 9)))) .done
@[simp] def W78_1 := @Pl.wpe _ _ K78_1.eq_1
def K78_2 : C := .seq (.pl <| .st (.ext 2 8) <|
    .st (.act none (.px (some 2) (.mv (.v 0)))) <|
    .st (.act none (.px (some 3) (.lenV (.v 2)))) <|
    .st (.act none (.px (some 4) (.bin .eql (.v 3) (.c (.int .i64 3))))) <|
    .st (.act none (.px (some 5) (.mv (.v 4)))) <|
    .st (.act (some (.v 5, true)) (.px (some 6) (.mv (.v 0)))) <|
    .st (.act (some (.v 5, true)) (.ex (some 7) (.call fn_slices_ContainsFunc_S_int_int [.v 6, .c (.func (.func 109) #[] #[])]))) K78_1) (.ret)
@[simp] def W78_2 := @C.wpe _ _ K78_2.eq_1
def B_impl_valsOk : C := .seq (.pl <| .st (.ext 2 0) <|
    .st (.act none (.px (some 1) (.mv (.c (.bool false))))) .done) K78_2
@[simp] def WB_impl_valsOk := @C.wpe _ _ B_impl_valsOk.eq_1
def R_impl_valsOk : FIR := ⟨B_impl_valsOk, 2, [(1, none)]⟩
theorem IR_impl_valsOk : cfun Tryz.prog H_impl_valsOk Tryz.f78 = some R_impl_valsOk := by kernel_rfl
theorem EN_impl_valsOk {args : List Value} {h : Heap} {k : Value → Heap → Prop} (hargs : args.length = 1) (hw : B_impl_valsOk.wp Tryz.prog (retQ [(1, none)] k) (env0 args 2) h) : CallE Tryz.prog fn_impl_valsOk args h k := enter Tryz.func78 rfl IR_impl_valsOk hargs hw

def H_impl_valsOk_1 : Hint := ⟨[(0, false), (2, false)], []⟩
def K109_1 : Pl := .st (.act none (.px (some 4) (.un .not (.v 3)))) <|
    .st (.act none (.px (some 1) (.mv (.v 4)))) .done
@[simp] def W109_1 := @Pl.wpe _ _ K109_1.eq_1
def K109_2 : C := .seq (.pl <| .st (.ext 2 3) <|
    .st (.act none (.px (some 2) (.mv (.v 0)))) <|
    .st (.act none (.ex (some 3) (.call fn_impl_in [.v 2, .c (.int .i64 0), .c (.int .i64 3)]))) K109_1) (.ret)
@[simp] def W109_2 := @C.wpe _ _ K109_2.eq_1
def B_impl_valsOk_1 : C := .seq (.pl <| .st (.ext 2 0) <|
    .st (.act none (.px (some 1) (.mv (.c (.bool false))))) .done) K109_2
@[simp] def WB_impl_valsOk_1 := @C.wpe _ _ B_impl_valsOk_1.eq_1
def R_impl_valsOk_1 : FIR := ⟨B_impl_valsOk_1, 2, [(1, none)]⟩
theorem IR_impl_valsOk_1 : cfun Tryz.prog H_impl_valsOk_1 Tryz.f109 = some R_impl_valsOk_1 := by kernel_rfl
theorem EN_impl_valsOk_1 {args : List Value} {h : Heap} {k : Value → Heap → Prop} (hargs : args.length = 1) (hw : B_impl_valsOk_1.wp Tryz.prog (retQ [(1, none)] k) (env0 args 2) h) : CallE Tryz.prog fn_impl_valsOk_1 args h k := enter Tryz.func109 rfl IR_impl_valsOk_1 hargs hw

def H_laws_eqEdge : Hint := ⟨[(0, false), (1, false), (2, true), (3, true), (4, false)], []⟩
def K124_1 : C := .seq (.pl <| .st (.ext 5 0) <|
    .st (.act none (.px (some 4) (.mv (.c (.bool true))))) .done) (.ret)
@[simp] def W124_1 := @C.wpe _ _ K124_1.eq_1
def K124_2 : C := .seq (.pl <| .st (.ext 5 0) <|
    .st (.act none (.px (some 4) (.mv (.c (.bool false))))) .done) (.ret)
@[simp] def W124_2 := @C.wpe _ _ K124_2.eq_1
def K124_3 : C := .cond 5 (.v 9) K124_2 (.skip)
@[simp] def W124_3 := @C.wpe _ _ K124_3.eq_1
def K124_4 : C := .seq (.seq (.pl <| .st (.ext 5 5) <|
    .st (.act none (.als 5 none 2)) <|
    .st (.act none (.pget (some 6) (some 5) 2 9 none)) <|
    .st (.act none (.als 7 none 3)) <|
    .st (.act none (.pget (some 8) (some 7) 3 9 none)) <|
    .st (.act none (.px (some 9) (.bin .neq (.v 6) (.v 8)))) .done) K124_3) K124_1
@[simp] def W124_4 := @C.wpe _ _ K124_4.eq_1
def K124_5 : C := .seq (.pl <| .st (.ext 5 0) <|
    .st (.act none (.px (some 4) (.mv (.c (.bool false))))) .done) (.ret)
@[simp] def W124_5 := @C.wpe _ _ K124_5.eq_1
def K124_6 : C := .cond 5 (.v 10) K124_5 (.skip)
@[simp] def W124_6 := @C.wpe _ _ K124_6.eq_1
def K124_7 : Pl := .st (.act none (.px (some 10) (.un .not (.v 9)))) .done
@[simp] def W124_7 := @Pl.wpe _ _ K124_7.eq_1
def K124_8 : C := .seq (.seq (.pl <| .st (.ext 5 6) <|
    .st (.act none (.als 5 none 2)) <|
    .st (.act none (.pget (some 6) (some 5) 2 6 (some 3))) <|
    .st (.act none (.als 7 none 3)) <|
    .st (.act none (.pget (some 8) (some 7) 3 6 (some 3))) <|
    .st (.act none (.ex (some 9) (.call fn_laws_eqExpr [.v 6, .v 8]))) K124_7) K124_6) K124_4
@[simp] def W124_8 := @C.wpe _ _ K124_8.eq_1
def K124_9 : C := .seq (.pl <| .st (.ext 5 0) <|
    .st (.act none (.px (some 4) (.mv (.c (.bool false))))) .done) (.ret)
@[simp] def W124_9 := @C.wpe _ _ K124_9.eq_1
def K124_10 : C := .cond 5 (.v 9) K124_9 (.skip)
@[simp] def W124_10 := @C.wpe _ _ K124_10.eq_1
def K124_11 : C := .seq (.seq (.pl <| .st (.ext 5 5) <|
    .st (.act none (.als 5 none 2)) <|
    .st (.act none (.pget (some 6) (some 5) 2 5 none)) <|
    .st (.act none (.als 7 none 3)) <|
    .st (.act none (.pget (some 8) (some 7) 3 5 none)) <|
    .st (.act none (.px (some 9) (.bin .neq (.v 6) (.v 8)))) .done) K124_10) K124_8
@[simp] def W124_11 := @C.wpe _ _ K124_11.eq_1
def K124_12 : C := .seq (.pl <| .st (.ext 5 0) <|
    .st (.act none (.px (some 4) (.mv (.c (.bool false))))) .done) (.ret)
@[simp] def W124_12 := @C.wpe _ _ K124_12.eq_1
def K124_13 : C := .cond 5 (.v 10) K124_12 (.skip)
@[simp] def W124_13 := @C.wpe _ _ K124_13.eq_1
def K124_14 : Pl := .st (.act none (.px (some 10) (.un .not (.v 9)))) .done
@[simp] def W124_14 := @Pl.wpe _ _ K124_14.eq_1
def K124_15 : C := .seq (.seq (.pl <| .st (.ext 5 6) <|
    .st (.act none (.als 5 none 2)) <|
    .st (.act none (.pget (some 6) (some 5) 2 2 (some 3))) <|
    .st (.act none (.als 7 none 3)) <|
    .st (.act none (.pget (some 8) (some 7) 3 2 (some 3))) <|
    .st (.act none (.ex (some 9) (.call fn_laws_eqExpr [.v 6, .v 8]))) K124_14) K124_13) K124_11
@[simp] def W124_15 := @C.wpe _ _ K124_15.eq_1
def K124_16 : C := .seq (.pl <| .st (.ext 5 0) <|
    .st (.act none (.px (some 4) (.mv (.c (.bool false))))) .done) (.ret)
@[simp] def W124_16 := @C.wpe _ _ K124_16.eq_1
def K124_17 : C := .cond 5 (.v 9) K124_16 (.skip)
@[simp] def W124_17 := @C.wpe _ _ K124_17.eq_1
def K124_18 : C := .seq (.seq (.pl <| .st (.ext 5 5) <|
    .st (.act none (.als 5 none 2)) <|
    .st (.act none (.pget (some 6) (some 5) 2 1 none)) <|
    .st (.act none (.als 7 none 3)) <|
    .st (.act none (.pget (some 8) (some 7) 3 1 none)) <|
    .st (.act none (.px (some 9) (.bin .neq (.v 6) (.v 8)))) .done) K124_17) K124_15
@[simp] def W124_18 := @C.wpe _ _ K124_18.eq_1
def K124_19 : C := .seq (.pl <| .st (.ext 5 0) <|
    .st (.act none (.px (some 4) (.mv (.c (.bool false))))) .done) (.ret)
@[simp] def W124_19 := @C.wpe _ _ K124_19.eq_1
def K124_20 : C := .cond 5 (.v 9) K124_19 (.skip)
@[simp] def W124_20 := @C.wpe _ _ K124_20.eq_1
def K124_21 : C := .seq (.seq (.pl <| .st (.ext 5 5) <|
    .st (.act none (.als 5 none 2)) <|
    .st (.act none (.pget (some 6) (some 5) 2 0 none)) <|
    .st (.act none (.als 7 none 3)) <|
    .st (.act none (.pget (some 8) (some 7) 3 0 none)) <|
    .st (.act none (.px (some 9) (.bin .neq (.v 6) (.v 8)))) .done) K124_20) K124_18
@[simp] def W124_21 := @C.wpe _ _ K124_21.eq_1
def B_laws_eqEdge : C := .seq (.pl <| .st (.ext 5 0) <|
    .st (.act none (.pnew 2 (.v 0) [])) <|
    .st (.act none (.pnew 3 (.v 1) [])) <|
    .st (.act none (.px (some 4) (.mv (.c (.bool false))))) .done) K124_21
@[simp] def WB_laws_eqEdge := @C.wpe _ _ B_laws_eqEdge.eq_1
def R_laws_eqEdge : FIR := ⟨B_laws_eqEdge, 5, [(4, none)]⟩
theorem IR_laws_eqEdge : cfun Tryz.prog H_laws_eqEdge Tryz.f124 = some R_laws_eqEdge := by kernel_rfl
theorem EN_laws_eqEdge {args : List Value} {h : Heap} {k : Value → Heap → Prop} (hargs : args.length = 2) (hw : B_laws_eqEdge.wp Tryz.prog (retQ [(4, none)] k) (env0 args 5) h) : CallE Tryz.prog fn_laws_eqEdge args h k := enter Tryz.func124 rfl IR_laws_eqEdge hargs hw

def H_laws_eqEdgeS : Hint := ⟨[(0, false), (1, false), (4, false), (5, false)], [[2]]⟩
def K106_1 : C := .seq (.pl <| .st (.ext 4 0) <|
    .st (.act none (.px (some 2) (.mv (.c (.bool true))))) .done) (.ret)
@[simp] def W106_1 := @C.wpe _ _ K106_1.eq_1
def K106_2 : C := .pl <| .st (.ext 4 2) <|
    .st (.act none (.px (some 4) (.mv (.v 3)))) <|
    .st (.act none (.px (some 5) (.bin .add (.v 4) (.c (.int .i64 1))))) <|
    .st (.act none (.px (some 3) (.mv (.v 5)))) .done
@[simp] def W106_2 := @C.wpe _ _ K106_2.eq_1
def K106_3 : C := .seq (.pl <| .st (.ext 4 0) <|
    .st (.act none (.px (some 2) (.mv (.c (.bool false))))) .done) (.ret)
@[simp] def W106_3 := @C.wpe _ _ K106_3.eq_1
def K106_4 : C := .cond 4 (.v 13) K106_3 (.skip)
@[simp] def W106_4 := @C.wpe _ _ K106_4.eq_1
def K106_5 : Pl := .st (.act none (.px (some 13) (.un .not (.v 12)))) .done
@[simp] def W106_5 := @Pl.wpe _ _ K106_5.eq_1
def K106_6 : C := .seq (.block 1 (.seq (.pl <| .st (.ext 4 10) <|
    .st (.act none (.px (some 4) (.mv (.v 0)))) <|
    .st (.act none (.px (some 5) (.mv (.v 3)))) <|
    .st (.act none (.px (some 6) (.ia 10 (.v 4) (.v 5)))) <|
    .st (.act none (.ld (some 7) (.v 6) (some 10))) <|
    .st (.act none (.px (some 8) (.mv (.v 1)))) <|
    .st (.act none (.px (some 9) (.mv (.v 3)))) <|
    .st (.act none (.px (some 10) (.ia 10 (.v 8) (.v 9)))) <|
    .st (.act none (.ld (some 11) (.v 10) (some 10))) <|
    .st (.act none (.ex (some 12) (.call fn_laws_eqEdge [.v 7, .v 11]))) K106_5) K106_4)) K106_2
@[simp] def W106_6 := @C.wpe _ _ K106_6.eq_1
def K106_7 : C := .cond 4 (.v 7) (.skip) (.exit 0)
@[simp] def W106_7 := @C.wpe _ _ K106_7.eq_1
def K106_8 : C := .seq (.seq (.pl <| .st (.ext 4 4) <|
    .st (.act none (.px (some 4) (.mv (.v 3)))) <|
    .st (.act none (.px (some 5) (.mv (.v 0)))) <|
    .st (.act none (.px (some 6) (.lenV (.v 5)))) <|
    .st (.act none (.px (some 7) (.bin .lss (.v 4) (.v 6)))) .done) K106_7) K106_6
@[simp] def W106_8 := @C.wpe _ _ K106_8.eq_1
def K106_9 : C := .block 0 (.loop 4 [2] K106_8)
@[simp] def W106_9 := @C.wpe _ _ K106_9.eq_1
def K106_10 : C := .seq (.seq (.pl <| .st (.ext 4 0) <|
    .st (.act none (.px (some 3) (.mv (.c (.int .i64 0))))) .done) K106_9) K106_1
@[simp] def W106_10 := @C.wpe _ _ K106_10.eq_1
def K106_11 : C := .seq (.pl <| .st (.ext 4 0) <|
    .st (.act none (.px (some 2) (.mv (.c (.bool false))))) .done) (.ret)
@[simp] def W106_11 := @C.wpe _ _ K106_11.eq_1
def K106_12 : C := .cond 4 (.v 8) K106_11 (.skip)
@[simp] def W106_12 := @C.wpe _ _ K106_12.eq_1
def K106_13 : C := .seq (.seq (.pl <| .st (.ext 4 5) <|
    .st (.act none (.px (some 4) (.mv (.v 0)))) <|
    .st (.act none (.px (some 5) (.lenV (.v 4)))) <|
    .st (.act none (.px (some 6) (.mv (.v 1)))) <|
    .st (.act none (.px (some 7) (.lenV (.v 6)))) <|
    .st (.act none (.px (some 8) (.bin .neq (.v 5) (.v 7)))) .done) K106_12) K106_10
@[simp] def W106_13 := @C.wpe _ _ K106_13.eq_1
def B_laws_eqEdgeS : C := .seq (.pl <| .st (.ext 4 0) <|
    .st (.act none (.px (some 2) (.mv (.c (.bool false))))) .done) K106_13
@[simp] def WB_laws_eqEdgeS := @C.wpe _ _ B_laws_eqEdgeS.eq_1
def R_laws_eqEdgeS : FIR := ⟨B_laws_eqEdgeS, 4, [(2, none)]⟩
theorem IR_laws_eqEdgeS : cfun Tryz.prog H_laws_eqEdgeS Tryz.f106 = some R_laws_eqEdgeS := by kernel_rfl
theorem EN_laws_eqEdgeS {args : List Value} {h : Heap} {k : Value → Heap → Prop} (hargs : args.length = 2) (hw : B_laws_eqEdgeS.wp Tryz.prog (retQ [(2, none)] k) (env0 args 4) h) : CallE Tryz.prog fn_laws_eqEdgeS args h k := enter Tryz.func106 rfl IR_laws_eqEdgeS hargs hw

def H_laws_eqExpr : Hint := ⟨[(0, false), (1, false), (2, true), (3, true), (4, false)], []⟩
def K26_1 : C := .seq (.pl <| .st (.ext 5 0) <|
    .st (.act none (.px (some 4) (.mv (.c (.bool true))))) .done) (.ret)
@[simp] def W26_1 := @C.wpe _ _ K26_1.eq_1
def K26_2 : C := .seq (.pl <| .st (.ext 5 0) <|
    .st (.act none (.px (some 4) (.mv (.c (.bool false))))) .done) (.ret)
@[simp] def W26_2 := @C.wpe _ _ K26_2.eq_1
def K26_3 : C := .cond 5 (.v 10) K26_2 (.skip)
@[simp] def W26_3 := @C.wpe _ _ K26_3.eq_1
def K26_4 : Pl := .st (.act none (.px (some 10) (.un .not (.v 9)))) .done
@[simp] def W26_4 := @Pl.wpe _ _ K26_4.eq_1
def K26_5 : C := .seq (.seq (.pl <| .st (.ext 5 6) <|
    .st (.act none (.als 5 none 2)) <|
    .st (.act none (.pget (some 6) (some 5) 2 2 none)) <|
    .st (.act none (.als 7 none 3)) <|
    .st (.act none (.pget (some 8) (some 7) 3 2 none)) <|
    .st (.act none (.ex (some 9) (.call fn_laws_eqExprS [.v 6, .v 8]))) K26_4) K26_3) K26_1
@[simp] def W26_5 := @C.wpe _ _ K26_5.eq_1
def K26_6 : C := .seq (.pl <| .st (.ext 5 0) <|
    .st (.act none (.px (some 4) (.mv (.c (.bool false))))) .done) (.ret)
@[simp] def W26_6 := @C.wpe _ _ K26_6.eq_1
def K26_7 : C := .cond 5 (.v 9) K26_6 (.skip)
@[simp] def W26_7 := @C.wpe _ _ K26_7.eq_1
def K26_8 : C := .seq (.seq (.pl <| .st (.ext 5 5) <|
    .st (.act none (.als 5 none 2)) <|
    .st (.act none (.pget (some 6) (some 5) 2 1 none)) <|
    .st (.act none (.als 7 none 3)) <|
    .st (.act none (.pget (some 8) (some 7) 3 1 none)) <|
    .st (.act none (.px (some 9) (.bin .neq (.v 6) (.v 8)))) .done) K26_7) K26_5
@[simp] def W26_8 := @C.wpe _ _ K26_8.eq_1
def K26_9 : C := .seq (.pl <| .st (.ext 5 0) <|
    .st (.act none (.px (some 4) (.mv (.c (.bool false))))) .done) (.ret)
@[simp] def W26_9 := @C.wpe _ _ K26_9.eq_1
def K26_10 : C := .cond 5 (.v 9) K26_9 (.skip)
@[simp] def W26_10 := @C.wpe _ _ K26_10.eq_1
def K26_11 : C := .seq (.seq (.pl <| .st (.ext 5 5) <|
    .st (.act none (.als 5 none 2)) <|
    .st (.act none (.pget (some 6) (some 5) 2 0 none)) <|
    .st (.act none (.als 7 none 3)) <|
    .st (.act none (.pget (some 8) (some 7) 3 0 none)) <|
    .st (.act none (.px (some 9) (.bin .neq (.v 6) (.v 8)))) .done) K26_10) K26_8
@[simp] def W26_11 := @C.wpe _ _ K26_11.eq_1
def B_laws_eqExpr : C := .seq (.pl <| .st (.ext 5 0) <|
    .st (.act none (.pnew 2 (.v 0) [])) <|
    .st (.act none (.pnew 3 (.v 1) [])) <|
    .st (.act none (.px (some 4) (.mv (.c (.bool false))))) .done) K26_11
@[simp] def WB_laws_eqExpr := @C.wpe _ _ B_laws_eqExpr.eq_1
def R_laws_eqExpr : FIR := ⟨B_laws_eqExpr, 5, [(4, none)]⟩
theorem IR_laws_eqExpr : cfun Tryz.prog H_laws_eqExpr Tryz.f26 = some R_laws_eqExpr := by kernel_rfl
theorem EN_laws_eqExpr {args : List Value} {h : Heap} {k : Value → Heap → Prop} (hargs : args.length = 2) (hw : B_laws_eqExpr.wp Tryz.prog (retQ [(4, none)] k) (env0 args 5) h) : CallE Tryz.prog fn_laws_eqExpr args h k := enter Tryz.func26 rfl IR_laws_eqExpr hargs hw

def H_laws_eqExprS : Hint := ⟨[(0, false), (1, false), (4, false), (5, false)], [[2]]⟩
def K63_1 : C := .seq (.pl <| .st (.ext 4 0) <|
    .st (.act none (.px (some 2) (.mv (.c (.bool true))))) .done) (.ret)
@[simp] def W63_1 := @C.wpe _ _ K63_1.eq_1
def K63_2 : C := .pl <| .st (.ext 4 2) <|
    .st (.act none (.px (some 4) (.mv (.v 3)))) <|
    .st (.act none (.px (some 5) (.bin .add (.v 4) (.c (.int .i64 1))))) <|
    .st (.act none (.px (some 3) (.mv (.v 5)))) .done
@[simp] def W63_2 := @C.wpe _ _ K63_2.eq_1
def K63_3 : C := .seq (.pl <| .st (.ext 4 0) <|
    .st (.act none (.px (some 2) (.mv (.c (.bool false))))) .done) (.ret)
@[simp] def W63_3 := @C.wpe _ _ K63_3.eq_1
def K63_4 : C := .cond 4 (.v 13) K63_3 (.skip)
@[simp] def W63_4 := @C.wpe _ _ K63_4.eq_1
def K63_5 : Pl := .st (.act none (.px (some 13) (.un .not (.v 12)))) .done
@[simp] def W63_5 := @Pl.wpe _ _ K63_5.eq_1
def K63_6 : C := .seq (.block 1 (.seq (.pl <| .st (.ext 4 10) <|
    .st (.act none (.px (some 4) (.mv (.v 0)))) <|
    .st (.act none (.px (some 5) (.mv (.v 3)))) <|
    .st (.act none (.px (some 6) (.ia 3 (.v 4) (.v 5)))) <|
    .st (.act none (.ld (some 7) (.v 6) (some 3))) <|
    .st (.act none (.px (some 8) (.mv (.v 1)))) <|
    .st (.act none (.px (some 9) (.mv (.v 3)))) <|
    .st (.act none (.px (some 10) (.ia 3 (.v 8) (.v 9)))) <|
    .st (.act none (.ld (some 11) (.v 10) (some 3))) <|
    .st (.act none (.ex (some 12) (.call fn_laws_eqExpr [.v 7, .v 11]))) K63_5) K63_4)) K63_2
@[simp] def W63_6 := @C.wpe _ _ K63_6.eq_1
def K63_7 : C := .cond 4 (.v 7) (.skip) (.exit 0)
@[simp] def W63_7 := @C.wpe _ _ K63_7.eq_1
def K63_8 : C := .seq (.seq (.pl <| .st (.ext 4 4) <|
    .st (.act none (.px (some 4) (.mv (.v 3)))) <|
    .st (.act none (.px (some 5) (.mv (.v 0)))) <|
    .st (.act none (.px (some 6) (.lenV (.v 5)))) <|
    .st (.act none (.px (some 7) (.bin .lss (.v 4) (.v 6)))) .done) K63_7) K63_6
@[simp] def W63_8 := @C.wpe _ _ K63_8.eq_1
def K63_9 : C := .block 0 (.loop 4 [2] K63_8)
@[simp] def W63_9 := @C.wpe _ _ K63_9.eq_1
def K63_10 : C := .seq (.seq (.pl <| .st (.ext 4 0) <|
    .st (.act none (.px (some 3) (.mv (.c (.int .i64 0))))) .done) K63_9) K63_1
@[simp] def W63_10 := @C.wpe _ _ K63_10.eq_1
def K63_11 : C := .seq (.pl <| .st (.ext 4 0) <|
    .st (.act none (.px (some 2) (.mv (.c (.bool false))))) .done) (.ret)
@[simp] def W63_11 := @C.wpe _ _ K63_11.eq_1
def K63_12 : C := .cond 4 (.v 8) K63_11 (.skip)
@[simp] def W63_12 := @C.wpe _ _ K63_12.eq_1
def K63_13 : C := .seq (.seq (.pl <| .st (.ext 4 5) <|
    .st (.act none (.px (some 4) (.mv (.v 0)))) <|
    .st (.act none (.px (some 5) (.lenV (.v 4)))) <|
    .st (.act none (.px (some 6) (.mv (.v 1)))) <|
    .st (.act none (.px (some 7) (.lenV (.v 6)))) <|
    .st (.act none (.px (some 8) (.bin .neq (.v 5) (.v 7)))) .done) K63_12) K63_10
@[simp] def W63_13 := @C.wpe _ _ K63_13.eq_1
def B_laws_eqExprS : C := .seq (.pl <| .st (.ext 4 0) <|
    .st (.act none (.px (some 2) (.mv (.c (.bool false))))) .done) K63_13
@[simp] def WB_laws_eqExprS := @C.wpe _ _ B_laws_eqExprS.eq_1
def R_laws_eqExprS : FIR := ⟨B_laws_eqExprS, 4, [(2, none)]⟩
theorem IR_laws_eqExprS : cfun Tryz.prog H_laws_eqExprS Tryz.f63 = some R_laws_eqExprS := by kernel_rfl
theorem EN_laws_eqExprS {args : List Value} {h : Heap} {k : Value → Heap → Prop} (hargs : args.length = 2) (hw : B_laws_eqExprS.wp Tryz.prog (retQ [(2, none)] k) (env0 args 4) h) : CallE Tryz.prog fn_laws_eqExprS args h k := enter Tryz.func63 rfl IR_laws_eqExprS hargs hw


end Go.Proofs.YthgimpheeemooaaGreat
