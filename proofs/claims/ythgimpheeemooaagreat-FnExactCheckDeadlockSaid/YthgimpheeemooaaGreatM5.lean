/-
  Texts of this proof, one behind the other.
-/
import Derived.Test.YthgimpheeemooaaGreatM4
/-
  Bodies of functions in the small language, as a program printed them, and that each is what the translation gives.
-/
namespace Go.Proofs.YthgimpheeemooaaGreat
open Go
set_option linter.all false
set_option linter.defProp false
set_option maxRecDepth 1000000

def H_impl_EdgeValid : Hint := ⟨[(0, false), (1, false), (2, true), (4, false)], []⟩
def K81_1 : Pl := .st (.act none (.px (some 55) (.pick (.v 51) (.v 54) (.c (.bool false))))) <|
    .st (.act none (.px (some 3) (.mv (.v 55)))) .done
@[simp] def W81_1 := @Pl.wpe _ _ K81_1.eq_1
def K81_2 : Pl := .st (.act (some (.v 39, false)) (.px (some 48) (.pick (.v 43) (.v 47) (.c (.bool false))))) <|
    .st (.act (some (.v 30, true)) (.px (some 49) (.pick (.v 39) (.c (.bool true)) (.v 48)))) <|
    .st (.act none (.px (some 50) (.pick (.v 30) (.v 49) (.c (.bool false))))) <|
    .st (.act none (.px (some 51) (.mv (.v 50)))) <|
    .st (.act (some (.v 51, true)) (.als 52 none 2)) <|
    .st (.act (some (.v 51, true)) (.pget (some 53) (some 52) 2 9 none)) <|
    .st (.act (some (.v 51, true)) (.ex (some 54) (.call fn_impl_in [.v 53, .c (.int .i64 (-2)), .c (.int .i64 2)]))) K81_1
@[simp] def W81_2 := @Pl.wpe _ _ K81_2.eq_1
def K81_3 : Pl := .st (.act (some (.v 30, true)) (.px (some 38) (.pick (.v 34) (.v 37) (.c (.bool false))))) <|
    .st (.act (some (.v 30, true)) (.px (some 39) (.mv (.v 38)))) <|
    .st (.act (some (.v 39, false)) (.als 40 none 2)) <|
    .st (.act (some (.v 39, false)) (.pget (some 41) (some 40) 2 5 none)) <|
    .st (.act (some (.v 39, false)) (.px (some 42) (.bin .lss (.v 41) (.c (.int .i64 0))))) <|
    .st (.act (some (.v 39, false)) (.px (some 43) (.mv (.v 42)))) <|
    .st (.act (some (.v 43, true)) (.als 44 none 2)) <|
    .st (.act (some (.v 43, true)) (.pget (some 45) (some 44) 2 6 (some 3))) <|
    .st (.act (some (.v 43, true)) (.px (some 46) (.build [.int .i64 0, .int .i64 0, .slice none 0 0] []))) <|
    .st (.act (some (.v 43, true)) (.ex (some 47) (.call fn_impl_ExprSame [.v 45, .v 46]))) K81_2
@[simp] def W81_3 := @Pl.wpe _ _ K81_3.eq_1
def K81_4 : Pl := .st (.act none (.px (some 29) (.pick (.v 25) (.v 28) (.c (.bool false))))) <|
    .st (.act none (.px (some 30) (.mv (.v 29)))) <|
    .st (.act (some (.v 30, true)) (.als 31 none 2)) <|
    .st (.act (some (.v 30, true)) (.pget (some 32) (some 31) 2 5 none)) <|
    .st (.act (some (.v 30, true)) (.px (some 33) (.bin .geq (.v 32) (.c (.int .i64 0))))) <|
    .st (.act (some (.v 30, true)) (.px (some 34) (.mv (.v 33)))) <|
    .st (.act (some (.v 34, true)) (.als 35 none 2)) <|
    .st (.act (some (.v 34, true)) (.pget (some 36) (some 35) 2 6 (some 3))) <|
    .st (.act (some (.v 34, true)) (.ex (some 37) (.call fn_impl_ExprValid [.v 36]))) K81_3
@[simp] def W81_4 := @Pl.wpe _ _ K81_4.eq_1
def K81_5 : Pl := .st (.act none (.px (some 24) (.pick (.v 20) (.v 23) (.c (.bool false))))) <|
    .st (.act none (.px (some 25) (.mv (.v 24)))) <|
    .st (.act (some (.v 25, true)) (.als 26 none 2)) <|
    .st (.act (some (.v 25, true)) (.pget (some 27) (some 26) 2 5 none)) <|
    .st (.act (some (.v 25, true)) (.ex (some 28) (.call fn_impl_in [.v 27, .c (.int .i64 (-1)), .c (.int .i64 2)]))) K81_4
@[simp] def W81_5 := @Pl.wpe _ _ K81_5.eq_1
def K81_6 : Pl := .st (.act none (.px (some 19) (.pick (.v 13) (.v 18) (.c (.bool false))))) <|
    .st (.act none (.px (some 20) (.mv (.v 19)))) <|
    .st (.act (some (.v 20, true)) (.als 21 none 2)) <|
    .st (.act (some (.v 20, true)) (.pget (some 22) (some 21) 2 2 (some 3))) <|
    .st (.act (some (.v 20, true)) (.ex (some 23) (.call fn_impl_ExprValid [.v 22]))) K81_5
@[simp] def W81_6 := @Pl.wpe _ _ K81_6.eq_1
def K81_7 : Pl := .st (.act none (.px (some 12) (.pick (.v 6) (.v 11) (.c (.bool false))))) <|
    .st (.act none (.px (some 13) (.mv (.v 12)))) <|
    .st (.act (some (.v 13, true)) (.als 14 none 2)) <|
    .st (.act (some (.v 13, true)) (.pget (some 15) (some 14) 2 1 none)) <|
    .st (.act (some (.v 13, true)) (.px (some 16) (.mv (.v 1)))) <|
    .st (.act (some (.v 13, true)) (.px (some 17) (.bin .sub (.v 16) (.c (.int .i64 1))))) <|
    .st (.act (some (.v 13, true)) (.ex (some 18) (.call fn_impl_in [.v 15, .c (.int .i64 0), .v 17]))) K81_6
@[simp] def W81_7 := @Pl.wpe _ _ K81_7.eq_1
def K81_8 : Pl := .st (.act none (.px (some 6) (.mv (.v 5)))) <|
    .st (.act (some (.v 6, true)) (.als 7 none 2)) <|
    .st (.act (some (.v 6, true)) (.pget (some 8) (some 7) 2 0 none)) <|
    .st (.act (some (.v 6, true)) (.px (some 9) (.mv (.v 1)))) <|
    .st (.act (some (.v 6, true)) (.px (some 10) (.bin .sub (.v 9) (.c (.int .i64 1))))) <|
    .st (.act (some (.v 6, true)) (.ex (some 11) (.call fn_impl_in [.v 8, .c (.int .i64 0), .v 10]))) K81_7
@[simp] def W81_8 := @Pl.wpe _ _ K81_8.eq_1
def K81_9 : C := .seq (.pl <| .st (.ext 4 52) <|
    .st (.act none (.px (some 4) (.mv (.v 1)))) <|
    .st (.act none (.ex (some 5) (.call fn_impl_in [.v 4, .c (.int .i64 1), .c (.int .i64 4)]))) K81_8) (.ret)
@[simp] def W81_9 := @C.wpe _ _ K81_9.eq_1
def B_impl_EdgeValid : C := .seq (.pl <| .st (.ext 4 0) <|
    .st (.act none (.pnew 2 (.v 0) [])) <|
    .st (.act none (.px (some 3) (.mv (.c (.bool false))))) .done) K81_9
@[simp] def WB_impl_EdgeValid := @C.wpe _ _ B_impl_EdgeValid.eq_1
def R_impl_EdgeValid : FIR := ⟨B_impl_EdgeValid, 4, [(3, none)]⟩
theorem IR_impl_EdgeValid : cfun Tryz.prog H_impl_EdgeValid Tryz.f81 = some R_impl_EdgeValid := by kernel_rfl
theorem EN_impl_EdgeValid {args : List Value} {h : Heap} {k : Value → Heap → Prop} (hargs : args.length = 2) (hw : B_impl_EdgeValid.wp Tryz.prog (retQ [(3, none)] k) (env0 args 4) h) : CallE Tryz.prog fn_impl_EdgeValid args h k := enter Tryz.func81 rfl IR_impl_EdgeValid hargs hw

def H_impl_ExprNodes : Hint := ⟨[(0, false), (1, true), (2, false), (3, false)], []⟩
def K101_1 : C := .seq (.pl <| .st (.ext 4 1) <|
    .st (.act none (.ld (some 4) (.v 3) none)) <|
    .st (.act none (.px (some 2) (.mv (.v 4)))) .done) (.ret)
@[simp] def W101_1 := @C.wpe _ _ K101_1.eq_1
def K101_2 : C := .seq (.pl <| .st (.ext 4 0) <|
    .st (.act none (.px (some 2) (.mv (.c (.int .i64 0))))) .done) (.ret)
@[simp] def W101_2 := @C.wpe _ _ K101_2.eq_1
def K101_3 : C := .cond 4 (.v 6) K101_2 (.skip)
@[simp] def W101_3 := @C.wpe _ _ K101_3.eq_1
def K101_4 : Pl := .st (.act none (.px (some 6) (.un .not (.v 5)))) .done
@[simp] def W101_4 := @Pl.wpe _ _ K101_4.eq_1
def K101_5 : C := .seq (.seq (.pl <| .st (.ext 4 3) <|
    .st (.act none (.pget (some 4) none 1 0 (some 3))) <|
    .st (.act none (.ex (some 5) (.call fn_impl_Expr_walk [.v 4, .c (.int .i64 1), .v 3]))) K101_4) K101_3) K101_1
@[simp] def W101_5 := @C.wpe _ _ K101_5.eq_1
def K101_6 : Pl := .st (.act none (.ex none (.store 1 (.v 3) (.c (.int .i64 0))))) .done
@[simp] def W101_6 := @Pl.wpe _ _ K101_6.eq_1
def K101_7 : C := .seq (.pl <| .st (.ext 4 0) <|
    .st (.act none (.ex (some 3) (.alloc (.c (.int .i64 0))))) K101_6) K101_5
@[simp] def W101_7 := @C.wpe _ _ K101_7.eq_1
def B_impl_ExprNodes : C := .seq (.pl <| .st (.ext 4 0) <|
    .st (.act none (.pnew 1 (.v 0) [])) <|
    .st (.act none (.px (some 2) (.mv (.c (.int .i64 0))))) .done) K101_7
@[simp] def WB_impl_ExprNodes := @C.wpe _ _ B_impl_ExprNodes.eq_1
def R_impl_ExprNodes : FIR := ⟨B_impl_ExprNodes, 4, [(2, none)]⟩
theorem IR_impl_ExprNodes : cfun Tryz.prog H_impl_ExprNodes Tryz.f101 = some R_impl_ExprNodes := by kernel_rfl
theorem EN_impl_ExprNodes {args : List Value} {h : Heap} {k : Value → Heap → Prop} (hargs : args.length = 1) (hw : B_impl_ExprNodes.wp Tryz.prog (retQ [(2, none)] k) (env0 args 4) h) : CallE Tryz.prog fn_impl_ExprNodes args h k := enter Tryz.func101 rfl IR_impl_ExprNodes hargs hw

def H_impl_ExprSame : Hint := ⟨[(0, false), (1, false), (2, true), (3, true), (4, false)], []⟩
def K111_1 : Pl := .st (.act none (.px (some 23) (.pick (.v 17) (.v 22) (.c (.bool false))))) <|
    .st (.act none (.px (some 4) (.mv (.v 23)))) .done
@[simp] def W111_1 := @Pl.wpe _ _ K111_1.eq_1
def K111_2 : C := .seq (.pl <| .st (.ext 5 19) <|
    .st (.act none (.als 5 none 2)) <|
    .st (.act none (.pget (some 6) (some 5) 2 0 none)) <|
    .st (.act none (.als 7 none 3)) <|
    .st (.act none (.pget (some 8) (some 7) 3 0 none)) <|
    .st (.act none (.px (some 9) (.bin .eql (.v 6) (.v 8)))) <|
    .st (.act none (.px (some 10) (.mv (.v 9)))) <|
    .st (.act (some (.v 10, true)) (.als 11 none 2)) <|
    .st (.act (some (.v 10, true)) (.pget (some 12) (some 11) 2 1 none)) <|
    .st (.act (some (.v 10, true)) (.als 13 none 3)) <|
    .st (.act (some (.v 10, true)) (.pget (some 14) (some 13) 3 1 none)) <|
    .st (.act (some (.v 10, true)) (.px (some 15) (.bin .eql (.v 12) (.v 14)))) <|
    .st (.act none (.px (some 16) (.pick (.v 10) (.v 15) (.c (.bool false))))) <|
    .st (.act none (.px (some 17) (.mv (.v 16)))) <|
    .st (.act (some (.v 17, true)) (.als 18 none 2)) <|
    .st (.act (some (.v 17, true)) (.pget (some 19) (some 18) 2 2 none)) <|
    .st (.act (some (.v 17, true)) (.als 20 none 3)) <|
    .st (.act (some (.v 17, true)) (.pget (some 21) (some 20) 3 2 none)) <|
    .st (.act (some (.v 17, true)) (.ex (some 22) (.call fn_slices_EqualFunc_S_impl_Expr_S_impl_Expr_impl_Expr_impl_Expr [.v 19, .v 21, .c (.func (.func 111) #[] #[])]))) K111_1) (.ret)
@[simp] def W111_2 := @C.wpe _ _ K111_2.eq_1
def B_impl_ExprSame : C := .seq (.pl <| .st (.ext 5 0) <|
    .st (.act none (.pnew 2 (.v 0) [])) <|
    .st (.act none (.pnew 3 (.v 1) [])) <|
    .st (.act none (.px (some 4) (.mv (.c (.bool false))))) .done) K111_2
@[simp] def WB_impl_ExprSame := @C.wpe _ _ B_impl_ExprSame.eq_1
def R_impl_ExprSame : FIR := ⟨B_impl_ExprSame, 5, [(4, none)]⟩
theorem IR_impl_ExprSame : cfun Tryz.prog H_impl_ExprSame Tryz.f111 = some R_impl_ExprSame := by kernel_rfl
theorem EN_impl_ExprSame {args : List Value} {h : Heap} {k : Value → Heap → Prop} (hargs : args.length = 2) (hw : B_impl_ExprSame.wp Tryz.prog (retQ [(4, none)] k) (env0 args 5) h) : CallE Tryz.prog fn_impl_ExprSame args h k := enter Tryz.func111 rfl IR_impl_ExprSame hargs hw

def H_impl_ExprValid : Hint := ⟨[(0, false), (1, true), (2, false)], []⟩
def K59_1 : Pl := .st (.act none (.px (some 5) (.bin .gtr (.v 4) (.c (.int .i64 0))))) <|
    .st (.act none (.px (some 2) (.mv (.v 5)))) .done
@[simp] def W59_1 := @Pl.wpe _ _ K59_1.eq_1
def K59_2 : C := .seq (.pl <| .st (.ext 3 3) <|
    .st (.act none (.pget (some 3) none 1 0 (some 3))) <|
    .st (.act none (.ex (some 4) (.call fn_impl_ExprNodes [.v 3]))) K59_1) (.ret)
@[simp] def W59_2 := @C.wpe _ _ K59_2.eq_1
def B_impl_ExprValid : C := .seq (.pl <| .st (.ext 3 0) <|
    .st (.act none (.pnew 1 (.v 0) [])) <|
    .st (.act none (.px (some 2) (.mv (.c (.bool false))))) .done) K59_2
@[simp] def WB_impl_ExprValid := @C.wpe _ _ B_impl_ExprValid.eq_1
def R_impl_ExprValid : FIR := ⟨B_impl_ExprValid, 3, [(2, none)]⟩
theorem IR_impl_ExprValid : cfun Tryz.prog H_impl_ExprValid Tryz.f59 = some R_impl_ExprValid := by kernel_rfl
theorem EN_impl_ExprValid {args : List Value} {h : Heap} {k : Value → Heap → Prop} (hargs : args.length = 1) (hw : B_impl_ExprValid.wp Tryz.prog (retQ [(2, none)] k) (env0 args 3) h) : CallE Tryz.prog fn_impl_ExprValid args h k := enter Tryz.func59 rfl IR_impl_ExprValid hargs hw

def H_impl_Expr_eval : Hint := ⟨[(0, false), (1, false), (2, true), (4, false), (5, false), (6, false), (8, false), (39, false)], []⟩
def K61_1 : C := .seq (.pl <| .st (.ext 8 6) <|
    .st (.act none (.px (some 8) (.mv (.v 4)))) <|
    .st (.act none (.px (some 9) (.mv (.v 5)))) <|
    .st (.act none (.px (some 10) (.bin .sub (.v 8) (.v 9)))) <|
    .st (.act none (.px (some 11) (.bin .add (.v 10) (.c (.int .i64 3))))) <|
    .st (.act none (.px (some 12) (.bin .add (.v 11) (.c (.int .i64 1))))) <|
    .st (.act none (.px (some 13) (.bin .rem (.v 12) (.c (.int .i64 4))))) <|
    .st (.act none (.px (some 3) (.mv (.v 13)))) .done) (.ret)
@[simp] def W61_1 := @C.wpe _ _ K61_1.eq_1
def K61_2 : Pl := .st (.act none (.px (some 3) (.mv (.v 14)))) .done
@[simp] def W61_2 := @Pl.wpe _ _ K61_2.eq_1
def K61_3 : C := .seq (.pl <| .st (.ext 8 7) <|
    .st (.act none (.px (some 8) (.mv (.v 4)))) <|
    .st (.act none (.px (some 9) (.bin .neq (.v 8) (.c (.int .i64 0))))) <|
    .st (.act none (.px (some 10) (.mv (.v 9)))) <|
    .st (.act (some (.v 10, true)) (.px (some 11) (.mv (.v 5)))) <|
    .st (.act (some (.v 10, true)) (.px (some 12) (.bin .neq (.v 11) (.c (.int .i64 0))))) <|
    .st (.act none (.px (some 13) (.pick (.v 10) (.v 12) (.c (.bool false))))) <|
    .st (.act none (.ex (some 14) (.call fn_impl_truth [.v 13]))) K61_2) (.ret)
@[simp] def W61_3 := @C.wpe _ _ K61_3.eq_1
def K61_4 : Pl := .st (.act none (.px (some 3) (.mv (.v 14)))) .done
@[simp] def W61_4 := @Pl.wpe _ _ K61_4.eq_1
def K61_5 : C := .seq (.pl <| .st (.ext 8 7) <|
    .st (.act none (.px (some 8) (.mv (.v 4)))) <|
    .st (.act none (.px (some 9) (.bin .neq (.v 8) (.c (.int .i64 0))))) <|
    .st (.act none (.px (some 10) (.mv (.v 9)))) <|
    .st (.act (some (.v 10, false)) (.px (some 11) (.mv (.v 5)))) <|
    .st (.act (some (.v 10, false)) (.px (some 12) (.bin .neq (.v 11) (.c (.int .i64 0))))) <|
    .st (.act none (.px (some 13) (.pick (.v 10) (.c (.bool true)) (.v 12)))) <|
    .st (.act none (.ex (some 14) (.call fn_impl_truth [.v 13]))) K61_4) (.ret)
@[simp] def W61_5 := @C.wpe _ _ K61_5.eq_1
def K61_6 : Pl := .st (.act none (.px (some 3) (.mv (.v 11)))) .done
@[simp] def W61_6 := @Pl.wpe _ _ K61_6.eq_1
def K61_7 : C := .seq (.pl <| .st (.ext 8 4) <|
    .st (.act none (.px (some 8) (.mv (.v 4)))) <|
    .st (.act none (.px (some 9) (.mv (.v 5)))) <|
    .st (.act none (.px (some 10) (.bin .eql (.v 8) (.v 9)))) <|
    .st (.act none (.ex (some 11) (.call fn_impl_truth [.v 10]))) K61_6) (.ret)
@[simp] def W61_7 := @C.wpe _ _ K61_7.eq_1
def K61_8 : Pl := .st (.act none (.px (some 3) (.mv (.v 11)))) .done
@[simp] def W61_8 := @Pl.wpe _ _ K61_8.eq_1
def K61_9 : C := .seq (.pl <| .st (.ext 8 4) <|
    .st (.act none (.px (some 8) (.mv (.v 4)))) <|
    .st (.act none (.px (some 9) (.mv (.v 5)))) <|
    .st (.act none (.px (some 10) (.bin .lss (.v 8) (.v 9)))) <|
    .st (.act none (.ex (some 11) (.call fn_impl_truth [.v 10]))) K61_8) (.ret)
@[simp] def W61_9 := @C.wpe _ _ K61_9.eq_1
def K61_10 : C := .seq (.pl <| .st (.ext 8 4) <|
    .st (.act none (.px (some 8) (.mv (.v 4)))) <|
    .st (.act none (.px (some 9) (.mv (.v 5)))) <|
    .st (.act none (.px (some 10) (.bin .add (.v 8) (.v 9)))) <|
    .st (.act none (.px (some 11) (.bin .rem (.v 10) (.c (.int .i64 4))))) <|
    .st (.act none (.px (some 3) (.mv (.v 11)))) .done) (.ret)
@[simp] def W61_10 := @C.wpe _ _ K61_10.eq_1
def K61_11 : C := .cond 8 (.v 9) K61_10 (.skip)
@[simp] def W61_11 := @C.wpe _ _ K61_11.eq_1
def K61_12 : C := .seq (.pl <| .st (.ext 8 2) <|
    .st (.act none (.px (some 8) (.bin .eql (.v 7) (.c (.int .i64 8))))) <|
    .st (.act none (.px (some 9) (.mv (.v 8)))) .done) K61_11
@[simp] def W61_12 := @C.wpe _ _ K61_12.eq_1
def K61_13 : C := .cond 8 (.v 9) K61_9 K61_12
@[simp] def W61_13 := @C.wpe _ _ K61_13.eq_1
def K61_14 : C := .seq (.pl <| .st (.ext 8 2) <|
    .st (.act none (.px (some 8) (.bin .eql (.v 7) (.c (.int .i64 7))))) <|
    .st (.act none (.px (some 9) (.mv (.v 8)))) .done) K61_13
@[simp] def W61_14 := @C.wpe _ _ K61_14.eq_1
def K61_15 : C := .cond 8 (.v 9) K61_7 K61_14
@[simp] def W61_15 := @C.wpe _ _ K61_15.eq_1
def K61_16 : C := .seq (.pl <| .st (.ext 8 2) <|
    .st (.act none (.px (some 8) (.bin .eql (.v 7) (.c (.int .i64 6))))) <|
    .st (.act none (.px (some 9) (.mv (.v 8)))) .done) K61_15
@[simp] def W61_16 := @C.wpe _ _ K61_16.eq_1
def K61_17 : C := .cond 8 (.v 9) K61_5 K61_16
@[simp] def W61_17 := @C.wpe _ _ K61_17.eq_1
def K61_18 : C := .seq (.pl <| .st (.ext 8 2) <|
    .st (.act none (.px (some 8) (.bin .eql (.v 7) (.c (.int .i64 5))))) <|
    .st (.act none (.px (some 9) (.mv (.v 8)))) .done) K61_17
@[simp] def W61_18 := @C.wpe _ _ K61_18.eq_1
def K61_19 : C := .cond 8 (.v 9) K61_3 K61_18
@[simp] def W61_19 := @C.wpe _ _ K61_19.eq_1
def K61_20 : C := .block 1 (.seq (.pl <| .st (.ext 8 2) <|
    .st (.act none (.px (some 8) (.bin .eql (.v 7) (.c (.int .i64 4))))) <|
    .st (.act none (.px (some 9) (.mv (.v 8)))) .done) K61_19)
@[simp] def W61_20 := @C.wpe _ _ K61_20.eq_1
def K61_21 : C := .seq (.seq (.pl <| .st (.ext 8 1) <|
    .st (.act none (.als 8 none 2)) <|
    .st (.act none (.pget (some 7) (some 8) 2 0 none)) .done) K61_20) K61_1
@[simp] def W61_21 := @C.wpe _ _ K61_21.eq_1
def K61_22 : Pl := .st (.act none (.px (some 5) (.mv (.v 13)))) .done
@[simp] def W61_22 := @Pl.wpe _ _ K61_22.eq_1
def K61_23 : C := .seq (.pl <| .st (.ext 8 6) <|
    .st (.act none (.als 8 none 2)) <|
    .st (.act none (.pget (some 9) (some 8) 2 2 none)) <|
    .st (.act none (.px (some 10) (.ia 3 (.v 9) (.c (.int .i64 1))))) <|
    .st (.act none (.ld (some 11) (.v 10) (some 3))) <|
    .st (.act none (.px (some 12) (.mv (.v 1)))) <|
    .st (.act none (.ex (some 13) (.call fn_impl_Expr_eval [.v 11, .v 12]))) K61_22) K61_21
@[simp] def W61_23 := @C.wpe _ _ K61_23.eq_1
def K61_24 : Pl := .st (.act none (.px (some 3) (.mv (.v 10)))) .done
@[simp] def W61_24 := @Pl.wpe _ _ K61_24.eq_1
def K61_25 : C := .seq (.pl <| .st (.ext 8 3) <|
    .st (.act none (.px (some 8) (.mv (.v 4)))) <|
    .st (.act none (.px (some 9) (.bin .eql (.v 8) (.c (.int .i64 0))))) <|
    .st (.act none (.ex (some 10) (.call fn_impl_truth [.v 9]))) K61_24) (.ret)
@[simp] def W61_25 := @C.wpe _ _ K61_25.eq_1
def K61_26 : C := .cond 8 (.v 10) K61_25 (.skip)
@[simp] def W61_26 := @C.wpe _ _ K61_26.eq_1
def K61_27 : C := .seq (.seq (.pl <| .st (.ext 8 3) <|
    .st (.act none (.als 8 none 2)) <|
    .st (.act none (.pget (some 9) (some 8) 2 0 none)) <|
    .st (.act none (.px (some 10) (.bin .eql (.v 9) (.c (.int .i64 3))))) .done) K61_26) K61_23
@[simp] def W61_27 := @C.wpe _ _ K61_27.eq_1
def K61_28 : Pl := .st (.act none (.px (some 4) (.mv (.v 13)))) .done
@[simp] def W61_28 := @Pl.wpe _ _ K61_28.eq_1
def K61_29 : C := .seq (.pl <| .st (.ext 8 6) <|
    .st (.act none (.als 8 none 2)) <|
    .st (.act none (.pget (some 9) (some 8) 2 2 none)) <|
    .st (.act none (.px (some 10) (.ia 3 (.v 9) (.c (.int .i64 0))))) <|
    .st (.act none (.ld (some 11) (.v 10) (some 3))) <|
    .st (.act none (.px (some 12) (.mv (.v 1)))) <|
    .st (.act none (.ex (some 13) (.call fn_impl_Expr_eval [.v 11, .v 12]))) K61_28) K61_27
@[simp] def W61_29 := @C.wpe _ _ K61_29.eq_1
def K61_30 : C := .seq (.pl <| .st (.ext 8 2) <|
    .st (.act none (.als 8 none 2)) <|
    .st (.act none (.pget (some 9) (some 8) 2 1 none)) <|
    .st (.act none (.px (some 3) (.mv (.v 9)))) .done) (.ret)
@[simp] def W61_30 := @C.wpe _ _ K61_30.eq_1
def K61_31 : C := .seq (.pl <| .st (.ext 8 5) <|
    .st (.act none (.px (some 8) (.mv (.v 1)))) <|
    .st (.act none (.als 9 none 2)) <|
    .st (.act none (.pget (some 10) (some 9) 2 1 none)) <|
    .st (.act none (.px (some 11) (.ia 1 (.v 8) (.v 10)))) <|
    .st (.act none (.ld (some 12) (.v 11) none)) <|
    .st (.act none (.px (some 3) (.mv (.v 12)))) .done) (.ret)
@[simp] def W61_31 := @C.wpe _ _ K61_31.eq_1
def K61_32 : C := .cond 8 (.v 9) K61_31 (.skip)
@[simp] def W61_32 := @C.wpe _ _ K61_32.eq_1
def K61_33 : C := .seq (.pl <| .st (.ext 8 2) <|
    .st (.act none (.px (some 8) (.bin .eql (.v 6) (.c (.int .i64 2))))) <|
    .st (.act none (.px (some 9) (.mv (.v 8)))) .done) K61_32
@[simp] def W61_33 := @C.wpe _ _ K61_33.eq_1
def K61_34 : C := .cond 8 (.v 9) K61_30 K61_33
@[simp] def W61_34 := @C.wpe _ _ K61_34.eq_1
def K61_35 : C := .block 0 (.seq (.pl <| .st (.ext 8 2) <|
    .st (.act none (.px (some 8) (.bin .eql (.v 6) (.c (.int .i64 1))))) <|
    .st (.act none (.px (some 9) (.mv (.v 8)))) .done) K61_34)
@[simp] def W61_35 := @C.wpe _ _ K61_35.eq_1
def K61_36 : C := .seq (.seq (.pl <| .st (.ext 8 1) <|
    .st (.act none (.als 8 none 2)) <|
    .st (.act none (.pget (some 6) (some 8) 2 0 none)) .done) K61_35) K61_29
@[simp] def W61_36 := @C.wpe _ _ K61_36.eq_1
def B_impl_Expr_eval : C := .seq (.pl <| .st (.ext 8 0) <|
    .st (.act none (.pnew 2 (.v 0) [])) <|
    .st (.act none (.px (some 3) (.mv (.c (.int .i64 0))))) .done) K61_36
@[simp] def WB_impl_Expr_eval := @C.wpe _ _ B_impl_Expr_eval.eq_1
def R_impl_Expr_eval : FIR := ⟨B_impl_Expr_eval, 8, [(3, none)]⟩
theorem IR_impl_Expr_eval : cfun Tryz.prog H_impl_Expr_eval Tryz.f61 = some R_impl_Expr_eval := by kernel_rfl
theorem EN_impl_Expr_eval {args : List Value} {h : Heap} {k : Value → Heap → Prop} (hargs : args.length = 2) (hw : B_impl_Expr_eval.wp Tryz.prog (retQ [(3, none)] k) (env0 args 8) h) : CallE Tryz.prog fn_impl_Expr_eval args h k := enter Tryz.func61 rfl IR_impl_Expr_eval hargs hw

def H_impl_Expr_walk : Hint := ⟨[(0, false), (1, false), (2, false), (3, true), (4, false), (5, false), (6, false), (7, false), (8, false), (15, false)], []⟩
def K121_1 : Pl := .st (.act none (.px (some 14) (.un .not (.v 13)))) <|
    .st (.act none (.px (some 6) (.mv (.v 14)))) .done
@[simp] def W121_1 := @Pl.wpe _ _ K121_1.eq_1
def K121_2 : C := .seq (.pl <| .st (.ext 10 5) <|
    .st (.act none (.als 10 none 3)) <|
    .st (.act none (.pget (some 11) (some 10) 3 2 none)) <|
    .st (.act none (.px (some 12) (.mkf (.func fn_impl_Expr_walk_1) [] [.v 4, .v 5]))) <|
    .st (.act none (.ex (some 13) (.call fn_slices_ContainsFunc_S_impl_Expr_impl_Expr [.v 11, .v 12]))) K121_1) (.ret)
@[simp] def W121_2 := @C.wpe _ _ K121_2.eq_1
def K121_3 : C := .seq (.pl <| .st (.ext 10 0) <|
    .st (.act none (.px (some 6) (.mv (.c (.bool false))))) .done) (.ret)
@[simp] def W121_3 := @C.wpe _ _ K121_3.eq_1
def K121_4 : C := .cond 10 (.v 37) K121_3 (.skip)
@[simp] def W121_4 := @C.wpe _ _ K121_4.eq_1
def K121_5 : Pl := .st (.act (some (.v 24, false)) (.px (some 29) (.un .not (.v 28)))) <|
    .st (.act none (.px (some 30) (.pick (.v 24) (.c (.bool true)) (.v 29)))) <|
    .st (.act none (.px (some 31) (.mv (.v 30)))) <|
    .st (.act (some (.v 31, false)) (.als 32 none 3)) <|
    .st (.act (some (.v 31, false)) (.pget (some 33) (some 32) 3 2 none)) <|
    .st (.act (some (.v 31, false)) (.px (some 34) (.lenV (.v 33)))) <|
    .st (.act (some (.v 31, false)) (.px (some 35) (.mv (.v 7)))) <|
    .st (.act (some (.v 31, false)) (.px (some 36) (.bin .neq (.v 34) (.v 35)))) <|
    .st (.act none (.px (some 37) (.pick (.v 31) (.c (.bool true)) (.v 36)))) .done
@[simp] def W121_5 := @Pl.wpe _ _ K121_5.eq_1
def K121_6 : Pl := .st (.act (some (.v 18, false)) (.px (some 22) (.un .not (.v 21)))) <|
    .st (.act none (.px (some 23) (.pick (.v 18) (.c (.bool true)) (.v 22)))) <|
    .st (.act none (.px (some 24) (.mv (.v 23)))) <|
    .st (.act (some (.v 24, false)) (.als 25 none 3)) <|
    .st (.act (some (.v 24, false)) (.pget (some 26) (some 25) 3 1 none)) <|
    .st (.act (some (.v 24, false)) (.px (some 27) (.mv (.v 8)))) <|
    .st (.act (some (.v 24, false)) (.ex (some 28) (.call fn_impl_in [.v 26, .c (.int .i64 0), .v 27]))) K121_5
@[simp] def W121_6 := @Pl.wpe _ _ K121_6.eq_1
def K121_7 : C := .seq (.seq (.pl <| .st (.ext 10 28) <|
    .st (.act none (.ld (some 10) (.v 4) none)) <|
    .st (.act none (.px (some 11) (.bin .gtr (.v 10) (.c (.int .i64 6))))) <|
    .st (.act none (.px (some 12) (.mv (.v 11)))) <|
    .st (.act (some (.v 12, false)) (.ld (some 13) (.v 5) none)) <|
    .st (.act (some (.v 12, false)) (.px (some 14) (.nilc (.v 13)))) <|
    .st (.act (some (.v 12, false)) (.ld (some 15) (.v 14) none)) <|
    .st (.act (some (.v 12, false)) (.px (some 16) (.bin .gtr (.v 15) (.c (.int .i64 15))))) <|
    .st (.act none (.px (some 17) (.pick (.v 12) (.c (.bool true)) (.v 16)))) <|
    .st (.act none (.px (some 18) (.mv (.v 17)))) <|
    .st (.act (some (.v 18, false)) (.als 19 none 3)) <|
    .st (.act (some (.v 18, false)) (.pget (some 20) (some 19) 3 0 none)) <|
    .st (.act (some (.v 18, false)) (.ex (some 21) (.call fn_impl_in [.v 20, .c (.int .i64 1), .c (.int .i64 9)]))) K121_6) K121_4) K121_2
@[simp] def W121_7 := @C.wpe _ _ K121_7.eq_1
def K121_8 : C := .pl <| .st (.ext 10 0) <|
    .st (.act none (.px (some 7) (.mv (.c (.int .i64 0))))) <|
    .st (.act none (.px (some 8) (.mv (.c (.int .i64 3))))) .done
@[simp] def W121_8 := @C.wpe _ _ K121_8.eq_1
def K121_9 : C := .pl <| .st (.ext 10 0) <|
    .st (.act none (.px (some 7) (.mv (.c (.int .i64 0))))) <|
    .st (.act none (.px (some 8) (.mv (.c (.int .i64 2))))) .done
@[simp] def W121_9 := @C.wpe _ _ K121_9.eq_1
def K121_10 : C := .pl <| .st (.ext 10 0) <|
    .st (.act none (.px (some 7) (.mv (.c (.int .i64 1))))) .done
@[simp] def W121_10 := @C.wpe _ _ K121_10.eq_1
def K121_11 : C := .cond 10 (.v 11) K121_10 (.skip)
@[simp] def W121_11 := @C.wpe _ _ K121_11.eq_1
def K121_12 : C := .seq (.pl <| .st (.ext 10 2) <|
    .st (.act none (.px (some 10) (.bin .eql (.v 9) (.c (.int .i64 3))))) <|
    .st (.act none (.px (some 11) (.mv (.v 10)))) .done) K121_11
@[simp] def W121_12 := @C.wpe _ _ K121_12.eq_1
def K121_13 : C := .cond 10 (.v 11) K121_9 K121_12
@[simp] def W121_13 := @C.wpe _ _ K121_13.eq_1
def K121_14 : C := .seq (.pl <| .st (.ext 10 2) <|
    .st (.act none (.px (some 10) (.bin .eql (.v 9) (.c (.int .i64 2))))) <|
    .st (.act none (.px (some 11) (.mv (.v 10)))) .done) K121_13
@[simp] def W121_14 := @C.wpe _ _ K121_14.eq_1
def K121_15 : C := .cond 10 (.v 11) K121_8 K121_14
@[simp] def W121_15 := @C.wpe _ _ K121_15.eq_1
def K121_16 : C := .block 0 (.seq (.pl <| .st (.ext 10 2) <|
    .st (.act none (.px (some 10) (.bin .eql (.v 9) (.c (.int .i64 1))))) <|
    .st (.act none (.px (some 11) (.mv (.v 10)))) .done) K121_15)
@[simp] def W121_16 := @C.wpe _ _ K121_16.eq_1
def K121_17 : C := .seq (.seq (.pl <| .st (.ext 10 1) <|
    .st (.act none (.als 10 none 3)) <|
    .st (.act none (.pget (some 9) (some 10) 3 0 none)) .done) K121_16) K121_7
@[simp] def W121_17 := @C.wpe _ _ K121_17.eq_1
def K121_18 : C := .seq (.pl <| .st (.ext 10 0) <|
    .st (.act none (.px (some 7) (.mv (.c (.int .i64 2))))) <|
    .st (.act none (.px (some 8) (.mv (.c (.int .i64 0))))) .done) K121_17
@[simp] def W121_18 := @C.wpe _ _ K121_18.eq_1
def K121_19 : C := .seq (.pl <| .st (.ext 10 5) <|
    .st (.act none (.ld (some 10) (.v 5) none)) <|
    .st (.act none (.px (some 11) (.nilc (.v 10)))) <|
    .st (.act none (.ld (some 12) (.v 11) none)) <|
    .st (.act none (.px (some 13) (.bin .add (.v 12) (.c (.int .i64 1))))) <|
    .st (.act none (.px (some 14) (.nilc (.v 10)))) <|
    .st (.act none (.ex none (.store 1 (.v 14) (.v 13)))) .done) K121_18
@[simp] def W121_19 := @C.wpe _ _ K121_19.eq_1
def K121_20 : Pl := .st (.act none (.px (some 6) (.mv (.c (.bool false))))) .done
@[simp] def W121_20 := @Pl.wpe _ _ K121_20.eq_1
def K121_21 : Pl := .st (.act none (.ex (some 5) (.alloc (.v 2)))) K121_20
@[simp] def W121_21 := @Pl.wpe _ _ K121_21.eq_1
def B_impl_Expr_walk : C := .seq (.pl <| .st (.ext 10 0) <|
    .st (.act none (.pnew 3 (.v 0) [])) <|
    .st (.act none (.ex (some 4) (.alloc (.v 1)))) K121_21) K121_19
@[simp] def WB_impl_Expr_walk := @C.wpe _ _ B_impl_Expr_walk.eq_1
def R_impl_Expr_walk : FIR := ⟨B_impl_Expr_walk, 10, [(6, none)]⟩
theorem IR_impl_Expr_walk : cfun Tryz.prog H_impl_Expr_walk Tryz.f121 = some R_impl_Expr_walk := by kernel_rfl
theorem EN_impl_Expr_walk {args : List Value} {h : Heap} {k : Value → Heap → Prop} (hargs : args.length = 3) (hw : B_impl_Expr_walk.wp Tryz.prog (retQ [(6, none)] k) (env0 args 10) h) : CallE Tryz.prog fn_impl_Expr_walk args h k := enter Tryz.func121 rfl IR_impl_Expr_walk hargs hw

def H_impl_Expr_walk_1 : Hint := ⟨[(0, false), (1, false), (2, false), (3, true), (4, false)], []⟩
def K131_1 : Pl := .st (.act none (.px (some 10) (.un .not (.v 9)))) <|
    .st (.act none (.px (some 4) (.mv (.v 10)))) .done
@[simp] def W131_1 := @Pl.wpe _ _ K131_1.eq_1
def K131_2 : C := .seq (.pl <| .st (.ext 5 6) <|
    .st (.act none (.pget (some 5) none 3 0 (some 3))) <|
    .st (.act none (.ld (some 6) (.v 1) none)) <|
    .st (.act none (.px (some 7) (.bin .add (.v 6) (.c (.int .i64 1))))) <|
    .st (.act none (.ld (some 8) (.v 2) none)) <|
    .st (.act none (.ex (some 9) (.call fn_impl_Expr_walk [.v 5, .v 7, .v 8]))) K131_1) (.ret)
@[simp] def W131_2 := @C.wpe _ _ K131_2.eq_1
def B_impl_Expr_walk_1 : C := .seq (.pl <| .st (.ext 5 0) <|
    .st (.act none (.pnew 3 (.v 0) [])) <|
    .st (.act none (.px (some 4) (.mv (.c (.bool false))))) .done) K131_2
@[simp] def WB_impl_Expr_walk_1 := @C.wpe _ _ B_impl_Expr_walk_1.eq_1
def R_impl_Expr_walk_1 : FIR := ⟨B_impl_Expr_walk_1, 5, [(4, none)]⟩
theorem IR_impl_Expr_walk_1 : cfun Tryz.prog H_impl_Expr_walk_1 Tryz.f131 = some R_impl_Expr_walk_1 := by kernel_rfl
theorem EN_impl_Expr_walk_1 {args : List Value} {h : Heap} {k : Value → Heap → Prop} (hargs : args.length = 3) (hw : B_impl_Expr_walk_1.wp Tryz.prog (retQ [(4, none)] k) (env0 args 5) h) : CallE Tryz.prog fn_impl_Expr_walk_1 args h k := enter Tryz.func131 rfl IR_impl_Expr_walk_1 hargs hw

def H_impl_StateSame : Hint := ⟨[(0, false), (1, false), (2, true), (3, true), (4, false)], []⟩
def K86_1 : Pl := .st (.act none (.px (some 16) (.pick (.v 10) (.v 15) (.c (.bool false))))) <|
    .st (.act none (.px (some 4) (.mv (.v 16)))) .done
@[simp] def W86_1 := @Pl.wpe _ _ K86_1.eq_1
def K86_2 : Pl := .st (.act none (.px (some 10) (.mv (.v 9)))) <|
    .st (.act (some (.v 10, true)) (.als 11 none 2)) <|
    .st (.act (some (.v 10, true)) (.pget (some 12) (some 11) 2 1 none)) <|
    .st (.act (some (.v 10, true)) (.als 13 none 3)) <|
    .st (.act (some (.v 10, true)) (.pget (some 14) (some 13) 3 1 none)) <|
    .st (.act (some (.v 10, true)) (.ex (some 15) (.call fn_slices_Equal_S_int_int [.v 12, .v 14]))) K86_1
@[simp] def W86_2 := @Pl.wpe _ _ K86_2.eq_1
def K86_3 : C := .seq (.pl <| .st (.ext 5 12) <|
    .st (.act none (.als 5 none 2)) <|
    .st (.act none (.pget (some 6) (some 5) 2 0 none)) <|
    .st (.act none (.als 7 none 3)) <|
    .st (.act none (.pget (some 8) (some 7) 3 0 none)) <|
    .st (.act none (.ex (some 9) (.call fn_slices_Equal_S_int_int [.v 6, .v 8]))) K86_2) (.ret)
@[simp] def W86_3 := @C.wpe _ _ K86_3.eq_1
def B_impl_StateSame : C := .seq (.pl <| .st (.ext 5 0) <|
    .st (.act none (.pnew 2 (.v 0) [])) <|
    .st (.act none (.pnew 3 (.v 1) [])) <|
    .st (.act none (.px (some 4) (.mv (.c (.bool false))))) .done) K86_3
@[simp] def WB_impl_StateSame := @C.wpe _ _ B_impl_StateSame.eq_1
def R_impl_StateSame : FIR := ⟨B_impl_StateSame, 5, [(4, none)]⟩
theorem IR_impl_StateSame : cfun Tryz.prog H_impl_StateSame Tryz.f86 = some R_impl_StateSame := by kernel_rfl
theorem EN_impl_StateSame {args : List Value} {h : Heap} {k : Value → Heap → Prop} (hargs : args.length = 2) (hw : B_impl_StateSame.wp Tryz.prog (retQ [(4, none)] k) (env0 args 5) h) : CallE Tryz.prog fn_impl_StateSame args h k := enter Tryz.func86 rfl IR_impl_StateSame hargs hw

def H_impl_State_copyOf : Hint := ⟨[(0, false), (1, true), (2, true)], []⟩
def K113_1 : Pl := .st (.act none (.px (some 9) (.build [.slice none 0 0, .slice none 0 0] [(0, 1, .v 5), (1, 1, .v 8)]))) <|
    .st (.act none (.pset none 2 0 2 (.v 9))) .done
@[simp] def W113_1 := @Pl.wpe _ _ K113_1.eq_1
def K113_2 : Pl := .st (.act none (.ex (some 8) (.call fn_impl_clone_int [.v 7]))) K113_1
@[simp] def W113_2 := @Pl.wpe _ _ K113_2.eq_1
def K113_3 : C := .seq (.pl <| .st (.ext 3 7) <|
    .st (.act none (.als 3 none 1)) <|
    .st (.act none (.pget (some 4) (some 3) 1 0 none)) <|
    .st (.act none (.als 6 none 1)) <|
    .st (.act none (.pget (some 7) (some 6) 1 1 none)) <|
    .st (.act none (.ex (some 5) (.call fn_impl_clone_int [.v 4]))) K113_2) (.ret)
@[simp] def W113_3 := @C.wpe _ _ K113_3.eq_1
def B_impl_State_copyOf : C := .seq (.pl <| .st (.ext 3 0) <|
    .st (.act none (.pnew 1 (.v 0) [])) <|
    .st (.act none (.pnew 2 (.c (.agg #[.slice none 0 0, .slice none 0 0])) [])) .done) K113_3
@[simp] def WB_impl_State_copyOf := @C.wpe _ _ B_impl_State_copyOf.eq_1
def R_impl_State_copyOf : FIR := ⟨B_impl_State_copyOf, 3, [(2, some (some 2))]⟩
theorem IR_impl_State_copyOf : cfun Tryz.prog H_impl_State_copyOf Tryz.f113 = some R_impl_State_copyOf := by kernel_rfl
theorem EN_impl_State_copyOf {args : List Value} {h : Heap} {k : Value → Heap → Prop} (hargs : args.length = 1) (hw : B_impl_State_copyOf.wp Tryz.prog (retQ [(2, some (some 2))] k) (env0 args 3) h) : CallE Tryz.prog fn_impl_State_copyOf args h k := enter Tryz.func113 rfl IR_impl_State_copyOf hargs hw

def H_impl_State_take : Hint := ⟨[(0, false), (1, false), (2, false), (3, true), (5, true)], []⟩
def K114_1 : Pl := .st (.act none (.px (some 14) (.ia 1 (.v 6) (.v 8)))) <|
    .st (.act none (.ex none (.store 1 (.v 14) (.v 13)))) .done
@[simp] def W114_1 := @Pl.wpe _ _ K114_1.eq_1
def K114_2 : C := .pl <| .st (.ext 5 10) <|
    .st (.act none (.als 5 none 3)) <|
    .st (.act none (.pget (some 6) (some 5) 3 1 none)) <|
    .st (.act none (.als 7 none 4)) <|
    .st (.act none (.pget (some 8) (some 7) 4 5 none)) <|
    .st (.act none (.als 9 none 4)) <|
    .st (.act none (.pget (some 10) (some 9) 4 6 (some 3))) <|
    .st (.act none (.als 11 none 3)) <|
    .st (.act none (.pget (some 12) (some 11) 3 1 none)) <|
    .st (.act none (.ex (some 13) (.call fn_impl_Expr_eval [.v 10, .v 12]))) K114_1
@[simp] def W114_2 := @C.wpe _ _ K114_2.eq_1
def K114_3 : C := .cond 5 (.v 7) K114_2 (.skip)
@[simp] def W114_3 := @C.wpe _ _ K114_3.eq_1
def K114_4 : C := .seq (.pl <| .st (.ext 5 3) <|
    .st (.act none (.als 5 none 4)) <|
    .st (.act none (.pget (some 6) (some 5) 4 5 none)) <|
    .st (.act none (.px (some 7) (.bin .geq (.v 6) (.c (.int .i64 0))))) .done) K114_3
@[simp] def W114_4 := @C.wpe _ _ K114_4.eq_1
def K114_5 : C := .seq (.pl <| .st (.ext 5 6) <|
    .st (.act none (.als 5 none 3)) <|
    .st (.act none (.pget (some 6) (some 5) 3 0 none)) <|
    .st (.act none (.px (some 7) (.mv (.v 1)))) <|
    .st (.act none (.als 8 none 4)) <|
    .st (.act none (.pget (some 9) (some 8) 4 1 none)) <|
    .st (.act none (.px (some 10) (.ia 1 (.v 6) (.v 7)))) <|
    .st (.act none (.ex none (.store 1 (.v 10) (.v 9)))) .done) K114_4
@[simp] def W114_5 := @C.wpe _ _ K114_5.eq_1
def B_impl_State_take : C := .seq (.pl <| .st (.ext 5 0) <|
    .st (.act none (.pnew 3 (.v 0) [])) <|
    .st (.act none (.pnew 4 (.v 2) [])) .done) K114_5
@[simp] def WB_impl_State_take := @C.wpe _ _ B_impl_State_take.eq_1
def R_impl_State_take : FIR := ⟨B_impl_State_take, 5, []⟩
theorem IR_impl_State_take : cfun Tryz.prog H_impl_State_take Tryz.f114 = some R_impl_State_take := by kernel_rfl
theorem EN_impl_State_take {args : List Value} {h : Heap} {k : Value → Heap → Prop} (hargs : args.length = 3) (hw : B_impl_State_take.wp Tryz.prog (retQ [] k) (env0 args 5) h) : CallE Tryz.prog fn_impl_State_take args h k := enter Tryz.func114 rfl IR_impl_State_take hargs hw

def H_impl_SystemValid : Hint := ⟨[(0, false), (1, true), (2, false), (4, false), (17, false), (18, false), (19, false)], [[0, 1, 2, 3]]⟩
def K47_1 : C := .seq (.pl <| .st (.ext 7 0) <|
    .st (.act none (.px (some 2) (.mv (.c (.bool true))))) .done) (.ret)
@[simp] def W47_1 := @C.wpe _ _ K47_1.eq_1
def K47_2 : C := .pl <| .st (.ext 7 1) <|
    .st (.act none (.px (some 7) (.bin .add (.v 6) (.c (.int .i64 1))))) <|
    .st (.act none (.px (some 6) (.mv (.v 7)))) .done
@[simp] def W47_2 := @C.wpe _ _ K47_2.eq_1
def K47_3 : C := .seq (.pl <| .st (.ext 7 0) <|
    .st (.act none (.px (some 2) (.mv (.c (.bool false))))) .done) (.ret)
@[simp] def W47_3 := @C.wpe _ _ K47_3.eq_1
def K47_4 : C := .cond 7 (.v 22) K47_3 (.skip)
@[simp] def W47_4 := @C.wpe _ _ K47_4.eq_1
def K47_5 : Pl := .st (.act none (.px (some 22) (.pick (.v 17) (.c (.bool true)) (.v 21)))) .done
@[simp] def W47_5 := @Pl.wpe _ _ K47_5.eq_1
def K47_6 : Pl := .st (.act none (.px (some 10) (.un .not (.v 9)))) <|
    .st (.act none (.px (some 11) (.mv (.v 10)))) <|
    .st (.act (some (.v 11, false)) (.px (some 12) (.fa 1 (.v 3)))) <|
    .st (.act (some (.v 11, false)) (.ld (some 13) (.v 12) none)) <|
    .st (.act (some (.v 11, false)) (.px (some 14) (.lenV (.v 13)))) <|
    .st (.act (some (.v 11, false)) (.px (some 15) (.bin .gtr (.v 14) (.c (.int .i64 6))))) <|
    .st (.act none (.px (some 16) (.pick (.v 11) (.c (.bool true)) (.v 15)))) <|
    .st (.act none (.px (some 17) (.mv (.v 16)))) <|
    .st (.act (some (.v 17, false)) (.px (some 18) (.fa 1 (.v 3)))) <|
    .st (.act (some (.v 17, false)) (.ld (some 19) (.v 18) none)) <|
    .st (.act (some (.v 17, false)) (.px (some 20) (.mkf (.func fn_impl_SystemValid_1) [] [.v 3]))) <|
    .st (.act (some (.v 17, false)) (.ex (some 21) (.call fn_slices_ContainsFunc_S_impl_Edge_impl_Edge [.v 19, .v 20]))) K47_5
@[simp] def W47_6 := @Pl.wpe _ _ K47_6.eq_1
def K47_7 : C := .seq (.pl <| .st (.ext 7 16) <|
    .st (.act none (.px (some 7) (.fa 0 (.v 3)))) <|
    .st (.act none (.ld (some 8) (.v 7) none)) <|
    .st (.act none (.ex (some 9) (.call fn_impl_in [.v 8, .c (.int .i64 1), .c (.int .i64 4)]))) K47_6) K47_4
@[simp] def W47_7 := @C.wpe _ _ K47_7.eq_1
def K47_8 : Pl := .st (.act none (.ex none (.store 2 (.v 3) (.v 8)))) .done
@[simp] def W47_8 := @Pl.wpe _ _ K47_8.eq_1
def K47_9 : C := .seq (.block 1 (.seq (.pl <| .st (.ext 7 2) <|
    .st (.act none (.px (some 7) (.ia 2 (.v 4) (.v 6)))) <|
    .st (.act none (.ld (some 8) (.v 7) (some 2))) <|
    .st (.act none (.ex (some 3) (.alloc (.c (.agg #[.int .i64 0, .slice none 0 0]))))) K47_8) K47_7)) K47_2
@[simp] def W47_9 := @C.wpe _ _ K47_9.eq_1
def K47_10 : C := .seq (.cond 7 (.v 7) (.skip) (.exit 0)) K47_9
@[simp] def W47_10 := @C.wpe _ _ K47_10.eq_1
def K47_11 : C := .seq (.pl <| .st (.ext 7 1) <|
    .st (.act none (.px (some 7) (.bin .lss (.v 6) (.v 5)))) .done) K47_10
@[simp] def W47_11 := @C.wpe _ _ K47_11.eq_1
def K47_12 : C := .block 0 (.loop 7 [0, 1, 2, 3] K47_11)
@[simp] def W47_12 := @C.wpe _ _ K47_12.eq_1
def K47_13 : C := .seq (.seq (.pl <| .st (.ext 7 1) <|
    .st (.act none (.als 7 none 1)) <|
    .st (.act none (.pget (some 4) (some 7) 1 1 none)) <|
    .st (.act none (.px (some 5) (.lenV (.v 4)))) <|
    .st (.act none (.px (some 6) (.mv (.c (.int .i64 0))))) .done) K47_12) K47_1
@[simp] def W47_13 := @C.wpe _ _ K47_13.eq_1
def K47_14 : C := .seq (.pl <| .st (.ext 7 0) <|
    .st (.act none (.px (some 2) (.mv (.c (.bool false))))) .done) (.ret)
@[simp] def W47_14 := @C.wpe _ _ K47_14.eq_1
def K47_15 : C := .cond 7 (.v 17) K47_14 (.skip)
@[simp] def W47_15 := @C.wpe _ _ K47_15.eq_1
def K47_16 : Pl := .st (.act (some (.v 11, false)) (.px (some 16) (.un .not (.v 15)))) <|
    .st (.act none (.px (some 17) (.pick (.v 11) (.c (.bool true)) (.v 16)))) .done
@[simp] def W47_16 := @Pl.wpe _ _ K47_16.eq_1
def K47_17 : Pl := .st (.act none (.px (some 10) (.un .not (.v 9)))) <|
    .st (.act none (.px (some 11) (.mv (.v 10)))) <|
    .st (.act (some (.v 11, false)) (.als 12 none 1)) <|
    .st (.act (some (.v 11, false)) (.pget (some 13) (some 12) 1 1 none)) <|
    .st (.act (some (.v 11, false)) (.px (some 14) (.lenV (.v 13)))) <|
    .st (.act (some (.v 11, false)) (.ex (some 15) (.call fn_impl_in [.v 14, .c (.int .i64 1), .c (.int .i64 3)]))) K47_16
@[simp] def W47_17 := @Pl.wpe _ _ K47_17.eq_1
def K47_18 : C := .seq (.seq (.pl <| .st (.ext 7 11) <|
    .st (.act none (.als 7 none 1)) <|
    .st (.act none (.pget (some 8) (some 7) 1 0 none)) <|
    .st (.act none (.ex (some 9) (.call fn_impl_valsOk [.v 8]))) K47_17) K47_15) K47_13
@[simp] def W47_18 := @C.wpe _ _ K47_18.eq_1
def B_impl_SystemValid : C := .seq (.pl <| .st (.ext 7 0) <|
    .st (.act none (.pnew 1 (.v 0) [])) <|
    .st (.act none (.px (some 2) (.mv (.c (.bool false))))) .done) K47_18
@[simp] def WB_impl_SystemValid := @C.wpe _ _ B_impl_SystemValid.eq_1
def R_impl_SystemValid : FIR := ⟨B_impl_SystemValid, 7, [(2, none)]⟩
theorem IR_impl_SystemValid : cfun Tryz.prog H_impl_SystemValid Tryz.f47 = some R_impl_SystemValid := by kernel_rfl
theorem EN_impl_SystemValid {args : List Value} {h : Heap} {k : Value → Heap → Prop} (hargs : args.length = 1) (hw : B_impl_SystemValid.wp Tryz.prog (retQ [(2, none)] k) (env0 args 7) h) : CallE Tryz.prog fn_impl_SystemValid args h k := enter Tryz.func47 rfl IR_impl_SystemValid hargs hw

def H_impl_SystemValid_1 : Hint := ⟨[(0, false), (1, false), (2, true), (3, false)], []⟩
def K80_1 : Pl := .st (.act none (.px (some 8) (.un .not (.v 7)))) <|
    .st (.act none (.px (some 3) (.mv (.v 8)))) .done
@[simp] def W80_1 := @Pl.wpe _ _ K80_1.eq_1
def K80_2 : C := .seq (.pl <| .st (.ext 4 5) <|
    .st (.act none (.pget (some 4) none 2 0 (some 10))) <|
    .st (.act none (.px (some 5) (.fa 0 (.v 1)))) <|
    .st (.act none (.ld (some 6) (.v 5) none)) <|
    .st (.act none (.ex (some 7) (.call fn_impl_EdgeValid [.v 4, .v 6]))) K80_1) (.ret)
@[simp] def W80_2 := @C.wpe _ _ K80_2.eq_1
def B_impl_SystemValid_1 : C := .seq (.pl <| .st (.ext 4 0) <|
    .st (.act none (.pnew 2 (.v 0) [])) <|
    .st (.act none (.px (some 3) (.mv (.c (.bool false))))) .done) K80_2
@[simp] def WB_impl_SystemValid_1 := @C.wpe _ _ B_impl_SystemValid_1.eq_1
def R_impl_SystemValid_1 : FIR := ⟨B_impl_SystemValid_1, 4, [(3, none)]⟩
theorem IR_impl_SystemValid_1 : cfun Tryz.prog H_impl_SystemValid_1 Tryz.f80 = some R_impl_SystemValid_1 := by kernel_rfl
theorem EN_impl_SystemValid_1 {args : List Value} {h : Heap} {k : Value → Heap → Prop} (hargs : args.length = 2) (hw : B_impl_SystemValid_1.wp Tryz.prog (retQ [(3, none)] k) (env0 args 4) h) : CallE Tryz.prog fn_impl_SystemValid_1 args h k := enter Tryz.func80 rfl IR_impl_SystemValid_1 hargs hw

def H_impl_System_after : Hint := ⟨[(0, false), (1, false), (2, false), (3, true), (4, true), (5, true), (6, true), (7, true)], []⟩
def K83_1 : C := .seq (.pl <| .st (.ext 8 1) <|
    .st (.act none (.pget (some 8) none 7 0 (some 2))) <|
    .st (.act none (.pset none 6 0 2 (.v 8))) .done) (.ret)
@[simp] def W83_1 := @C.wpe _ _ K83_1.eq_1
def K83_2 : C := .pl <| .st (.ext 8 15) <|
    .st (.act none (.pget (some 8) none 7 0 (some 2))) <|
    .st (.act none (.als 9 none 5)) <|
    .st (.act none (.pget (some 10) (some 9) 5 2 none)) <|
    .st (.act none (.als 11 none 3)) <|
    .st (.act none (.pget (some 12) (some 11) 3 1 none)) <|
    .st (.act none (.als 13 none 5)) <|
    .st (.act none (.pget (some 14) (some 13) 5 2 none)) <|
    .st (.act none (.px (some 15) (.ia 2 (.v 12) (.v 14)))) <|
    .st (.act none (.px (some 16) (.fa 1 (.v 15)))) <|
    .st (.act none (.ld (some 17) (.v 16) none)) <|
    .st (.act none (.als 18 none 5)) <|
    .st (.act none (.pget (some 19) (some 18) 5 3 none)) <|
    .st (.act none (.px (some 20) (.ia 10 (.v 17) (.v 19)))) <|
    .st (.act none (.ld (some 21) (.v 20) (some 10))) <|
    .st (.act none (.ex (some 22) (.call fn_impl_State_take [.v 8, .v 10, .v 21]))) .done
@[simp] def W83_2 := @C.wpe _ _ K83_2.eq_1
def K83_3 : C := .cond 8 (.v 10) K83_2 (.skip)
@[simp] def W83_3 := @C.wpe _ _ K83_3.eq_1
def K83_4 : C := .seq (.seq (.pl <| .st (.ext 8 3) <|
    .st (.act none (.als 8 none 5)) <|
    .st (.act none (.pget (some 9) (some 8) 5 2 none)) <|
    .st (.act none (.px (some 10) (.bin .geq (.v 9) (.c (.int .i64 0))))) .done) K83_3) K83_1
@[simp] def W83_4 := @C.wpe _ _ K83_4.eq_1
def K83_5 : C := .seq (.pl <| .st (.ext 8 15) <|
    .st (.act none (.pget (some 8) none 7 0 (some 2))) <|
    .st (.act none (.als 9 none 5)) <|
    .st (.act none (.pget (some 10) (some 9) 5 0 none)) <|
    .st (.act none (.als 11 none 3)) <|
    .st (.act none (.pget (some 12) (some 11) 3 1 none)) <|
    .st (.act none (.als 13 none 5)) <|
    .st (.act none (.pget (some 14) (some 13) 5 0 none)) <|
    .st (.act none (.px (some 15) (.ia 2 (.v 12) (.v 14)))) <|
    .st (.act none (.px (some 16) (.fa 1 (.v 15)))) <|
    .st (.act none (.ld (some 17) (.v 16) none)) <|
    .st (.act none (.als 18 none 5)) <|
    .st (.act none (.pget (some 19) (some 18) 5 1 none)) <|
    .st (.act none (.px (some 20) (.ia 10 (.v 17) (.v 19)))) <|
    .st (.act none (.ld (some 21) (.v 20) (some 10))) <|
    .st (.act none (.ex (some 22) (.call fn_impl_State_take [.v 8, .v 10, .v 21]))) .done) K83_4
@[simp] def W83_5 := @C.wpe _ _ K83_5.eq_1
def K83_6 : Pl := .st (.act none (.pnew 7 (.c (.agg #[.slice none 0 0, .slice none 0 0])) [])) <|
    .st (.act none (.pset none 7 0 2 (.v 9))) .done
@[simp] def W83_6 := @Pl.wpe _ _ K83_6.eq_1
def K83_7 : C := .seq (.pl <| .st (.ext 8 2) <|
    .st (.act none (.pget (some 8) none 4 0 (some 2))) <|
    .st (.act none (.ex (some 9) (.call fn_impl_State_copyOf [.v 8]))) K83_6) K83_5
@[simp] def W83_7 := @C.wpe _ _ K83_7.eq_1
def B_impl_System_after : C := .seq (.pl <| .st (.ext 8 0) <|
    .st (.act none (.pnew 3 (.v 0) [])) <|
    .st (.act none (.pnew 4 (.v 1) [])) <|
    .st (.act none (.pnew 5 (.v 2) [])) <|
    .st (.act none (.pnew 6 (.c (.agg #[.slice none 0 0, .slice none 0 0])) [])) .done) K83_7
@[simp] def WB_impl_System_after := @C.wpe _ _ B_impl_System_after.eq_1
def R_impl_System_after : FIR := ⟨B_impl_System_after, 8, [(6, some (some 2))]⟩
theorem IR_impl_System_after : cfun Tryz.prog H_impl_System_after Tryz.f83 = some R_impl_System_after := by kernel_rfl
theorem EN_impl_System_after {args : List Value} {h : Heap} {k : Value → Heap → Prop} (hargs : args.length = 3) (hw : B_impl_System_after.wp Tryz.prog (retQ [(6, some (some 2))] k) (env0 args 8) h) : CallE Tryz.prog fn_impl_System_after args h k := enter Tryz.func83 rfl IR_impl_System_after hargs hw

def H_impl_System_build : Hint := ⟨[(0, false), (1, true), (2, true), (3, false), (4, true), (5, false), (6, false), (8, true), (9, false), (10, false), (28, false), (29, false), (30, false)], [[0, 3, 6, 7, 8, 9, 10, 11, 12], [0, 3, 7, 8, 9]]⟩
def K48_1 : Pl := .st (.act none (.px (some 19) (.build [.slice none 0 0, .slice none 0 0] [(0, 1, .v 15), (1, 1, .v 18)]))) <|
    .st (.act none (.pset none 2 0 2 (.v 19))) <|
    .st (.act none (.px (some 3) (.mv (.c (.bool true))))) .done
@[simp] def W48_1 := @Pl.wpe _ _ K48_1.eq_1
def K48_2 : Pl := .st (.act none (.ex (some 18) (.call fn_slices_Clip_S_S_int_S_int [.v 17]))) K48_1
@[simp] def W48_2 := @Pl.wpe _ _ K48_2.eq_1
def K48_3 : C := .seq (.pl <| .st (.ext 13 7) <|
    .st (.act none (.als 13 none 4)) <|
    .st (.act none (.pget (some 14) (some 13) 4 0 none)) <|
    .st (.act none (.als 16 none 4)) <|
    .st (.act none (.pget (some 17) (some 16) 4 1 none)) <|
    .st (.act none (.ex (some 15) (.call fn_slices_Clip_S_impl_State_impl_State [.v 14]))) K48_2) (.ret)
@[simp] def W48_3 := @C.wpe _ _ K48_3.eq_1
def K48_4 : C := .pl <| .st (.ext 13 2) <|
    .st (.act none (.px (some 13) (.mv (.v 5)))) <|
    .st (.act none (.px (some 14) (.bin .add (.v 13) (.c (.int .i64 1))))) <|
    .st (.act none (.px (some 5) (.mv (.v 14)))) .done
@[simp] def W48_4 := @C.wpe _ _ K48_4.eq_1
def K48_5 : C := .seq (.pl <| .st (.ext 13 1) <|
    .st (.act none (.px (some 13) (.build [.slice none 0 0, .slice none 0 0] []))) <|
    .st (.act none (.pset none 2 0 2 (.v 13))) <|
    .st (.act none (.px (some 3) (.mv (.c (.bool false))))) .done) (.ret)
@[simp] def W48_5 := @C.wpe _ _ K48_5.eq_1
def K48_6 : C := .cond 13 (.v 16) K48_5 (.skip)
@[simp] def W48_6 := @C.wpe _ _ K48_6.eq_1
def K48_7 : C := .seq (.pl <| .st (.ext 13 4) <|
    .st (.act none (.als 13 none 4)) <|
    .st (.act none (.pget (some 14) (some 13) 4 0 none)) <|
    .st (.act none (.px (some 15) (.lenV (.v 14)))) <|
    .st (.act none (.px (some 16) (.bin .gtr (.v 15) (.c (.int .i64 60))))) .done) K48_6
@[simp] def W48_7 := @C.wpe _ _ K48_7.eq_1
def K48_8 : Pl := .st (.act none (.als 19 none 4)) <|
    .st (.act none (.pset (some 19) 4 1 1 (.v 18))) .done
@[simp] def W48_8 := @Pl.wpe _ _ K48_8.eq_1
def K48_9 : Pl := .st (.act none (.psl 17 [.slice none 0 0] [(0, 1, .v 16)])) <|
    .st (.act none (.ex (some 18) (.app 24 1 [.slice none 0 0] (.o (.v 14)) (.p 1 17)))) K48_8
@[simp] def W48_9 := @Pl.wpe _ _ K48_9.eq_1
def K48_10 : C := .seq (.pl <| .st (.ext 13 7) <|
    .st (.act none (.als 13 none 4)) <|
    .st (.act none (.pget (some 14) (some 13) 4 1 none)) <|
    .st (.act none (.px (some 15) (.mv (.v 6)))) <|
    .st (.act none (.ex (some 16) (.call fn_slices_Clip_S_int_int [.v 15]))) K48_9) K48_7
@[simp] def W48_10 := @C.wpe _ _ K48_10.eq_1
def K48_11 : Pl := .st (.act none (.px (some 6) (.mv (.v 14)))) .done
@[simp] def W48_11 := @Pl.wpe _ _ K48_11.eq_1
def K48_12 : C := .pl <| .st (.ext 13 2) <|
    .st (.act none (.px (some 13) (.mv (.v 5)))) <|
    .st (.act none (.ex (some 14) (.bls 1 1 [.int .i64 0] [(0, 1, .v 13)]))) K48_11
@[simp] def W48_12 := @C.wpe _ _ K48_12.eq_1
def K48_13 : C := .cond 13 (.v 15) K48_12 (.skip)
@[simp] def W48_13 := @C.wpe _ _ K48_13.eq_1
def K48_14 : C := .seq (.seq (.pl <| .st (.ext 13 3) <|
    .st (.act none (.px (some 13) (.mv (.v 6)))) <|
    .st (.act none (.px (some 14) (.lenV (.v 13)))) <|
    .st (.act none (.px (some 15) (.bin .eql (.v 14) (.c (.int .i64 0))))) .done) K48_13) K48_10
@[simp] def W48_14 := @C.wpe _ _ K48_14.eq_1
def K48_15 : C := .pl <| .st (.ext 13 1) <|
    .st (.act none (.px (some 13) (.bin .add (.v 12) (.c (.int .i64 1))))) <|
    .st (.act none (.px (some 12) (.mv (.v 13)))) .done
@[simp] def W48_15 := @C.wpe _ _ K48_15.eq_1
def K48_16 : Pl := .st (.act none (.px (some 6) (.mv (.v 16)))) .done
@[simp] def W48_16 := @Pl.wpe _ _ K48_16.eq_1
def K48_17 : C := .pl <| .st (.ext 13 4) <|
    .st (.act none (.px (some 13) (.mv (.v 6)))) <|
    .st (.act none (.px (some 14) (.mv (.v 9)))) <|
    .st (.act none (.psl 15 [.int .i64 0] [(0, 1, .v 14)])) <|
    .st (.act none (.ex (some 16) (.app 8 1 [.int .i64 0] (.o (.v 13)) (.p 1 15)))) K48_16
@[simp] def W48_17 := @C.wpe _ _ K48_17.eq_1
def K48_18 : C := .cond 13 (.v 16) K48_17 (.skip)
@[simp] def W48_18 := @C.wpe _ _ K48_18.eq_1
def K48_19 : Pl := .st (.act none (.px (some 16) (.un .not (.v 15)))) .done
@[simp] def W48_19 := @Pl.wpe _ _ K48_19.eq_1
def K48_20 : C := .seq (.pl <| .st (.ext 13 4) <|
    .st (.act none (.px (some 13) (.mv (.v 6)))) <|
    .st (.act none (.px (some 14) (.mv (.v 9)))) <|
    .st (.act none (.ex (some 15) (.call fn_slices_Contains_S_int_int [.v 13, .v 14]))) K48_19) K48_18
@[simp] def W48_20 := @C.wpe _ _ K48_20.eq_1
def K48_21 : Pl := .st (.act none (.als 18 none 4)) <|
    .st (.act none (.pset (some 18) 4 0 1 (.v 17))) .done
@[simp] def W48_21 := @Pl.wpe _ _ K48_21.eq_1
def K48_22 : C := .pl <| .st (.ext 13 6) <|
    .st (.act none (.als 13 none 4)) <|
    .st (.act none (.pget (some 14) (some 13) 4 0 none)) <|
    .st (.act none (.ld (some 15) (.v 8) (some 2))) <|
    .st (.act none (.psl 16 [.slice none 0 0, .slice none 0 0] [(0, 2, .v 15)])) <|
    .st (.act none (.ex (some 17) (.app 48 2 [.slice none 0 0, .slice none 0 0] (.o (.v 14)) (.p 1 16)))) K48_21
@[simp] def W48_22 := @C.wpe _ _ K48_22.eq_1
def K48_23 : C := .seq (.pl <| .st (.ext 13 3) <|
    .st (.act none (.als 13 none 4)) <|
    .st (.act none (.pget (some 14) (some 13) 4 0 none)) <|
    .st (.act none (.px (some 15) (.lenV (.v 14)))) <|
    .st (.act none (.px (some 9) (.mv (.v 15)))) .done) K48_22
@[simp] def W48_23 := @C.wpe _ _ K48_23.eq_1
def K48_24 : C := .cond 13 (.v 14) K48_23 (.skip)
@[simp] def W48_24 := @C.wpe _ _ K48_24.eq_1
def K48_25 : C := .seq (.seq (.pl <| .st (.ext 13 2) <|
    .st (.act none (.px (some 13) (.mv (.v 9)))) <|
    .st (.act none (.px (some 14) (.bin .lss (.v 13) (.c (.int .i64 0))))) .done) K48_24) K48_20
@[simp] def W48_25 := @C.wpe _ _ K48_25.eq_1
def K48_26 : Pl := .st (.act none (.px (some 9) (.mv (.v 16)))) .done
@[simp] def W48_26 := @Pl.wpe _ _ K48_26.eq_1
def K48_27 : C := .seq (.pl <| .st (.ext 13 4) <|
    .st (.act none (.als 13 none 4)) <|
    .st (.act none (.pget (some 14) (some 13) 4 0 none)) <|
    .st (.act none (.px (some 15) (.mkf (.func fn_impl_System_build_1) [] [.v 8]))) <|
    .st (.act none (.ex (some 16) (.call fn_slices_IndexFunc_S_impl_State_impl_State [.v 14, .v 15]))) K48_26) K48_25
@[simp] def W48_27 := @C.wpe _ _ K48_27.eq_1
def K48_28 : Pl := .st (.re 18 (.v 17) (some 2) none) <|
    .st (.act none (.ex none (.store 2 (.v 8) (.v 20)))) .done
@[simp] def W48_28 := @Pl.wpe _ _ K48_28.eq_1
def K48_29 : Pl := .st (.act none (.ex (some 8) (.alloc (.c (.agg #[.slice none 0 0, .slice none 0 0]))))) K48_28
@[simp] def W48_29 := @Pl.wpe _ _ K48_29.eq_1
def K48_30 : Pl := .st (.act none (.ex (some 20) (.call fn_impl_System_after [.v 13, .v 18, .v 19]))) K48_29
@[simp] def W48_30 := @Pl.wpe _ _ K48_30.eq_1
def K48_31 : Pl := .st (.act none (.ex none (.store 2 (.v 8) (.v 20)))) .done
@[simp] def W48_31 := @Pl.wpe _ _ K48_31.eq_1
def K48_32 : Pl := .st (.re 18 (.v 17) (some 2) none) <|
    .st (.act none (.ex (some 20) (.call fn_impl_System_after [.v 13, .v 18, .v 19]))) K48_31
@[simp] def W48_32 := @Pl.wpe _ _ K48_32.eq_1
def K48_33 : Pl := .st (.act none (.ex (some 8) (.alloc (.c (.agg #[.slice none 0 0, .slice none 0 0]))))) K48_32
@[simp] def W48_33 := @Pl.wpe _ _ K48_33.eq_1
def K48_34 : C := .seq (.pl <| .st (.ext 13 8) <|
    .st (.act none (.pget (some 13) none 1 0 (some 2))) <|
    .st (.act none (.als 14 none 4)) <|
    .st (.act none (.pget (some 15) (some 14) 4 0 none)) <|
    .st (.act none (.px (some 16) (.mv (.v 5)))) <|
    .st (.act none (.px (some 17) (.ia 2 (.v 15) (.v 16)))) <|
    .st (.act none (.ld (some 18) (.v 17) (some 2))) <|
    .st (.act none (.pget (some 19) none 7 0 (some 4))) <|
    .both K48_30 K48_33) K48_27
@[simp] def W48_34 := @C.wpe _ _ K48_34.eq_1
def K48_35 : C := .seq (.block 3 (.seq (.pl <| .st (.ext 13 2) <|
    .st (.act none (.px (some 13) (.ia 4 (.v 10) (.v 12)))) <|
    .st (.act none (.ld (some 14) (.v 13) (some 4))) <|
    .st (.act none (.pnew 7 (.c (.agg #[.int .i64 0, .int .i64 0, .int .i64 0, .int .i64 0])) [])) <|
    .st (.act none (.pset none 7 0 4 (.v 14))) .done) K48_34)) K48_15
@[simp] def W48_35 := @C.wpe _ _ K48_35.eq_1
def K48_36 : C := .seq (.cond 13 (.v 13) (.skip) (.exit 2)) K48_35
@[simp] def W48_36 := @C.wpe _ _ K48_36.eq_1
def K48_37 : C := .seq (.pl <| .st (.ext 13 1) <|
    .st (.act none (.px (some 13) (.bin .lss (.v 12) (.v 11)))) .done) K48_36
@[simp] def W48_37 := @C.wpe _ _ K48_37.eq_1
def K48_38 : C := .block 2 (.loop 13 [0, 3, 7, 8, 9] K48_37)
@[simp] def W48_38 := @C.wpe _ _ K48_38.eq_1
def K48_39 : Pl := .st (.act none (.px (some 11) (.lenV (.v 10)))) <|
    .st (.act none (.px (some 12) (.mv (.c (.int .i64 0))))) <|
    .st (.re 18 (.v 17) (some 2) none) .done
@[simp] def W48_39 := @Pl.wpe _ _ K48_39.eq_1
def K48_40 : Pl := .st (.act none (.px (some 12) (.mv (.c (.int .i64 0))))) <|
    .st (.re 18 (.v 17) (some 2) none) <|
    .st (.act none (.px (some 11) (.lenV (.v 10)))) .done
@[simp] def W48_40 := @Pl.wpe _ _ K48_40.eq_1
def K48_41 : Pl := .both K48_39 K48_40
@[simp] def W48_41 := @Pl.wpe _ _ K48_41.eq_1
def K48_42 : Pl := .st (.act none (.ex (some 10) (.call fn_impl_System_enabled [.v 13, .v 18]))) K48_41
@[simp] def W48_42 := @Pl.wpe _ _ K48_42.eq_1
def K48_43 : Pl := .st (.act none (.px (some 11) (.lenV (.v 10)))) .done
@[simp] def W48_43 := @Pl.wpe _ _ K48_43.eq_1
def K48_44 : Pl := .st (.act none (.px (some 12) (.mv (.c (.int .i64 0))))) <|
    .st (.re 18 (.v 17) (some 2) none) <|
    .st (.act none (.ex (some 10) (.call fn_impl_System_enabled [.v 13, .v 18]))) K48_43
@[simp] def W48_44 := @Pl.wpe _ _ K48_44.eq_1
def K48_45 : C := .seq (.seq (.pl <| .st (.ext 13 6) <|
    .st (.act none (.pget (some 13) none 1 0 (some 2))) <|
    .st (.act none (.als 14 none 4)) <|
    .st (.act none (.pget (some 15) (some 14) 4 0 none)) <|
    .st (.act none (.px (some 16) (.mv (.v 5)))) <|
    .st (.act none (.px (some 17) (.ia 2 (.v 15) (.v 16)))) <|
    .st (.act none (.ld (some 18) (.v 17) (some 2))) <|
    .both K48_42 K48_44) K48_38) K48_14
@[simp] def W48_45 := @C.wpe _ _ K48_45.eq_1
def K48_46 : C := .seq (.block 1 (.seq (.pl <| .st (.ext 13 0) <|
    .st (.act none (.px (some 6) (.mv (.c (.slice none 0 0))))) .done) K48_45)) K48_4
@[simp] def W48_46 := @C.wpe _ _ K48_46.eq_1
def K48_47 : C := .cond 13 (.v 17) (.skip) (.exit 0)
@[simp] def W48_47 := @C.wpe _ _ K48_47.eq_1
def K48_48 : C := .seq (.seq (.pl <| .st (.ext 13 5) <|
    .st (.act none (.px (some 13) (.mv (.v 5)))) <|
    .st (.act none (.als 14 none 4)) <|
    .st (.act none (.pget (some 15) (some 14) 4 0 none)) <|
    .st (.act none (.px (some 16) (.lenV (.v 15)))) <|
    .st (.act none (.px (some 17) (.bin .lss (.v 13) (.v 16)))) .done) K48_47) K48_46
@[simp] def W48_48 := @C.wpe _ _ K48_48.eq_1
def K48_49 : C := .block 0 (.loop 13 [0, 3, 6, 7, 8, 9, 10, 11, 12] K48_48)
@[simp] def W48_49 := @C.wpe _ _ K48_49.eq_1
def K48_50 : C := .seq (.seq (.pl <| .st (.ext 13 0) <|
    .st (.act none (.px (some 5) (.mv (.c (.int .i64 0))))) .done) K48_49) K48_3
@[simp] def W48_50 := @C.wpe _ _ K48_50.eq_1
def K48_51 : Pl := .st (.act none (.px (some 16) (.build [.slice none 0 0, .slice none 0 0] [(0, 1, .v 15)]))) <|
    .st (.act none (.pnew 4 (.c (.agg #[.slice none 0 0, .slice none 0 0])) [])) <|
    .st (.act none (.pset none 4 0 2 (.v 16))) .done
@[simp] def W48_51 := @Pl.wpe _ _ K48_51.eq_1
def K48_52 : Pl := .st (.act none (.ex (some 15) (.bls 2 1 [.slice none 0 0, .slice none 0 0] [(0, 2, .v 14)]))) K48_51
@[simp] def W48_52 := @Pl.wpe _ _ K48_52.eq_1
def K48_53 : C := .seq (.pl <| .st (.ext 13 4) <|
    .st (.act none (.pget (some 13) none 1 0 (some 2))) <|
    .st (.act none (.ex (some 14) (.call fn_impl_System_initial [.v 13]))) K48_52) K48_50
@[simp] def W48_53 := @C.wpe _ _ K48_53.eq_1
def B_impl_System_build : C := .seq (.pl <| .st (.ext 13 0) <|
    .st (.act none (.pnew 1 (.v 0) [])) <|
    .st (.act none (.pnew 2 (.c (.agg #[.slice none 0 0, .slice none 0 0])) [])) <|
    .st (.act none (.px (some 3) (.mv (.c (.bool false))))) .done) K48_53
@[simp] def WB_impl_System_build := @C.wpe _ _ B_impl_System_build.eq_1
def R_impl_System_build : FIR := ⟨B_impl_System_build, 13, [(2, some (some 2)), (3, none)]⟩
theorem IR_impl_System_build : cfun Tryz.prog H_impl_System_build Tryz.f48 = some R_impl_System_build := by kernel_rfl
theorem EN_impl_System_build {args : List Value} {h : Heap} {k : Value → Heap → Prop} (hargs : args.length = 1) (hw : B_impl_System_build.wp Tryz.prog (retQ [(2, some (some 2)), (3, none)] k) (env0 args 13) h) : CallE Tryz.prog fn_impl_System_build args h k := enter Tryz.func48 rfl IR_impl_System_build hargs hw

def H_impl_System_build_1 : Hint := ⟨[(0, false), (1, false), (2, true), (3, false)], []⟩
def K85_1 : Pl := .st (.act none (.px (some 3) (.mv (.v 6)))) .done
@[simp] def W85_1 := @Pl.wpe _ _ K85_1.eq_1
def K85_2 : C := .seq (.pl <| .st (.ext 4 3) <|
    .st (.act none (.pget (some 4) none 2 0 (some 2))) <|
    .st (.act none (.ld (some 5) (.v 1) (some 2))) <|
    .st (.act none (.ex (some 6) (.call fn_impl_StateSame [.v 4, .v 5]))) K85_1) (.ret)
@[simp] def W85_2 := @C.wpe _ _ K85_2.eq_1
def B_impl_System_build_1 : C := .seq (.pl <| .st (.ext 4 0) <|
    .st (.act none (.pnew 2 (.v 0) [])) <|
    .st (.act none (.px (some 3) (.mv (.c (.bool false))))) .done) K85_2
@[simp] def WB_impl_System_build_1 := @C.wpe _ _ B_impl_System_build_1.eq_1
def R_impl_System_build_1 : FIR := ⟨B_impl_System_build_1, 4, [(3, none)]⟩
theorem IR_impl_System_build_1 : cfun Tryz.prog H_impl_System_build_1 Tryz.f85 = some R_impl_System_build_1 := by kernel_rfl
theorem EN_impl_System_build_1 {args : List Value} {h : Heap} {k : Value → Heap → Prop} (hargs : args.length = 2) (hw : B_impl_System_build_1.wp Tryz.prog (retQ [(3, none)] k) (env0 args 4) h) : CallE Tryz.prog fn_impl_System_build_1 args h k := enter Tryz.func85 rfl IR_impl_System_build_1 hargs hw

def H_impl_System_enabled : Hint := ⟨[(0, false), (1, false), (2, true), (3, true), (4, false), (5, false), (6, false), (7, true), (8, false), (9, true), (10, false), (11, true), (12, false), (13, true), (15, false), (16, false), (17, false), (23, false), (24, false), (25, false), (53, false), (54, false), (55, false), (61, false), (62, false), (63, false)], [[0, 1, 4, 6, 7, 8, 9, 10, 11, 12, 13, 17, 18, 19, 20, 21, 22, 23, 24, 25], [0, 1, 4, 7, 8, 9, 10, 11, 12, 13, 20, 21, 22, 23, 24, 25], [0, 1, 4, 7, 10, 11, 12, 13, 23, 24, 25], [0, 1, 4, 7, 11, 12, 13]]⟩
def K38_1 : Pl := .st (.act none (.px (some 4) (.mv (.v 27)))) .done
@[simp] def W38_1 := @Pl.wpe _ _ K38_1.eq_1
def K38_2 : C := .seq (.pl <| .st (.ext 26 2) <|
    .st (.act none (.px (some 26) (.mv (.v 5)))) <|
    .st (.act none (.ex (some 27) (.call fn_slices_Clip_S_impl_Step_impl_Step [.v 26]))) K38_1) (.ret)
@[simp] def W38_2 := @C.wpe _ _ K38_2.eq_1
def K38_3 : C := .pl <| .st (.ext 26 1) <|
    .st (.act none (.px (some 26) (.bin .add (.v 16) (.c (.int .i64 1))))) <|
    .st (.act none (.px (some 16) (.mv (.v 26)))) .done
@[simp] def W38_3 := @C.wpe _ _ K38_3.eq_1
def K38_4 : C := .pl <| .st (.ext 26 1) <|
    .st (.act none (.px (some 26) (.bin .add (.v 19) (.c (.int .i64 1))))) <|
    .st (.act none (.px (some 19) (.mv (.v 26)))) .done
@[simp] def W38_4 := @C.wpe _ _ K38_4.eq_1
def K38_5 : C := .pl <| .st (.ext 26 1) <|
    .st (.act none (.px (some 26) (.bin .add (.v 22) (.c (.int .i64 1))))) <|
    .st (.act none (.px (some 22) (.mv (.v 26)))) .done
@[simp] def W38_5 := @C.wpe _ _ K38_5.eq_1
def K38_6 : C := .pl <| .st (.ext 26 1) <|
    .st (.act none (.px (some 26) (.bin .add (.v 25) (.c (.int .i64 1))))) <|
    .st (.act none (.px (some 25) (.mv (.v 26)))) .done
@[simp] def W38_6 := @C.wpe _ _ K38_6.eq_1
def K38_7 : Pl := .st (.act none (.px (some 5) (.mv (.v 33)))) .done
@[simp] def W38_7 := @Pl.wpe _ _ K38_7.eq_1
def K38_8 : C := .pl <| .st (.ext 26 8) <|
    .st (.act none (.px (some 26) (.mv (.v 5)))) <|
    .st (.act none (.px (some 27) (.mv (.v 6)))) <|
    .st (.act none (.px (some 28) (.mv (.v 8)))) <|
    .st (.act none (.px (some 29) (.mv (.v 10)))) <|
    .st (.act none (.px (some 30) (.mv (.v 12)))) <|
    .st (.act none (.px (some 31) (.build [.int .i64 0, .int .i64 0, .int .i64 0, .int .i64 0] [(0, 1, .v 27), (1, 1, .v 28), (2, 1, .v 29), (3, 1, .v 30)]))) <|
    .st (.act none (.psl 32 [.int .i64 0, .int .i64 0, .int .i64 0, .int .i64 0] [(0, 4, .v 31)])) <|
    .st (.act none (.ex (some 33) (.app 32 4 [.int .i64 0, .int .i64 0, .int .i64 0, .int .i64 0] (.o (.v 26)) (.p 1 32)))) K38_7
@[simp] def W38_8 := @C.wpe _ _ K38_8.eq_1
def K38_9 : C := .cond 26 (.v 43) K38_8 (.skip)
@[simp] def W38_9 := @C.wpe _ _ K38_9.eq_1
def K38_10 : Pl := .st (.act none (.px (some 43) (.pick (.v 37) (.v 42) (.c (.bool false))))) .done
@[simp] def W38_10 := @Pl.wpe _ _ K38_10.eq_1
def K38_11 : C := .seq (.pl <| .st (.ext 26 18) <|
    .st (.act none (.px (some 26) (.mv (.v 10)))) <|
    .st (.act none (.px (some 27) (.mv (.v 6)))) <|
    .st (.act none (.px (some 28) (.bin .neq (.v 26) (.v 27)))) <|
    .st (.act none (.px (some 29) (.mv (.v 28)))) <|
    .st (.act (some (.v 29, true)) (.als 30 none 13)) <|
    .st (.act (some (.v 29, true)) (.pget (some 31) (some 30) 13 9 none)) <|
    .st (.act (some (.v 29, true)) (.als 32 none 9)) <|
    .st (.act (some (.v 29, true)) (.pget (some 33) (some 32) 9 9 none)) <|
    .st (.act (some (.v 29, true)) (.px (some 34) (.un .neg (.v 33)))) <|
    .st (.act (some (.v 29, true)) (.px (some 35) (.bin .eql (.v 31) (.v 34)))) <|
    .st (.act none (.px (some 36) (.pick (.v 29) (.v 35) (.c (.bool false))))) <|
    .st (.act none (.px (some 37) (.mv (.v 36)))) <|
    .st (.act (some (.v 37, true)) (.pget (some 38) none 2 0 (some 2))) <|
    .st (.act (some (.v 37, true)) (.pget (some 39) none 3 0 (some 2))) <|
    .st (.act (some (.v 37, true)) (.px (some 40) (.mv (.v 10)))) <|
    .st (.act (some (.v 37, true)) (.px (some 41) (.mv (.v 12)))) <|
    .st (.act (some (.v 37, true)) (.ex (some 42) (.call fn_impl_System_ready [.v 38, .v 39, .v 40, .v 41]))) K38_10) K38_9
@[simp] def W38_11 := @C.wpe _ _ K38_11.eq_1
def K38_12 : C := .seq (.block 8 (.seq (.pl <| .st (.ext 26 3) <|
    .st (.act none (.px (some 26) (.mv (.v 25)))) <|
    .st (.act none (.px (some 27) (.ia 10 (.v 23) (.v 25)))) <|
    .st (.act none (.ld (some 28) (.v 27) (some 10))) <|
    .st (.act none (.pnew 13 (.c (.agg #[.int .i64 0, .int .i64 0, .int .i64 0, .int .i64 0, .slice none 0 0, .int .i64 0, .int .i64 0, .int .i64 0, .slice none 0 0, .int .i64 0])) [])) <|
    .st (.act none (.px (some 12) (.mv (.v 26)))) <|
    .st (.act none (.pset none 13 0 10 (.v 28))) .done) K38_11)) K38_6
@[simp] def W38_12 := @C.wpe _ _ K38_12.eq_1
def K38_13 : C := .seq (.cond 26 (.v 26) (.skip) (.exit 7)) K38_12
@[simp] def W38_13 := @C.wpe _ _ K38_13.eq_1
def K38_14 : C := .seq (.pl <| .st (.ext 26 1) <|
    .st (.act none (.px (some 26) (.bin .lss (.v 25) (.v 24)))) .done) K38_13
@[simp] def W38_14 := @C.wpe _ _ K38_14.eq_1
def K38_15 : C := .block 7 (.loop 26 [0, 1, 4, 7, 11, 12, 13] K38_14)
@[simp] def W38_15 := @C.wpe _ _ K38_15.eq_1
def K38_16 : C := .seq (.pl <| .st (.ext 26 1) <|
    .st (.act none (.als 26 none 11)) <|
    .st (.act none (.pget (some 23) (some 26) 11 1 none)) <|
    .st (.act none (.px (some 24) (.lenV (.v 23)))) <|
    .st (.act none (.px (some 25) (.mv (.c (.int .i64 0))))) .done) K38_15
@[simp] def W38_16 := @C.wpe _ _ K38_16.eq_1
def K38_17 : C := .seq (.block 6 (.seq (.pl <| .st (.ext 26 3) <|
    .st (.act none (.px (some 26) (.mv (.v 22)))) <|
    .st (.act none (.px (some 27) (.ia 2 (.v 20) (.v 22)))) <|
    .st (.act none (.ld (some 28) (.v 27) (some 2))) <|
    .st (.act none (.pnew 11 (.c (.agg #[.int .i64 0, .slice none 0 0])) [])) <|
    .st (.act none (.px (some 10) (.mv (.v 26)))) <|
    .st (.act none (.pset none 11 0 2 (.v 28))) .done) K38_16)) K38_5
@[simp] def W38_17 := @C.wpe _ _ K38_17.eq_1
def K38_18 : C := .seq (.cond 26 (.v 26) (.skip) (.exit 5)) K38_17
@[simp] def W38_18 := @C.wpe _ _ K38_18.eq_1
def K38_19 : C := .seq (.pl <| .st (.ext 26 1) <|
    .st (.act none (.px (some 26) (.bin .lss (.v 22) (.v 21)))) .done) K38_18
@[simp] def W38_19 := @C.wpe _ _ K38_19.eq_1
def K38_20 : C := .block 5 (.loop 26 [0, 1, 4, 7, 10, 11, 12, 13, 23, 24, 25] K38_19)
@[simp] def W38_20 := @C.wpe _ _ K38_20.eq_1
def K38_21 : C := .seq (.pl <| .st (.ext 26 1) <|
    .st (.act none (.als 26 none 2)) <|
    .st (.act none (.pget (some 20) (some 26) 2 1 none)) <|
    .st (.act none (.px (some 21) (.lenV (.v 20)))) <|
    .st (.act none (.px (some 22) (.mv (.c (.int .i64 0))))) .done) K38_20
@[simp] def W38_21 := @C.wpe _ _ K38_21.eq_1
def K38_22 : Pl := .st (.act none (.px (some 5) (.mv (.v 31)))) .done
@[simp] def W38_22 := @Pl.wpe _ _ K38_22.eq_1
def K38_23 : C := .seq (.pl <| .st (.ext 26 6) <|
    .st (.act none (.px (some 26) (.mv (.v 5)))) <|
    .st (.act none (.px (some 27) (.mv (.v 6)))) <|
    .st (.act none (.px (some 28) (.mv (.v 8)))) <|
    .st (.act none (.px (some 29) (.build [.int .i64 0, .int .i64 0, .int .i64 0, .int .i64 0] [(0, 1, .v 27), (1, 1, .v 28), (2, 1, .c (.int .i64 (-1))), (3, 1, .c (.int .i64 (-1)))]))) <|
    .st (.act none (.psl 30 [.int .i64 0, .int .i64 0, .int .i64 0, .int .i64 0] [(0, 4, .v 29)])) <|
    .st (.act none (.ex (some 31) (.app 32 4 [.int .i64 0, .int .i64 0, .int .i64 0, .int .i64 0] (.o (.v 26)) (.p 1 30)))) K38_22) (.exit 3)
@[simp] def W38_23 := @C.wpe _ _ K38_23.eq_1
def K38_24 : C := .cond 26 (.v 29) K38_23 (.skip)
@[simp] def W38_24 := @C.wpe _ _ K38_24.eq_1
def K38_25 : C := .seq (.pl <| .st (.ext 26 4) <|
    .st (.act none (.als 26 none 9)) <|
    .st (.act none (.pget (some 27) (some 26) 9 9 none)) <|
    .st (.act none (.px (some 28) (.bin .eql (.v 27) (.c (.int .i64 0))))) <|
    .st (.act none (.px (some 29) (.mv (.v 28)))) .done) K38_24
@[simp] def W38_25 := @C.wpe _ _ K38_25.eq_1
def K38_26 : C := .cond 26 (.v 37) (.exit 3) K38_25
@[simp] def W38_26 := @C.wpe _ _ K38_26.eq_1
def K38_27 : Pl := .st (.act none (.px (some 31) (.un .not (.v 30)))) <|
    .st (.act none (.px (some 32) (.mv (.v 31)))) <|
    .st (.act (some (.v 32, false)) (.als 33 none 9)) <|
    .st (.act (some (.v 32, false)) (.pget (some 34) (some 33) 9 9 none)) <|
    .st (.act (some (.v 32, false)) (.px (some 35) (.bin .lss (.v 34) (.c (.int .i64 0))))) <|
    .st (.act none (.px (some 36) (.pick (.v 32) (.c (.bool true)) (.v 35)))) <|
    .st (.act none (.px (some 37) (.mv (.v 36)))) .done
@[simp] def W38_27 := @Pl.wpe _ _ K38_27.eq_1
def K38_28 : C := .seq (.block 4 (.seq (.pl <| .st (.ext 26 12) <|
    .st (.act none (.pget (some 26) none 2 0 (some 2))) <|
    .st (.act none (.pget (some 27) none 3 0 (some 2))) <|
    .st (.act none (.px (some 28) (.mv (.v 6)))) <|
    .st (.act none (.px (some 29) (.mv (.v 8)))) <|
    .st (.act none (.ex (some 30) (.call fn_impl_System_ready [.v 26, .v 27, .v 28, .v 29]))) K38_27) K38_26)) K38_21
@[simp] def W38_28 := @C.wpe _ _ K38_28.eq_1
def K38_29 : C := .seq (.block 3 (.seq (.pl <| .st (.ext 26 3) <|
    .st (.act none (.px (some 26) (.mv (.v 19)))) <|
    .st (.act none (.px (some 27) (.ia 10 (.v 17) (.v 19)))) <|
    .st (.act none (.ld (some 28) (.v 27) (some 10))) <|
    .st (.act none (.pnew 9 (.c (.agg #[.int .i64 0, .int .i64 0, .int .i64 0, .int .i64 0, .slice none 0 0, .int .i64 0, .int .i64 0, .int .i64 0, .slice none 0 0, .int .i64 0])) [])) <|
    .st (.act none (.px (some 8) (.mv (.v 26)))) <|
    .st (.act none (.pset none 9 0 10 (.v 28))) .done) K38_28)) K38_4
@[simp] def W38_29 := @C.wpe _ _ K38_29.eq_1
def K38_30 : C := .seq (.cond 26 (.v 26) (.skip) (.exit 2)) K38_29
@[simp] def W38_30 := @C.wpe _ _ K38_30.eq_1
def K38_31 : C := .seq (.pl <| .st (.ext 26 1) <|
    .st (.act none (.px (some 26) (.bin .lss (.v 19) (.v 18)))) .done) K38_30
@[simp] def W38_31 := @C.wpe _ _ K38_31.eq_1
def K38_32 : C := .block 2 (.loop 26 [0, 1, 4, 7, 8, 9, 10, 11, 12, 13, 20, 21, 22, 23, 24, 25] K38_31)
@[simp] def W38_32 := @C.wpe _ _ K38_32.eq_1
def K38_33 : C := .seq (.pl <| .st (.ext 26 1) <|
    .st (.act none (.als 26 none 7)) <|
    .st (.act none (.pget (some 17) (some 26) 7 1 none)) <|
    .st (.act none (.px (some 18) (.lenV (.v 17)))) <|
    .st (.act none (.px (some 19) (.mv (.c (.int .i64 0))))) .done) K38_32
@[simp] def W38_33 := @C.wpe _ _ K38_33.eq_1
def K38_34 : C := .seq (.block 1 (.seq (.pl <| .st (.ext 26 3) <|
    .st (.act none (.px (some 26) (.mv (.v 16)))) <|
    .st (.act none (.px (some 27) (.ia 2 (.v 14) (.v 16)))) <|
    .st (.act none (.ld (some 28) (.v 27) (some 2))) <|
    .st (.act none (.pnew 7 (.c (.agg #[.int .i64 0, .slice none 0 0])) [])) <|
    .st (.act none (.px (some 6) (.mv (.v 26)))) <|
    .st (.act none (.pset none 7 0 2 (.v 28))) .done) K38_33)) K38_3
@[simp] def W38_34 := @C.wpe _ _ K38_34.eq_1
def K38_35 : C := .seq (.cond 26 (.v 26) (.skip) (.exit 0)) K38_34
@[simp] def W38_35 := @C.wpe _ _ K38_35.eq_1
def K38_36 : C := .seq (.pl <| .st (.ext 26 1) <|
    .st (.act none (.px (some 26) (.bin .lss (.v 16) (.v 15)))) .done) K38_35
@[simp] def W38_36 := @C.wpe _ _ K38_36.eq_1
def K38_37 : C := .block 0 (.loop 26 [0, 1, 4, 6, 7, 8, 9, 10, 11, 12, 13, 17, 18, 19, 20, 21, 22, 23, 24, 25] K38_36)
@[simp] def W38_37 := @C.wpe _ _ K38_37.eq_1
def K38_38 : C := .seq (.seq (.pl <| .st (.ext 26 1) <|
    .st (.act none (.als 26 none 2)) <|
    .st (.act none (.pget (some 14) (some 26) 2 1 none)) <|
    .st (.act none (.px (some 15) (.lenV (.v 14)))) <|
    .st (.act none (.px (some 16) (.mv (.c (.int .i64 0))))) .done) K38_37) K38_2
@[simp] def W38_38 := @C.wpe _ _ K38_38.eq_1
def K38_39 : C := .seq (.pl <| .st (.ext 26 0) <|
    .st (.act none (.px (some 5) (.mv (.c (.slice none 0 0))))) .done) K38_38
@[simp] def W38_39 := @C.wpe _ _ K38_39.eq_1
def B_impl_System_enabled : C := .seq (.pl <| .st (.ext 26 0) <|
    .st (.act none (.pnew 2 (.v 0) [])) <|
    .st (.act none (.pnew 3 (.v 1) [])) <|
    .st (.act none (.px (some 4) (.mv (.c (.slice none 0 0))))) .done) K38_39
@[simp] def WB_impl_System_enabled := @C.wpe _ _ B_impl_System_enabled.eq_1
def R_impl_System_enabled : FIR := ⟨B_impl_System_enabled, 26, [(4, none)]⟩
theorem IR_impl_System_enabled : cfun Tryz.prog H_impl_System_enabled Tryz.f38 = some R_impl_System_enabled := by kernel_rfl
theorem EN_impl_System_enabled {args : List Value} {h : Heap} {k : Value → Heap → Prop} (hargs : args.length = 2) (hw : B_impl_System_enabled.wp Tryz.prog (retQ [(4, none)] k) (env0 args 26) h) : CallE Tryz.prog fn_impl_System_enabled args h k := enter Tryz.func38 rfl IR_impl_System_enabled hargs hw

def H_impl_System_initial : Hint := ⟨[(0, false), (1, true), (2, true)], []⟩
def K82_1 : Pl := .st (.act none (.px (some 10) (.build [.slice none 0 0, .slice none 0 0] [(0, 1, .v 6), (1, 1, .v 9)]))) <|
    .st (.act none (.pset none 2 0 2 (.v 10))) .done
@[simp] def W82_1 := @Pl.wpe _ _ K82_1.eq_1
def K82_2 : Pl := .st (.act none (.ex (some 9) (.call fn_impl_clone_int [.v 8]))) K82_1
@[simp] def W82_2 := @Pl.wpe _ _ K82_2.eq_1
def K82_3 : Pl := .st (.act none (.ex (some 6) (.mks 8 1 [.int .i64 0] (.v 5) (.v 5)))) K82_2
@[simp] def W82_3 := @Pl.wpe _ _ K82_3.eq_1
def K82_4 : Pl := .st (.act none (.px (some 10) (.build [.slice none 0 0, .slice none 0 0] [(0, 1, .v 6), (1, 1, .v 9)]))) <|
    .st (.act none (.pset none 2 0 2 (.v 10))) .done
@[simp] def W82_4 := @Pl.wpe _ _ K82_4.eq_1
def K82_5 : Pl := .st (.act none (.ex (some 6) (.mks 8 1 [.int .i64 0] (.v 5) (.v 5)))) K82_4
@[simp] def W82_5 := @Pl.wpe _ _ K82_5.eq_1
def K82_6 : Pl := .st (.act none (.ex (some 9) (.call fn_impl_clone_int [.v 8]))) K82_5
@[simp] def W82_6 := @Pl.wpe _ _ K82_6.eq_1
def K82_7 : C := .seq (.pl <| .st (.ext 3 8) <|
    .st (.act none (.als 3 none 1)) <|
    .st (.act none (.pget (some 4) (some 3) 1 1 none)) <|
    .st (.act none (.px (some 5) (.lenV (.v 4)))) <|
    .st (.act none (.als 7 none 1)) <|
    .st (.act none (.pget (some 8) (some 7) 1 0 none)) <|
    .both K82_3 K82_6) (.ret)
@[simp] def W82_7 := @C.wpe _ _ K82_7.eq_1
def B_impl_System_initial : C := .seq (.pl <| .st (.ext 3 0) <|
    .st (.act none (.pnew 1 (.v 0) [])) <|
    .st (.act none (.pnew 2 (.c (.agg #[.slice none 0 0, .slice none 0 0])) [])) .done) K82_7
@[simp] def WB_impl_System_initial := @C.wpe _ _ B_impl_System_initial.eq_1
def R_impl_System_initial : FIR := ⟨B_impl_System_initial, 3, [(2, some (some 2))]⟩
theorem IR_impl_System_initial : cfun Tryz.prog H_impl_System_initial Tryz.f82 = some R_impl_System_initial := by kernel_rfl
theorem EN_impl_System_initial {args : List Value} {h : Heap} {k : Value → Heap → Prop} (hargs : args.length = 1) (hw : B_impl_System_initial.wp Tryz.prog (retQ [(2, some (some 2))] k) (env0 args 3) h) : CallE Tryz.prog fn_impl_System_initial args h k := enter Tryz.func82 rfl IR_impl_System_initial hargs hw

def H_impl_System_ready : Hint := ⟨[(0, false), (1, false), (2, false), (3, false), (4, true), (5, true), (8, false), (9, true)], []⟩
def K72_1 : Pl := .st (.act (some (.v 16, true)) (.px (some 22) (.bin .neq (.v 21) (.c (.int .i64 0))))) <|
    .st (.act none (.px (some 23) (.pick (.v 16) (.v 22) (.c (.bool false))))) <|
    .st (.act none (.px (some 6) (.mv (.v 23)))) .done
@[simp] def W72_1 := @Pl.wpe _ _ K72_1.eq_1
def K72_2 : C := .seq (.pl <| .st (.ext 8 16) <|
    .st (.act none (.als 8 none 5)) <|
    .st (.act none (.pget (some 9) (some 8) 5 0 none)) <|
    .st (.act none (.px (some 10) (.mv (.v 2)))) <|
    .st (.act none (.px (some 11) (.ia 1 (.v 9) (.v 10)))) <|
    .st (.act none (.ld (some 12) (.v 11) none)) <|
    .st (.act none (.als 13 none 7)) <|
    .st (.act none (.pget (some 14) (some 13) 7 0 none)) <|
    .st (.act none (.px (some 15) (.bin .eql (.v 12) (.v 14)))) <|
    .st (.act none (.px (some 16) (.mv (.v 15)))) <|
    .st (.act (some (.v 16, true)) (.als 17 none 7)) <|
    .st (.act (some (.v 16, true)) (.pget (some 18) (some 17) 7 2 (some 3))) <|
    .st (.act (some (.v 16, true)) (.als 19 none 5)) <|
    .st (.act (some (.v 16, true)) (.pget (some 20) (some 19) 5 1 none)) <|
    .st (.act (some (.v 16, true)) (.ex (some 21) (.call fn_impl_Expr_eval [.v 18, .v 20]))) K72_1) (.ret)
@[simp] def W72_2 := @C.wpe _ _ K72_2.eq_1
def K72_3 : C := .seq (.pl <| .st (.ext 8 9) <|
    .st (.act none (.als 8 none 4)) <|
    .st (.act none (.pget (some 9) (some 8) 4 1 none)) <|
    .st (.act none (.px (some 10) (.mv (.v 2)))) <|
    .st (.act none (.px (some 11) (.ia 2 (.v 9) (.v 10)))) <|
    .st (.act none (.px (some 12) (.fa 1 (.v 11)))) <|
    .st (.act none (.ld (some 13) (.v 12) none)) <|
    .st (.act none (.px (some 14) (.mv (.v 3)))) <|
    .st (.act none (.px (some 15) (.ia 10 (.v 13) (.v 14)))) <|
    .st (.act none (.ld (some 16) (.v 15) (some 10))) <|
    .st (.act none (.pnew 7 (.c (.agg #[.int .i64 0, .int .i64 0, .int .i64 0, .int .i64 0, .slice none 0 0, .int .i64 0, .int .i64 0, .int .i64 0, .slice none 0 0, .int .i64 0])) [])) <|
    .st (.act none (.pset none 7 0 10 (.v 16))) .done) K72_2
@[simp] def W72_3 := @C.wpe _ _ K72_3.eq_1
def B_impl_System_ready : C := .seq (.pl <| .st (.ext 8 0) <|
    .st (.act none (.pnew 4 (.v 0) [])) <|
    .st (.act none (.pnew 5 (.v 1) [])) <|
    .st (.act none (.px (some 6) (.mv (.c (.bool false))))) .done) K72_3
@[simp] def WB_impl_System_ready := @C.wpe _ _ B_impl_System_ready.eq_1
def R_impl_System_ready : FIR := ⟨B_impl_System_ready, 8, [(6, none)]⟩
theorem IR_impl_System_ready : cfun Tryz.prog H_impl_System_ready Tryz.f72 = some R_impl_System_ready := by kernel_rfl
theorem EN_impl_System_ready {args : List Value} {h : Heap} {k : Value → Heap → Prop} (hargs : args.length = 4) (hw : B_impl_System_ready.wp Tryz.prog (retQ [(6, none)] k) (env0 args 8) h) : CallE Tryz.prog fn_impl_System_ready args h k := enter Tryz.func72 rfl IR_impl_System_ready hargs hw

def H_impl_clone_int : Hint := ⟨[(0, false), (2, false)], []⟩
def K112_1 : Pl := .st (.act none (.px (some 1) (.mv (.v 4)))) .done
@[simp] def W112_1 := @Pl.wpe _ _ K112_1.eq_1
def K112_2 : Pl := .st (.act none (.ex (some 4) (.call fn_slices_Clip_S_int_int [.v 3]))) K112_1
@[simp] def W112_2 := @Pl.wpe _ _ K112_2.eq_1
def K112_3 : C := .seq (.pl <| .st (.ext 2 3) <|
    .st (.act none (.px (some 2) (.mv (.v 0)))) <|
    .st (.act none (.ex (some 3) (.call fn_slices_Clone_S_int_int [.v 2]))) K112_2) (.ret)
@[simp] def W112_3 := @C.wpe _ _ K112_3.eq_1
def B_impl_clone_int : C := .seq (.pl <| .st (.ext 2 0) <|
    .st (.act none (.px (some 1) (.mv (.c (.slice none 0 0))))) .done) K112_3
@[simp] def WB_impl_clone_int := @C.wpe _ _ B_impl_clone_int.eq_1
def R_impl_clone_int : FIR := ⟨B_impl_clone_int, 2, [(1, none)]⟩
theorem IR_impl_clone_int : cfun Tryz.prog H_impl_clone_int Tryz.f112 = some R_impl_clone_int := by kernel_rfl
theorem EN_impl_clone_int {args : List Value} {h : Heap} {k : Value → Heap → Prop} (hargs : args.length = 1) (hw : B_impl_clone_int.wp Tryz.prog (retQ [(1, none)] k) (env0 args 2) h) : CallE Tryz.prog fn_impl_clone_int args h k := enter Tryz.func112 rfl IR_impl_clone_int hargs hw

def H_impl_in : Hint := ⟨[(0, false), (1, false), (2, false), (6, false)], []⟩
def K37_1 : C := .seq (.pl <| .st (.ext 4 8) <|
    .st (.act none (.px (some 4) (.mv (.v 0)))) <|
    .st (.act none (.px (some 5) (.mv (.v 1)))) <|
    .st (.act none (.px (some 6) (.bin .geq (.v 4) (.v 5)))) <|
    .st (.act none (.px (some 7) (.mv (.v 6)))) <|
    .st (.act (some (.v 7, true)) (.px (some 8) (.mv (.v 0)))) <|
    .st (.act (some (.v 7, true)) (.px (some 9) (.mv (.v 2)))) <|
    .st (.act (some (.v 7, true)) (.px (some 10) (.bin .leq (.v 8) (.v 9)))) <|
    .st (.act none (.px (some 11) (.pick (.v 7) (.v 10) (.c (.bool false))))) <|
    .st (.act none (.px (some 3) (.mv (.v 11)))) .done) (.ret)
@[simp] def W37_1 := @C.wpe _ _ K37_1.eq_1
def B_impl_in : C := .seq (.pl <| .st (.ext 4 0) <|
    .st (.act none (.px (some 3) (.mv (.c (.bool false))))) .done) K37_1
@[simp] def WB_impl_in := @C.wpe _ _ B_impl_in.eq_1
def R_impl_in : FIR := ⟨B_impl_in, 4, [(3, none)]⟩
theorem IR_impl_in : cfun Tryz.prog H_impl_in Tryz.f37 = some R_impl_in := by kernel_rfl
theorem EN_impl_in {args : List Value} {h : Heap} {k : Value → Heap → Prop} (hargs : args.length = 3) (hw : B_impl_in.wp Tryz.prog (retQ [(3, none)] k) (env0 args 4) h) : CallE Tryz.prog fn_impl_in args h k := enter Tryz.func37 rfl IR_impl_in hargs hw

def H_impl_truth : Hint := ⟨[(0, false), (2, false)], []⟩
def K102_1 : C := .seq (.pl <| .st (.ext 2 0) <|
    .st (.act none (.px (some 1) (.mv (.c (.int .i64 0))))) .done) (.ret)
@[simp] def W102_1 := @C.wpe _ _ K102_1.eq_1
def K102_2 : C := .seq (.pl <| .st (.ext 2 0) <|
    .st (.act none (.px (some 1) (.mv (.c (.int .i64 1))))) .done) (.ret)
@[simp] def W102_2 := @C.wpe _ _ K102_2.eq_1
def K102_3 : C := .cond 2 (.v 2) K102_2 (.skip)
@[simp] def W102_3 := @C.wpe _ _ K102_3.eq_1
def K102_4 : C := .seq (.seq (.pl <| .st (.ext 2 1) <|
    .st (.act none (.px (some 2) (.mv (.v 0)))) .done) K102_3) K102_1
@[simp] def W102_4 := @C.wpe _ _ K102_4.eq_1
def B_impl_truth : C := .seq (.pl <| .st (.ext 2 0) <|
    .st (.act none (.px (some 1) (.mv (.c (.int .i64 0))))) .done) K102_4
@[simp] def WB_impl_truth := @C.wpe _ _ B_impl_truth.eq_1
def R_impl_truth : FIR := ⟨B_impl_truth, 2, [(1, none)]⟩
theorem IR_impl_truth : cfun Tryz.prog H_impl_truth Tryz.f102 = some R_impl_truth := by kernel_rfl
theorem EN_impl_truth {args : List Value} {h : Heap} {k : Value → Heap → Prop} (hargs : args.length = 1) (hw : B_impl_truth.wp Tryz.prog (retQ [(1, none)] k) (env0 args 2) h) : CallE Tryz.prog fn_impl_truth args h k := enter Tryz.func102 rfl IR_impl_truth hargs hw

def H_impl_valsOk : Hint := ⟨[(0, false), (2, false)], []⟩
def K78_1 : Pl := .st (.act (some (.v 5, true)) (.px (some 8) (.un .not (.v 7)))) <|
    .st (.act none (.px (some 9) (.pick (.v 5) (.v 8) (.c (.bool false))))) <|
    .st (.act none (.px (some 1) (.mv (.v 9)))) .done
@[simp] def W78_1 := @Pl.wpe _ _ K78_1.eq_1
def K78_2 : C := .seq (.pl <| .st (.ext 2 8) <|
    .st (.act none (.px (some 2) (.mv (.v 0)))) <|
    .st (.act none (.px (some 3) (.lenV (.v 2)))) <|
    .st (.act none (.px (some 4) (.bin .eql (.v 3) (.c (.int .i64 3))))) <|
    .st (.act none (.px (some 5) (.mv (.v 4)))) <|
    .st (.act (some (.v 5, true)) (.px (some 6) (.mv (.v 0)))) <|
    .st (.act (some (.v 5, true)) (.ex (some 7) (.call fn_slices_ContainsFunc_S_int_int [.v 6, .c (.func (.func 109) #[] #[])]))) K78_1) (.ret)
@[simp] def W78_2 := @C.wpe _ _ K78_2.eq_1
def B_impl_valsOk : C := .seq (.pl <| .st (.ext 2 0) <|
    .st (.act none (.px (some 1) (.mv (.c (.bool false))))) .done) K78_2
@[simp] def WB_impl_valsOk := @C.wpe _ _ B_impl_valsOk.eq_1
def R_impl_valsOk : FIR := ⟨B_impl_valsOk, 2, [(1, none)]⟩
theorem IR_impl_valsOk : cfun Tryz.prog H_impl_valsOk Tryz.f78 = some R_impl_valsOk := by kernel_rfl
theorem EN_impl_valsOk {args : List Value} {h : Heap} {k : Value → Heap → Prop} (hargs : args.length = 1) (hw : B_impl_valsOk.wp Tryz.prog (retQ [(1, none)] k) (env0 args 2) h) : CallE Tryz.prog fn_impl_valsOk args h k := enter Tryz.func78 rfl IR_impl_valsOk hargs hw

def H_impl_valsOk_1 : Hint := ⟨[(0, false), (2, false)], []⟩
def K109_1 : Pl := .st (.act none (.px (some 4) (.un .not (.v 3)))) <|
    .st (.act none (.px (some 1) (.mv (.v 4)))) .done
@[simp] def W109_1 := @Pl.wpe _ _ K109_1.eq_1
def K109_2 : C := .seq (.pl <| .st (.ext 2 3) <|
    .st (.act none (.px (some 2) (.mv (.v 0)))) <|
    .st (.act none (.ex (some 3) (.call fn_impl_in [.v 2, .c (.int .i64 0), .c (.int .i64 3)]))) K109_1) (.ret)
@[simp] def W109_2 := @C.wpe _ _ K109_2.eq_1
def B_impl_valsOk_1 : C := .seq (.pl <| .st (.ext 2 0) <|
    .st (.act none (.px (some 1) (.mv (.c (.bool false))))) .done) K109_2
@[simp] def WB_impl_valsOk_1 := @C.wpe _ _ B_impl_valsOk_1.eq_1
def R_impl_valsOk_1 : FIR := ⟨B_impl_valsOk_1, 2, [(1, none)]⟩
theorem IR_impl_valsOk_1 : cfun Tryz.prog H_impl_valsOk_1 Tryz.f109 = some R_impl_valsOk_1 := by kernel_rfl
theorem EN_impl_valsOk_1 {args : List Value} {h : Heap} {k : Value → Heap → Prop} (hargs : args.length = 1) (hw : B_impl_valsOk_1.wp Tryz.prog (retQ [(1, none)] k) (env0 args 2) h) : CallE Tryz.prog fn_impl_valsOk_1 args h k := enter Tryz.func109 rfl IR_impl_valsOk_1 hargs hw

def H_laws_eqEdge : Hint := ⟨[(0, false), (1, false), (2, true), (3, true), (4, false)], []⟩
def K124_1 : C := .seq (.pl <| .st (.ext 5 0) <|
    .st (.act none (.px (some 4) (.mv (.c (.bool true))))) .done) (.ret)
@[simp] def W124_1 := @C.wpe _ _ K124_1.eq_1
def K124_2 : C := .seq (.pl <| .st (.ext 5 0) <|
    .st (.act none (.px (some 4) (.mv (.c (.bool false))))) .done) (.ret)
@[simp] def W124_2 := @C.wpe _ _ K124_2.eq_1
def K124_3 : C := .cond 5 (.v 9) K124_2 (.skip)
@[simp] def W124_3 := @C.wpe _ _ K124_3.eq_1
def K124_4 : C := .seq (.seq (.pl <| .st (.ext 5 5) <|
    .st (.act none (.als 5 none 2)) <|
    .st (.act none (.pget (some 6) (some 5) 2 9 none)) <|
    .st (.act none (.als 7 none 3)) <|
    .st (.act none (.pget (some 8) (some 7) 3 9 none)) <|
    .st (.act none (.px (some 9) (.bin .neq (.v 6) (.v 8)))) .done) K124_3) K124_1
@[simp] def W124_4 := @C.wpe _ _ K124_4.eq_1
def K124_5 : C := .seq (.pl <| .st (.ext 5 0) <|
    .st (.act none (.px (some 4) (.mv (.c (.bool false))))) .done) (.ret)
@[simp] def W124_5 := @C.wpe _ _ K124_5.eq_1
def K124_6 : C := .cond 5 (.v 10) K124_5 (.skip)
@[simp] def W124_6 := @C.wpe _ _ K124_6.eq_1
def K124_7 : Pl := .st (.act none (.px (some 10) (.un .not (.v 9)))) .done
@[simp] def W124_7 := @Pl.wpe _ _ K124_7.eq_1
def K124_8 : C := .seq (.seq (.pl <| .st (.ext 5 6) <|
    .st (.act none (.als 5 none 2)) <|
    .st (.act none (.pget (some 6) (some 5) 2 6 (some 3))) <|
    .st (.act none (.als 7 none 3)) <|
    .st (.act none (.pget (some 8) (some 7) 3 6 (some 3))) <|
    .st (.act none (.ex (some 9) (.call fn_laws_eqExpr [.v 6, .v 8]))) K124_7) K124_6) K124_4
@[simp] def W124_8 := @C.wpe _ _ K124_8.eq_1
def K124_9 : C := .seq (.pl <| .st (.ext 5 0) <|
    .st (.act none (.px (some 4) (.mv (.c (.bool false))))) .done) (.ret)
@[simp] def W124_9 := @C.wpe _ _ K124_9.eq_1
def K124_10 : C := .cond 5 (.v 9) K124_9 (.skip)
@[simp] def W124_10 := @C.wpe _ _ K124_10.eq_1
def K124_11 : C := .seq (.seq (.pl <| .st (.ext 5 5) <|
    .st (.act none (.als 5 none 2)) <|
    .st (.act none (.pget (some 6) (some 5) 2 5 none)) <|
    .st (.act none (.als 7 none 3)) <|
    .st (.act none (.pget (some 8) (some 7) 3 5 none)) <|
    .st (.act none (.px (some 9) (.bin .neq (.v 6) (.v 8)))) .done) K124_10) K124_8
@[simp] def W124_11 := @C.wpe _ _ K124_11.eq_1
def K124_12 : C := .seq (.pl <| .st (.ext 5 0) <|
    .st (.act none (.px (some 4) (.mv (.c (.bool false))))) .done) (.ret)
@[simp] def W124_12 := @C.wpe _ _ K124_12.eq_1
def K124_13 : C := .cond 5 (.v 10) K124_12 (.skip)
@[simp] def W124_13 := @C.wpe _ _ K124_13.eq_1
def K124_14 : Pl := .st (.act none (.px (some 10) (.un .not (.v 9)))) .done
@[simp] def W124_14 := @Pl.wpe _ _ K124_14.eq_1
def K124_15 : C := .seq (.seq (.pl <| .st (.ext 5 6) <|
    .st (.act none (.als 5 none 2)) <|
    .st (.act none (.pget (some 6) (some 5) 2 2 (some 3))) <|
    .st (.act none (.als 7 none 3)) <|
    .st (.act none (.pget (some 8) (some 7) 3 2 (some 3))) <|
    .st (.act none (.ex (some 9) (.call fn_laws_eqExpr [.v 6, .v 8]))) K124_14) K124_13) K124_11
@[simp] def W124_15 := @C.wpe _ _ K124_15.eq_1
def K124_16 : C := .seq (.pl <| .st (.ext 5 0) <|
    .st (.act none (.px (some 4) (.mv (.c (.bool false))))) .done) (.ret)
@[simp] def W124_16 := @C.wpe _ _ K124_16.eq_1
def K124_17 : C := .cond 5 (.v 9) K124_16 (.skip)
@[simp] def W124_17 := @C.wpe _ _ K124_17.eq_1
def K124_18 : C := .seq (.seq (.pl <| .st (.ext 5 5) <|
    .st (.act none (.als 5 none 2)) <|
    .st (.act none (.pget (some 6) (some 5) 2 1 none)) <|
    .st (.act none (.als 7 none 3)) <|
    .st (.act none (.pget (some 8) (some 7) 3 1 none)) <|
    .st (.act none (.px (some 9) (.bin .neq (.v 6) (.v 8)))) .done) K124_17) K124_15
@[simp] def W124_18 := @C.wpe _ _ K124_18.eq_1
def K124_19 : C := .seq (.pl <| .st (.ext 5 0) <|
    .st (.act none (.px (some 4) (.mv (.c (.bool false))))) .done) (.ret)
@[simp] def W124_19 := @C.wpe _ _ K124_19.eq_1
def K124_20 : C := .cond 5 (.v 9) K124_19 (.skip)
@[simp] def W124_20 := @C.wpe _ _ K124_20.eq_1
def K124_21 : C := .seq (.seq (.pl <| .st (.ext 5 5) <|
    .st (.act none (.als 5 none 2)) <|
    .st (.act none (.pget (some 6) (some 5) 2 0 none)) <|
    .st (.act none (.als 7 none 3)) <|
    .st (.act none (.pget (some 8) (some 7) 3 0 none)) <|
    .st (.act none (.px (some 9) (.bin .neq (.v 6) (.v 8)))) .done) K124_20) K124_18
@[simp] def W124_21 := @C.wpe _ _ K124_21.eq_1
def B_laws_eqEdge : C := .seq (.pl <| .st (.ext 5 0) <|
    .st (.act none (.pnew 2 (.v 0) [])) <|
    .st (.act none (.pnew 3 (.v 1) [])) <|
    .st (.act none (.px (some 4) (.mv (.c (.bool false))))) .done) K124_21
@[simp] def WB_laws_eqEdge := @C.wpe _ _ B_laws_eqEdge.eq_1
def R_laws_eqEdge : FIR := ⟨B_laws_eqEdge, 5, [(4, none)]⟩
theorem IR_laws_eqEdge : cfun Tryz.prog H_laws_eqEdge Tryz.f124 = some R_laws_eqEdge := by kernel_rfl
theorem EN_laws_eqEdge {args : List Value} {h : Heap} {k : Value → Heap → Prop} (hargs : args.length = 2) (hw : B_laws_eqEdge.wp Tryz.prog (retQ [(4, none)] k) (env0 args 5) h) : CallE Tryz.prog fn_laws_eqEdge args h k := enter Tryz.func124 rfl IR_laws_eqEdge hargs hw

def H_laws_eqEdgeS : Hint := ⟨[(0, false), (1, false), (4, false), (5, false)], [[2]]⟩
def K106_1 : C := .seq (.pl <| .st (.ext 4 0) <|
    .st (.act none (.px (some 2) (.mv (.c (.bool true))))) .done) (.ret)
@[simp] def W106_1 := @C.wpe _ _ K106_1.eq_1
def K106_2 : C := .pl <| .st (.ext 4 2) <|
    .st (.act none (.px (some 4) (.mv (.v 3)))) <|
    .st (.act none (.px (some 5) (.bin .add (.v 4) (.c (.int .i64 1))))) <|
    .st (.act none (.px (some 3) (.mv (.v 5)))) .done
@[simp] def W106_2 := @C.wpe _ _ K106_2.eq_1
def K106_3 : C := .seq (.pl <| .st (.ext 4 0) <|
    .st (.act none (.px (some 2) (.mv (.c (.bool false))))) .done) (.ret)
@[simp] def W106_3 := @C.wpe _ _ K106_3.eq_1
def K106_4 : C := .cond 4 (.v 13) K106_3 (.skip)
@[simp] def W106_4 := @C.wpe _ _ K106_4.eq_1
def K106_5 : Pl := .st (.act none (.px (some 13) (.un .not (.v 12)))) .done
@[simp] def W106_5 := @Pl.wpe _ _ K106_5.eq_1
def K106_6 : C := .seq (.block 1 (.seq (.pl <| .st (.ext 4 10) <|
    .st (.act none (.px (some 4) (.mv (.v 0)))) <|
    .st (.act none (.px (some 5) (.mv (.v 3)))) <|
    .st (.act none (.px (some 6) (.ia 10 (.v 4) (.v 5)))) <|
    .st (.act none (.ld (some 7) (.v 6) (some 10))) <|
    .st (.act none (.px (some 8) (.mv (.v 1)))) <|
    .st (.act none (.px (some 9) (.mv (.v 3)))) <|
    .st (.act none (.px (some 10) (.ia 10 (.v 8) (.v 9)))) <|
    .st (.act none (.ld (some 11) (.v 10) (some 10))) <|
    .st (.act none (.ex (some 12) (.call fn_laws_eqEdge [.v 7, .v 11]))) K106_5) K106_4)) K106_2
@[simp] def W106_6 := @C.wpe _ _ K106_6.eq_1
def K106_7 : C := .cond 4 (.v 7) (.skip) (.exit 0)
@[simp] def W106_7 := @C.wpe _ _ K106_7.eq_1
def K106_8 : C := .seq (.seq (.pl <| .st (.ext 4 4) <|
    .st (.act none (.px (some 4) (.mv (.v 3)))) <|
    .st (.act none (.px (some 5) (.mv (.v 0)))) <|
    .st (.act none (.px (some 6) (.lenV (.v 5)))) <|
    .st (.act none (.px (some 7) (.bin .lss (.v 4) (.v 6)))) .done) K106_7) K106_6
@[simp] def W106_8 := @C.wpe _ _ K106_8.eq_1
def K106_9 : C := .block 0 (.loop 4 [2] K106_8)
@[simp] def W106_9 := @C.wpe _ _ K106_9.eq_1
def K106_10 : C := .seq (.seq (.pl <| .st (.ext 4 0) <|
    .st (.act none (.px (some 3) (.mv (.c (.int .i64 0))))) .done) K106_9) K106_1
@[simp] def W106_10 := @C.wpe _ _ K106_10.eq_1
def K106_11 : C := .seq (.pl <| .st (.ext 4 0) <|
    .st (.act none (.px (some 2) (.mv (.c (.bool false))))) .done) (.ret)
@[simp] def W106_11 := @C.wpe _ _ K106_11.eq_1
def K106_12 : C := .cond 4 (.v 8) K106_11 (.skip)
@[simp] def W106_12 := @C.wpe _ _ K106_12.eq_1
def K106_13 : C := .seq (.seq (.pl <| .st (.ext 4 5) <|
    .st (.act none (.px (some 4) (.mv (.v 0)))) <|
    .st (.act none (.px (some 5) (.lenV (.v 4)))) <|
    .st (.act none (.px (some 6) (.mv (.v 1)))) <|
    .st (.act none (.px (some 7) (.lenV (.v 6)))) <|
    .st (.act none (.px (some 8) (.bin .neq (.v 5) (.v 7)))) .done) K106_12) K106_10
@[simp] def W106_13 := @C.wpe _ _ K106_13.eq_1
def B_laws_eqEdgeS : C := .seq (.pl <| .st (.ext 4 0) <|
    .st (.act none (.px (some 2) (.mv (.c (.bool false))))) .done) K106_13
@[simp] def WB_laws_eqEdgeS := @C.wpe _ _ B_laws_eqEdgeS.eq_1
def R_laws_eqEdgeS : FIR := ⟨B_laws_eqEdgeS, 4, [(2, none)]⟩
theorem IR_laws_eqEdgeS : cfun Tryz.prog H_laws_eqEdgeS Tryz.f106 = some R_laws_eqEdgeS := by kernel_rfl
theorem EN_laws_eqEdgeS {args : List Value} {h : Heap} {k : Value → Heap → Prop} (hargs : args.length = 2) (hw : B_laws_eqEdgeS.wp Tryz.prog (retQ [(2, none)] k) (env0 args 4) h) : CallE Tryz.prog fn_laws_eqEdgeS args h k := enter Tryz.func106 rfl IR_laws_eqEdgeS hargs hw

def H_laws_eqExpr : Hint := ⟨[(0, false), (1, false), (2, true), (3, true), (4, false)], []⟩
def K26_1 : C := .seq (.pl <| .st (.ext 5 0) <|
    .st (.act none (.px (some 4) (.mv (.c (.bool true))))) .done) (.ret)
@[simp] def W26_1 := @C.wpe _ _ K26_1.eq_1
def K26_2 : C := .seq (.pl <| .st (.ext 5 0) <|
    .st (.act none (.px (some 4) (.mv (.c (.bool false))))) .done) (.ret)
@[simp] def W26_2 := @C.wpe _ _ K26_2.eq_1
def K26_3 : C := .cond 5 (.v 10) K26_2 (.skip)
@[simp] def W26_3 := @C.wpe _ _ K26_3.eq_1
def K26_4 : Pl := .st (.act none (.px (some 10) (.un .not (.v 9)))) .done
@[simp] def W26_4 := @Pl.wpe _ _ K26_4.eq_1
def K26_5 : C := .seq (.seq (.pl <| .st (.ext 5 6) <|
    .st (.act none (.als 5 none 2)) <|
    .st (.act none (.pget (some 6) (some 5) 2 2 none)) <|
    .st (.act none (.als 7 none 3)) <|
    .st (.act none (.pget (some 8) (some 7) 3 2 none)) <|
    .st (.act none (.ex (some 9) (.call fn_laws_eqExprS [.v 6, .v 8]))) K26_4) K26_3) K26_1
@[simp] def W26_5 := @C.wpe _ _ K26_5.eq_1
def K26_6 : C := .seq (.pl <| .st (.ext 5 0) <|
    .st (.act none (.px (some 4) (.mv (.c (.bool false))))) .done) (.ret)
@[simp] def W26_6 := @C.wpe _ _ K26_6.eq_1
def K26_7 : C := .cond 5 (.v 9) K26_6 (.skip)
@[simp] def W26_7 := @C.wpe _ _ K26_7.eq_1
def K26_8 : C := .seq (.seq (.pl <| .st (.ext 5 5) <|
    .st (.act none (.als 5 none 2)) <|
    .st (.act none (.pget (some 6) (some 5) 2 1 none)) <|
    .st (.act none (.als 7 none 3)) <|
    .st (.act none (.pget (some 8) (some 7) 3 1 none)) <|
    .st (.act none (.px (some 9) (.bin .neq (.v 6) (.v 8)))) .done) K26_7) K26_5
@[simp] def W26_8 := @C.wpe _ _ K26_8.eq_1
def K26_9 : C := .seq (.pl <| .st (.ext 5 0) <|
    .st (.act none (.px (some 4) (.mv (.c (.bool false))))) .done) (.ret)
@[simp] def W26_9 := @C.wpe _ _ K26_9.eq_1
def K26_10 : C := .cond 5 (.v 9) K26_9 (.skip)
@[simp] def W26_10 := @C.wpe _ _ K26_10.eq_1
def K26_11 : C := .seq (.seq (.pl <| .st (.ext 5 5) <|
    .st (.act none (.als 5 none 2)) <|
    .st (.act none (.pget (some 6) (some 5) 2 0 none)) <|
    .st (.act none (.als 7 none 3)) <|
    .st (.act none (.pget (some 8) (some 7) 3 0 none)) <|
    .st (.act none (.px (some 9) (.bin .neq (.v 6) (.v 8)))) .done) K26_10) K26_8
@[simp] def W26_11 := @C.wpe _ _ K26_11.eq_1
def B_laws_eqExpr : C := .seq (.pl <| .st (.ext 5 0) <|
    .st (.act none (.pnew 2 (.v 0) [])) <|
    .st (.act none (.pnew 3 (.v 1) [])) <|
    .st (.act none (.px (some 4) (.mv (.c (.bool false))))) .done) K26_11
@[simp] def WB_laws_eqExpr := @C.wpe _ _ B_laws_eqExpr.eq_1
def R_laws_eqExpr : FIR := ⟨B_laws_eqExpr, 5, [(4, none)]⟩
theorem IR_laws_eqExpr : cfun Tryz.prog H_laws_eqExpr Tryz.f26 = some R_laws_eqExpr := by kernel_rfl
theorem EN_laws_eqExpr {args : List Value} {h : Heap} {k : Value → Heap → Prop} (hargs : args.length = 2) (hw : B_laws_eqExpr.wp Tryz.prog (retQ [(4, none)] k) (env0 args 5) h) : CallE Tryz.prog fn_laws_eqExpr args h k := enter Tryz.func26 rfl IR_laws_eqExpr hargs hw

def H_laws_eqExprS : Hint := ⟨[(0, false), (1, false), (4, false), (5, false)], [[2]]⟩
def K63_1 : C := .seq (.pl <| .st (.ext 4 0) <|
    .st (.act none (.px (some 2) (.mv (.c (.bool true))))) .done) (.ret)
@[simp] def W63_1 := @C.wpe _ _ K63_1.eq_1
def K63_2 : C := .pl <| .st (.ext 4 2) <|
    .st (.act none (.px (some 4) (.mv (.v 3)))) <|
    .st (.act none (.px (some 5) (.bin .add (.v 4) (.c (.int .i64 1))))) <|
    .st (.act none (.px (some 3) (.mv (.v 5)))) .done
@[simp] def W63_2 := @C.wpe _ _ K63_2.eq_1
def K63_3 : C := .seq (.pl <| .st (.ext 4 0) <|
    .st (.act none (.px (some 2) (.mv (.c (.bool false))))) .done) (.ret)
@[simp] def W63_3 := @C.wpe _ _ K63_3.eq_1
def K63_4 : C := .cond 4 (.v 13) K63_3 (.skip)
@[simp] def W63_4 := @C.wpe _ _ K63_4.eq_1
def K63_5 : Pl := .st (.act none (.px (some 13) (.un .not (.v 12)))) .done
@[simp] def W63_5 := @Pl.wpe _ _ K63_5.eq_1
def K63_6 : C := .seq (.block 1 (.seq (.pl <| .st (.ext 4 10) <|
    .st (.act none (.px (some 4) (.mv (.v 0)))) <|
    .st (.act none (.px (some 5) (.mv (.v 3)))) <|
    .st (.act none (.px (some 6) (.ia 3 (.v 4) (.v 5)))) <|
    .st (.act none (.ld (some 7) (.v 6) (some 3))) <|
    .st (.act none (.px (some 8) (.mv (.v 1)))) <|
    .st (.act none (.px (some 9) (.mv (.v 3)))) <|
    .st (.act none (.px (some 10) (.ia 3 (.v 8) (.v 9)))) <|
    .st (.act none (.ld (some 11) (.v 10) (some 3))) <|
    .st (.act none (.ex (some 12) (.call fn_laws_eqExpr [.v 7, .v 11]))) K63_5) K63_4)) K63_2
@[simp] def W63_6 := @C.wpe _ _ K63_6.eq_1
def K63_7 : C := .cond 4 (.v 7) (.skip) (.exit 0)
@[simp] def W63_7 := @C.wpe _ _ K63_7.eq_1
def K63_8 : C := .seq (.seq (.pl <| .st (.ext 4 4) <|
    .st (.act none (.px (some 4) (.mv (.v 3)))) <|
    .st (.act none (.px (some 5) (.mv (.v 0)))) <|
    .st (.act none (.px (some 6) (.lenV (.v 5)))) <|
    .st (.act none (.px (some 7) (.bin .lss (.v 4) (.v 6)))) .done) K63_7) K63_6
@[simp] def W63_8 := @C.wpe _ _ K63_8.eq_1
def K63_9 : C := .block 0 (.loop 4 [2] K63_8)
@[simp] def W63_9 := @C.wpe _ _ K63_9.eq_1
def K63_10 : C := .seq (.seq (.pl <| .st (.ext 4 0) <|
    .st (.act none (.px (some 3) (.mv (.c (.int .i64 0))))) .done) K63_9) K63_1
@[simp] def W63_10 := @C.wpe _ _ K63_10.eq_1
def K63_11 : C := .seq (.pl <| .st (.ext 4 0) <|
    .st (.act none (.px (some 2) (.mv (.c (.bool false))))) .done) (.ret)
@[simp] def W63_11 := @C.wpe _ _ K63_11.eq_1
def K63_12 : C := .cond 4 (.v 8) K63_11 (.skip)
@[simp] def W63_12 := @C.wpe _ _ K63_12.eq_1
def K63_13 : C := .seq (.seq (.pl <| .st (.ext 4 5) <|
    .st (.act none (.px (some 4) (.mv (.v 0)))) <|
    .st (.act none (.px (some 5) (.lenV (.v 4)))) <|
    .st (.act none (.px (some 6) (.mv (.v 1)))) <|
    .st (.act none (.px (some 7) (.lenV (.v 6)))) <|
    .st (.act none (.px (some 8) (.bin .neq (.v 5) (.v 7)))) .done) K63_12) K63_10
@[simp] def W63_13 := @C.wpe _ _ K63_13.eq_1
def B_laws_eqExprS : C := .seq (.pl <| .st (.ext 4 0) <|
    .st (.act none (.px (some 2) (.mv (.c (.bool false))))) .done) K63_13
@[simp] def WB_laws_eqExprS := @C.wpe _ _ B_laws_eqExprS.eq_1
def R_laws_eqExprS : FIR := ⟨B_laws_eqExprS, 4, [(2, none)]⟩
theorem IR_laws_eqExprS : cfun Tryz.prog H_laws_eqExprS Tryz.f63 = some R_laws_eqExprS := by kernel_rfl
theorem EN_laws_eqExprS {args : List Value} {h : Heap} {k : Value → Heap → Prop} (hargs : args.length = 2) (hw : B_laws_eqExprS.wp Tryz.prog (retQ [(2, none)] k) (env0 args 4) h) : CallE Tryz.prog fn_laws_eqExprS args h k := enter Tryz.func63 rfl IR_laws_eqExprS hargs hw


end Go.Proofs.YthgimpheeemooaaGreat

/-
  Bodies of functions in the small language, as a program printed them, and that each is what the translation gives.
-/
namespace Go.Proofs.YthgimpheeemooaaGreat
open Go
set_option linter.all false
set_option linter.defProp false
set_option maxRecDepth 1000000

def H_spec_l3Steps : Hint := ⟨[(0, false), (1, false), (2, true), (3, true), (4, false), (5, false), (6, false), (7, false), (8, false)], [[0, 1, 4, 7, 8], [0, 1, 4, 8]]⟩
def K34_1 : C := .seq (.pl <| .st (.ext 9 1) <|
    .st (.act none (.px (some 9) (.mv (.v 5)))) <|
    .st (.act none (.px (some 4) (.mv (.v 9)))) .done) (.ret)
@[simp] def W34_1 := @C.wpe _ _ K34_1.eq_1
def K34_2 : C := .pl <| .st (.ext 9 2) <|
    .st (.act none (.px (some 9) (.mv (.v 6)))) <|
    .st (.act none (.px (some 10) (.bin .add (.v 9) (.c (.int .i64 1))))) <|
    .st (.act none (.px (some 6) (.mv (.v 10)))) .done
@[simp] def W34_2 := @C.wpe _ _ K34_2.eq_1
def K34_3 : C := .pl <| .st (.ext 9 2) <|
    .st (.act none (.px (some 9) (.mv (.v 7)))) <|
    .st (.act none (.px (some 10) (.bin .add (.v 9) (.c (.int .i64 1))))) <|
    .st (.act none (.px (some 7) (.mv (.v 10)))) .done
@[simp] def W34_3 := @C.wpe _ _ K34_3.eq_1
def K34_4 : Pl := .st (.act none (.px (some 5) (.mv (.v 14)))) .done
@[simp] def W34_4 := @Pl.wpe _ _ K34_4.eq_1
def K34_5 : C := .pl <| .st (.ext 9 6) <|
    .st (.act none (.px (some 9) (.mv (.v 5)))) <|
    .st (.act none (.px (some 10) (.mv (.v 6)))) <|
    .st (.act none (.px (some 11) (.mv (.v 7)))) <|
    .st (.act none (.px (some 12) (.build [.int .i64 0, .int .i64 0, .int .i64 0, .int .i64 0] [(0, 1, .v 10), (1, 1, .v 11), (2, 1, .c (.int .i64 (-1))), (3, 1, .c (.int .i64 (-1)))]))) <|
    .st (.act none (.psl 13 [.int .i64 0, .int .i64 0, .int .i64 0, .int .i64 0] [(0, 4, .v 12)])) <|
    .st (.act none (.ex (some 14) (.app 32 4 [.int .i64 0, .int .i64 0, .int .i64 0, .int .i64 0] (.o (.v 9)) (.p 1 13)))) K34_4
@[simp] def W34_5 := @C.wpe _ _ K34_5.eq_1
def K34_6 : Pl := .st (.act none (.px (some 5) (.mv (.v 15)))) .done
@[simp] def W34_6 := @Pl.wpe _ _ K34_6.eq_1
def K34_7 : Pl := .st (.act none (.ex (some 15) (.app 32 4 [.int .i64 0, .int .i64 0, .int .i64 0, .int .i64 0] (.o (.v 9)) (.o (.v 14))))) K34_6
@[simp] def W34_7 := @Pl.wpe _ _ K34_7.eq_1
def K34_8 : C := .pl <| .st (.ext 9 7) <|
    .st (.act none (.px (some 9) (.mv (.v 5)))) <|
    .st (.act none (.pget (some 10) none 2 0 (some 2))) <|
    .st (.act none (.pget (some 11) none 3 0 (some 2))) <|
    .st (.act none (.px (some 12) (.mv (.v 6)))) <|
    .st (.act none (.px (some 13) (.mv (.v 7)))) <|
    .st (.act none (.ex (some 14) (.call fn_spec_l3Partners [.v 10, .v 11, .v 12, .v 13]))) K34_7
@[simp] def W34_8 := @C.wpe _ _ K34_8.eq_1
def K34_9 : C := .cond 9 (.v 10) K34_5 K34_8
@[simp] def W34_9 := @C.wpe _ _ K34_9.eq_1
def K34_10 : C := .seq (.pl <| .st (.ext 9 2) <|
    .st (.act none (.px (some 9) (.mv (.v 8)))) <|
    .st (.act none (.px (some 10) (.bin .eql (.v 9) (.c (.int .i64 0))))) .done) K34_9
@[simp] def W34_10 := @C.wpe _ _ K34_10.eq_1
def K34_11 : C := .cond 9 (.v 18) (.exit 3) (.skip)
@[simp] def W34_11 := @C.wpe _ _ K34_11.eq_1
def K34_12 : Pl := .st (.act (some (.v 11, false)) (.px (some 17) (.un .not (.v 16)))) <|
    .st (.act none (.px (some 18) (.pick (.v 11) (.c (.bool true)) (.v 17)))) .done
@[simp] def W34_12 := @Pl.wpe _ _ K34_12.eq_1
def K34_13 : C := .seq (.seq (.pl <| .st (.ext 9 10) <|
    .st (.act none (.px (some 9) (.mv (.v 8)))) <|
    .st (.act none (.px (some 10) (.bin .lss (.v 9) (.c (.int .i64 0))))) <|
    .st (.act none (.px (some 11) (.mv (.v 10)))) <|
    .st (.act (some (.v 11, false)) (.pget (some 12) none 2 0 (some 2))) <|
    .st (.act (some (.v 11, false)) (.pget (some 13) none 3 0 (some 2))) <|
    .st (.act (some (.v 11, false)) (.px (some 14) (.mv (.v 6)))) <|
    .st (.act (some (.v 11, false)) (.px (some 15) (.mv (.v 7)))) <|
    .st (.act (some (.v 11, false)) (.ex (some 16) (.call fn_spec_l3Ready [.v 12, .v 13, .v 14, .v 15]))) K34_12) K34_11) K34_10
@[simp] def W34_13 := @C.wpe _ _ K34_13.eq_1
def K34_14 : C := .seq (.block 3 (.seq (.pl <| .st (.ext 9 10) <|
    .st (.act none (.als 9 none 2)) <|
    .st (.act none (.pget (some 10) (some 9) 2 1 none)) <|
    .st (.act none (.px (some 11) (.mv (.v 6)))) <|
    .st (.act none (.px (some 12) (.ia 2 (.v 10) (.v 11)))) <|
    .st (.act none (.px (some 13) (.fa 1 (.v 12)))) <|
    .st (.act none (.ld (some 14) (.v 13) none)) <|
    .st (.act none (.px (some 15) (.mv (.v 7)))) <|
    .st (.act none (.px (some 16) (.ia 10 (.v 14) (.v 15)))) <|
    .st (.act none (.px (some 17) (.fa 9 (.v 16)))) <|
    .st (.act none (.ld (some 18) (.v 17) none)) <|
    .st (.act none (.px (some 8) (.mv (.v 18)))) .done) K34_13)) K34_3
@[simp] def W34_14 := @C.wpe _ _ K34_14.eq_1
def K34_15 : C := .cond 9 (.v 17) (.skip) (.exit 2)
@[simp] def W34_15 := @C.wpe _ _ K34_15.eq_1
def K34_16 : C := .seq (.seq (.pl <| .st (.ext 9 9) <|
    .st (.act none (.px (some 9) (.mv (.v 7)))) <|
    .st (.act none (.als 10 none 2)) <|
    .st (.act none (.pget (some 11) (some 10) 2 1 none)) <|
    .st (.act none (.px (some 12) (.mv (.v 6)))) <|
    .st (.act none (.px (some 13) (.ia 2 (.v 11) (.v 12)))) <|
    .st (.act none (.px (some 14) (.fa 1 (.v 13)))) <|
    .st (.act none (.ld (some 15) (.v 14) none)) <|
    .st (.act none (.px (some 16) (.lenV (.v 15)))) <|
    .st (.act none (.px (some 17) (.bin .lss (.v 9) (.v 16)))) .done) K34_15) K34_14
@[simp] def W34_16 := @C.wpe _ _ K34_16.eq_1
def K34_17 : C := .block 2 (.loop 9 [0, 1, 4, 8] K34_16)
@[simp] def W34_17 := @C.wpe _ _ K34_17.eq_1
def K34_18 : C := .seq (.block 1 (.seq (.pl <| .st (.ext 9 0) <|
    .st (.act none (.px (some 7) (.mv (.c (.int .i64 0))))) .done) K34_17)) K34_2
@[simp] def W34_18 := @C.wpe _ _ K34_18.eq_1
def K34_19 : C := .cond 9 (.v 13) (.skip) (.exit 0)
@[simp] def W34_19 := @C.wpe _ _ K34_19.eq_1
def K34_20 : C := .seq (.seq (.pl <| .st (.ext 9 5) <|
    .st (.act none (.px (some 9) (.mv (.v 6)))) <|
    .st (.act none (.als 10 none 2)) <|
    .st (.act none (.pget (some 11) (some 10) 2 1 none)) <|
    .st (.act none (.px (some 12) (.lenV (.v 11)))) <|
    .st (.act none (.px (some 13) (.bin .lss (.v 9) (.v 12)))) .done) K34_19) K34_18
@[simp] def W34_20 := @C.wpe _ _ K34_20.eq_1
def K34_21 : C := .block 0 (.loop 9 [0, 1, 4, 7, 8] K34_20)
@[simp] def W34_21 := @C.wpe _ _ K34_21.eq_1
def K34_22 : C := .seq (.seq (.pl <| .st (.ext 9 0) <|
    .st (.act none (.px (some 6) (.mv (.c (.int .i64 0))))) .done) K34_21) K34_1
@[simp] def W34_22 := @C.wpe _ _ K34_22.eq_1
def K34_23 : Pl := .st (.act none (.px (some 5) (.mv (.v 9)))) .done
@[simp] def W34_23 := @Pl.wpe _ _ K34_23.eq_1
def K34_24 : C := .seq (.pl <| .st (.ext 9 1) <|
    .st (.act none (.ex (some 9) (.bls 4 0 [.int .i64 0, .int .i64 0, .int .i64 0, .int .i64 0] []))) K34_23) K34_22
@[simp] def W34_24 := @C.wpe _ _ K34_24.eq_1
def B_spec_l3Steps : C := .seq (.pl <| .st (.ext 9 0) <|
    .st (.act none (.pnew 2 (.v 0) [])) <|
    .st (.act none (.pnew 3 (.v 1) [])) <|
    .st (.act none (.px (some 4) (.mv (.c (.slice none 0 0))))) .done) K34_24
@[simp] def WB_spec_l3Steps := @C.wpe _ _ B_spec_l3Steps.eq_1
def R_spec_l3Steps : FIR := ⟨B_spec_l3Steps, 9, [(4, none)]⟩
theorem IR_spec_l3Steps : cfun Tryz.prog H_spec_l3Steps Tryz.f34 = some R_spec_l3Steps := by kernel_rfl
theorem EN_spec_l3Steps {args : List Value} {h : Heap} {k : Value → Heap → Prop} (hargs : args.length = 2) (hw : B_spec_l3Steps.wp Tryz.prog (retQ [(4, none)] k) (env0 args 9) h) : CallE Tryz.prog fn_spec_l3Steps args h k := enter Tryz.func34 rfl IR_spec_l3Steps hargs hw

def H_spec_l3Take : Hint := ⟨[(0, false), (1, false), (2, false), (3, true), (5, true), (6, true)], []⟩
def K76_1 : C := .seq (.pl <| .st (.ext 6 1) <|
    .st (.act none (.pget (some 6) none 3 0 (some 2))) <|
    .st (.act none (.pset none 5 0 2 (.v 6))) .done) (.ret)
@[simp] def W76_1 := @C.wpe _ _ K76_1.eq_1
def K76_2 : Pl := .st (.act none (.px (some 15) (.ia 1 (.v 7) (.v 9)))) <|
    .st (.act none (.ex none (.store 1 (.v 15) (.v 14)))) .done
@[simp] def W76_2 := @Pl.wpe _ _ K76_2.eq_1
def K76_3 : C := .pl <| .st (.ext 6 10) <|
    .st (.act none (.als 6 none 3)) <|
    .st (.act none (.pget (some 7) (some 6) 3 1 none)) <|
    .st (.act none (.als 8 none 4)) <|
    .st (.act none (.pget (some 9) (some 8) 4 5 none)) <|
    .st (.act none (.als 10 none 4)) <|
    .st (.act none (.pget (some 11) (some 10) 4 6 (some 3))) <|
    .st (.act none (.als 12 none 3)) <|
    .st (.act none (.pget (some 13) (some 12) 3 1 none)) <|
    .st (.act none (.ex (some 14) (.call fn_spec_l1Eval [.v 11, .v 13]))) K76_2
@[simp] def W76_3 := @C.wpe _ _ K76_3.eq_1
def K76_4 : C := .cond 6 (.v 8) K76_3 (.skip)
@[simp] def W76_4 := @C.wpe _ _ K76_4.eq_1
def K76_5 : C := .seq (.seq (.pl <| .st (.ext 6 3) <|
    .st (.act none (.als 6 none 4)) <|
    .st (.act none (.pget (some 7) (some 6) 4 5 none)) <|
    .st (.act none (.px (some 8) (.bin .geq (.v 7) (.c (.int .i64 0))))) .done) K76_4) K76_1
@[simp] def W76_5 := @C.wpe _ _ K76_5.eq_1
def K76_6 : C := .seq (.pl <| .st (.ext 6 6) <|
    .st (.act none (.als 6 none 3)) <|
    .st (.act none (.pget (some 7) (some 6) 3 0 none)) <|
    .st (.act none (.px (some 8) (.mv (.v 1)))) <|
    .st (.act none (.als 9 none 4)) <|
    .st (.act none (.pget (some 10) (some 9) 4 1 none)) <|
    .st (.act none (.px (some 11) (.ia 1 (.v 7) (.v 8)))) <|
    .st (.act none (.ex none (.store 1 (.v 11) (.v 10)))) .done) K76_5
@[simp] def W76_6 := @C.wpe _ _ K76_6.eq_1
def B_spec_l3Take : C := .seq (.pl <| .st (.ext 6 0) <|
    .st (.act none (.pnew 3 (.v 0) [])) <|
    .st (.act none (.pnew 4 (.v 2) [])) <|
    .st (.act none (.pnew 5 (.c (.agg #[.slice none 0 0, .slice none 0 0])) [])) .done) K76_6
@[simp] def WB_spec_l3Take := @C.wpe _ _ B_spec_l3Take.eq_1
def R_spec_l3Take : FIR := ⟨B_spec_l3Take, 6, [(5, some (some 2))]⟩
theorem IR_spec_l3Take : cfun Tryz.prog H_spec_l3Take Tryz.f76 = some R_spec_l3Take := by kernel_rfl
theorem EN_spec_l3Take {args : List Value} {h : Heap} {k : Value → Heap → Prop} (hargs : args.length = 3) (hw : B_spec_l3Take.wp Tryz.prog (retQ [(5, some (some 2))] k) (env0 args 6) h) : CallE Tryz.prog fn_spec_l3Take args h k := enter Tryz.func76 rfl IR_spec_l3Take hargs hw

def H_spec_l4Find : Hint := ⟨[(0, false), (1, false), (3, true), (4, false), (5, false)], [[1, 3]]⟩
def K45_1 : C := .seq (.pl <| .st (.ext 5 0) <|
    .st (.act none (.px (some 3) (.mv (.c (.int .i64 (-1)))))) .done) (.ret)
@[simp] def W45_1 := @C.wpe _ _ K45_1.eq_1
def K45_2 : C := .pl <| .st (.ext 5 2) <|
    .st (.act none (.px (some 5) (.mv (.v 4)))) <|
    .st (.act none (.px (some 6) (.bin .add (.v 5) (.c (.int .i64 1))))) <|
    .st (.act none (.px (some 4) (.mv (.v 6)))) .done
@[simp] def W45_2 := @C.wpe _ _ K45_2.eq_1
def K45_3 : C := .seq (.pl <| .st (.ext 5 1) <|
    .st (.act none (.px (some 5) (.mv (.v 4)))) <|
    .st (.act none (.px (some 3) (.mv (.v 5)))) .done) (.ret)
@[simp] def W45_3 := @C.wpe _ _ K45_3.eq_1
def K45_4 : C := .cond 5 (.v 10) K45_3 (.skip)
@[simp] def W45_4 := @C.wpe _ _ K45_4.eq_1
def K45_5 : C := .seq (.block 1 (.seq (.pl <| .st (.ext 5 6) <|
    .st (.act none (.px (some 5) (.mv (.v 0)))) <|
    .st (.act none (.px (some 6) (.mv (.v 4)))) <|
    .st (.act none (.px (some 7) (.ia 2 (.v 5) (.v 6)))) <|
    .st (.act none (.ld (some 8) (.v 7) (some 2))) <|
    .st (.act none (.pget (some 9) none 2 0 (some 2))) <|
    .st (.act none (.ex (some 10) (.call fn_spec_StateSame [.v 8, .v 9]))) .done) K45_4)) K45_2
@[simp] def W45_5 := @C.wpe _ _ K45_5.eq_1
def K45_6 : C := .cond 5 (.v 8) (.skip) (.exit 0)
@[simp] def W45_6 := @C.wpe _ _ K45_6.eq_1
def K45_7 : C := .seq (.seq (.pl <| .st (.ext 5 4) <|
    .st (.act none (.px (some 5) (.mv (.v 4)))) <|
    .st (.act none (.px (some 6) (.mv (.v 0)))) <|
    .st (.act none (.px (some 7) (.lenV (.v 6)))) <|
    .st (.act none (.px (some 8) (.bin .lss (.v 5) (.v 7)))) .done) K45_6) K45_5
@[simp] def W45_7 := @C.wpe _ _ K45_7.eq_1
def K45_8 : C := .block 0 (.loop 5 [1, 3] K45_7)
@[simp] def W45_8 := @C.wpe _ _ K45_8.eq_1
def K45_9 : C := .seq (.seq (.pl <| .st (.ext 5 0) <|
    .st (.act none (.px (some 4) (.mv (.c (.int .i64 0))))) .done) K45_8) K45_1
@[simp] def W45_9 := @C.wpe _ _ K45_9.eq_1
def B_spec_l4Find : C := .seq (.pl <| .st (.ext 5 0) <|
    .st (.act none (.pnew 2 (.v 1) [])) <|
    .st (.act none (.px (some 3) (.mv (.c (.int .i64 0))))) .done) K45_9
@[simp] def WB_spec_l4Find := @C.wpe _ _ B_spec_l4Find.eq_1
def R_spec_l4Find : FIR := ⟨B_spec_l4Find, 5, [(3, none)]⟩
theorem IR_spec_l4Find : cfun Tryz.prog H_spec_l4Find Tryz.f45 = some R_spec_l4Find := by kernel_rfl
theorem EN_spec_l4Find {args : List Value} {h : Heap} {k : Value → Heap → Prop} (hargs : args.length = 2) (hw : B_spec_l4Find.wp Tryz.prog (retQ [(3, none)] k) (env0 args 5) h) : CallE Tryz.prog fn_spec_l4Find args h k := enter Tryz.func45 rfl IR_spec_l4Find hargs hw

def H_spec_l4In : Hint := ⟨[(0, false), (1, false), (4, false), (5, false)], [[2]]⟩
def K46_1 : C := .seq (.pl <| .st (.ext 4 0) <|
    .st (.act none (.px (some 2) (.mv (.c (.bool false))))) .done) (.ret)
@[simp] def W46_1 := @C.wpe _ _ K46_1.eq_1
def K46_2 : C := .pl <| .st (.ext 4 2) <|
    .st (.act none (.px (some 4) (.mv (.v 3)))) <|
    .st (.act none (.px (some 5) (.bin .add (.v 4) (.c (.int .i64 1))))) <|
    .st (.act none (.px (some 3) (.mv (.v 5)))) .done
@[simp] def W46_2 := @C.wpe _ _ K46_2.eq_1
def K46_3 : C := .seq (.pl <| .st (.ext 4 0) <|
    .st (.act none (.px (some 2) (.mv (.c (.bool true))))) .done) (.ret)
@[simp] def W46_3 := @C.wpe _ _ K46_3.eq_1
def K46_4 : C := .cond 4 (.v 9) K46_3 (.skip)
@[simp] def W46_4 := @C.wpe _ _ K46_4.eq_1
def K46_5 : C := .seq (.block 1 (.seq (.pl <| .st (.ext 4 6) <|
    .st (.act none (.px (some 4) (.mv (.v 0)))) <|
    .st (.act none (.px (some 5) (.mv (.v 3)))) <|
    .st (.act none (.px (some 6) (.ia 1 (.v 4) (.v 5)))) <|
    .st (.act none (.ld (some 7) (.v 6) none)) <|
    .st (.act none (.px (some 8) (.mv (.v 1)))) <|
    .st (.act none (.px (some 9) (.bin .eql (.v 7) (.v 8)))) .done) K46_4)) K46_2
@[simp] def W46_5 := @C.wpe _ _ K46_5.eq_1
def K46_6 : C := .cond 4 (.v 7) (.skip) (.exit 0)
@[simp] def W46_6 := @C.wpe _ _ K46_6.eq_1
def K46_7 : C := .seq (.seq (.pl <| .st (.ext 4 4) <|
    .st (.act none (.px (some 4) (.mv (.v 3)))) <|
    .st (.act none (.px (some 5) (.mv (.v 0)))) <|
    .st (.act none (.px (some 6) (.lenV (.v 5)))) <|
    .st (.act none (.px (some 7) (.bin .lss (.v 4) (.v 6)))) .done) K46_6) K46_5
@[simp] def W46_7 := @C.wpe _ _ K46_7.eq_1
def K46_8 : C := .block 0 (.loop 4 [2] K46_7)
@[simp] def W46_8 := @C.wpe _ _ K46_8.eq_1
def K46_9 : C := .seq (.seq (.pl <| .st (.ext 4 0) <|
    .st (.act none (.px (some 3) (.mv (.c (.int .i64 0))))) .done) K46_8) K46_1
@[simp] def W46_9 := @C.wpe _ _ K46_9.eq_1
def B_spec_l4In : C := .seq (.pl <| .st (.ext 4 0) <|
    .st (.act none (.px (some 2) (.mv (.c (.bool false))))) .done) K46_9
@[simp] def WB_spec_l4In := @C.wpe _ _ B_spec_l4In.eq_1
def R_spec_l4In : FIR := ⟨B_spec_l4In, 4, [(2, none)]⟩
theorem IR_spec_l4In : cfun Tryz.prog H_spec_l4In Tryz.f46 = some R_spec_l4In := by kernel_rfl
theorem EN_spec_l4In {args : List Value} {h : Heap} {k : Value → Heap → Prop} (hargs : args.length = 2) (hw : B_spec_l4In.wp Tryz.prog (retQ [(2, none)] k) (env0 args 4) h) : CallE Tryz.prog fn_spec_l4In args h k := enter Tryz.func46 rfl IR_spec_l4In hargs hw


end Go.Proofs.YthgimpheeemooaaGreat

/-
  Bodies of functions in the small language, as a program printed them, and that each is what the translation gives.
-/
namespace Go.Proofs.YthgimpheeemooaaGreat
open Go
set_option linter.all false
set_option linter.defProp false
set_option maxRecDepth 1000000

def H_laws_eqIntS : Hint := ⟨[(0, false), (1, false), (4, false), (5, false)], [[2]]⟩
def K39_1 : C := .seq (.pl <| .st (.ext 4 0) <|
    .st (.act none (.px (some 2) (.mv (.c (.bool true))))) .done) (.ret)
@[simp] def W39_1 := @C.wpe _ _ K39_1.eq_1
def K39_2 : C := .pl <| .st (.ext 4 2) <|
    .st (.act none (.px (some 4) (.mv (.v 3)))) <|
    .st (.act none (.px (some 5) (.bin .add (.v 4) (.c (.int .i64 1))))) <|
    .st (.act none (.px (some 3) (.mv (.v 5)))) .done
@[simp] def W39_2 := @C.wpe _ _ K39_2.eq_1
def K39_3 : C := .seq (.pl <| .st (.ext 4 0) <|
    .st (.act none (.px (some 2) (.mv (.c (.bool false))))) .done) (.ret)
@[simp] def W39_3 := @C.wpe _ _ K39_3.eq_1
def K39_4 : C := .cond 4 (.v 12) K39_3 (.skip)
@[simp] def W39_4 := @C.wpe _ _ K39_4.eq_1
def K39_5 : C := .seq (.block 1 (.seq (.pl <| .st (.ext 4 9) <|
    .st (.act none (.px (some 4) (.mv (.v 0)))) <|
    .st (.act none (.px (some 5) (.mv (.v 3)))) <|
    .st (.act none (.px (some 6) (.ia 1 (.v 4) (.v 5)))) <|
    .st (.act none (.ld (some 7) (.v 6) none)) <|
    .st (.act none (.px (some 8) (.mv (.v 1)))) <|
    .st (.act none (.px (some 9) (.mv (.v 3)))) <|
    .st (.act none (.px (some 10) (.ia 1 (.v 8) (.v 9)))) <|
    .st (.act none (.ld (some 11) (.v 10) none)) <|
    .st (.act none (.px (some 12) (.bin .neq (.v 7) (.v 11)))) .done) K39_4)) K39_2
@[simp] def W39_5 := @C.wpe _ _ K39_5.eq_1
def K39_6 : C := .cond 4 (.v 7) (.skip) (.exit 0)
@[simp] def W39_6 := @C.wpe _ _ K39_6.eq_1
def K39_7 : C := .seq (.seq (.pl <| .st (.ext 4 4) <|
    .st (.act none (.px (some 4) (.mv (.v 3)))) <|
    .st (.act none (.px (some 5) (.mv (.v 0)))) <|
    .st (.act none (.px (some 6) (.lenV (.v 5)))) <|
    .st (.act none (.px (some 7) (.bin .lss (.v 4) (.v 6)))) .done) K39_6) K39_5
@[simp] def W39_7 := @C.wpe _ _ K39_7.eq_1
def K39_8 : C := .block 0 (.loop 4 [2] K39_7)
@[simp] def W39_8 := @C.wpe _ _ K39_8.eq_1
def K39_9 : C := .seq (.seq (.pl <| .st (.ext 4 0) <|
    .st (.act none (.px (some 3) (.mv (.c (.int .i64 0))))) .done) K39_8) K39_1
@[simp] def W39_9 := @C.wpe _ _ K39_9.eq_1
def K39_10 : C := .seq (.pl <| .st (.ext 4 0) <|
    .st (.act none (.px (some 2) (.mv (.c (.bool false))))) .done) (.ret)
@[simp] def W39_10 := @C.wpe _ _ K39_10.eq_1
def K39_11 : C := .cond 4 (.v 8) K39_10 (.skip)
@[simp] def W39_11 := @C.wpe _ _ K39_11.eq_1
def K39_12 : C := .seq (.seq (.pl <| .st (.ext 4 5) <|
    .st (.act none (.px (some 4) (.mv (.v 0)))) <|
    .st (.act none (.px (some 5) (.lenV (.v 4)))) <|
    .st (.act none (.px (some 6) (.mv (.v 1)))) <|
    .st (.act none (.px (some 7) (.lenV (.v 6)))) <|
    .st (.act none (.px (some 8) (.bin .neq (.v 5) (.v 7)))) .done) K39_11) K39_9
@[simp] def W39_12 := @C.wpe _ _ K39_12.eq_1
def B_laws_eqIntS : C := .seq (.pl <| .st (.ext 4 0) <|
    .st (.act none (.px (some 2) (.mv (.c (.bool false))))) .done) K39_12
@[simp] def WB_laws_eqIntS := @C.wpe _ _ B_laws_eqIntS.eq_1
def R_laws_eqIntS : FIR := ⟨B_laws_eqIntS, 4, [(2, none)]⟩
theorem IR_laws_eqIntS : cfun Tryz.prog H_laws_eqIntS Tryz.f39 = some R_laws_eqIntS := by kernel_rfl
theorem EN_laws_eqIntS {args : List Value} {h : Heap} {k : Value → Heap → Prop} (hargs : args.length = 2) (hw : B_laws_eqIntS.wp Tryz.prog (retQ [(2, none)] k) (env0 args 4) h) : CallE Tryz.prog fn_laws_eqIntS args h k := enter Tryz.func39 rfl IR_laws_eqIntS hargs hw

def H_laws_eqProcess : Hint := ⟨[(0, false), (1, false), (2, true), (3, true), (4, false)], []⟩
def K74_1 : C := .seq (.pl <| .st (.ext 5 0) <|
    .st (.act none (.px (some 4) (.mv (.c (.bool true))))) .done) (.ret)
@[simp] def W74_1 := @C.wpe _ _ K74_1.eq_1
def K74_2 : C := .seq (.pl <| .st (.ext 5 0) <|
    .st (.act none (.px (some 4) (.mv (.c (.bool false))))) .done) (.ret)
@[simp] def W74_2 := @C.wpe _ _ K74_2.eq_1
def K74_3 : C := .cond 5 (.v 10) K74_2 (.skip)
@[simp] def W74_3 := @C.wpe _ _ K74_3.eq_1
def K74_4 : Pl := .st (.act none (.px (some 10) (.un .not (.v 9)))) .done
@[simp] def W74_4 := @Pl.wpe _ _ K74_4.eq_1
def K74_5 : C := .seq (.seq (.pl <| .st (.ext 5 6) <|
    .st (.act none (.als 5 none 2)) <|
    .st (.act none (.pget (some 6) (some 5) 2 1 none)) <|
    .st (.act none (.als 7 none 3)) <|
    .st (.act none (.pget (some 8) (some 7) 3 1 none)) <|
    .st (.act none (.ex (some 9) (.call fn_laws_eqEdgeS [.v 6, .v 8]))) K74_4) K74_3) K74_1
@[simp] def W74_5 := @C.wpe _ _ K74_5.eq_1
def K74_6 : C := .seq (.pl <| .st (.ext 5 0) <|
    .st (.act none (.px (some 4) (.mv (.c (.bool false))))) .done) (.ret)
@[simp] def W74_6 := @C.wpe _ _ K74_6.eq_1
def K74_7 : C := .cond 5 (.v 9) K74_6 (.skip)
@[simp] def W74_7 := @C.wpe _ _ K74_7.eq_1
def K74_8 : C := .seq (.seq (.pl <| .st (.ext 5 5) <|
    .st (.act none (.als 5 none 2)) <|
    .st (.act none (.pget (some 6) (some 5) 2 0 none)) <|
    .st (.act none (.als 7 none 3)) <|
    .st (.act none (.pget (some 8) (some 7) 3 0 none)) <|
    .st (.act none (.px (some 9) (.bin .neq (.v 6) (.v 8)))) .done) K74_7) K74_5
@[simp] def W74_8 := @C.wpe _ _ K74_8.eq_1
def B_laws_eqProcess : C := .seq (.pl <| .st (.ext 5 0) <|
    .st (.act none (.pnew 2 (.v 0) [])) <|
    .st (.act none (.pnew 3 (.v 1) [])) <|
    .st (.act none (.px (some 4) (.mv (.c (.bool false))))) .done) K74_8
@[simp] def WB_laws_eqProcess := @C.wpe _ _ B_laws_eqProcess.eq_1
def R_laws_eqProcess : FIR := ⟨B_laws_eqProcess, 5, [(4, none)]⟩
theorem IR_laws_eqProcess : cfun Tryz.prog H_laws_eqProcess Tryz.f74 = some R_laws_eqProcess := by kernel_rfl
theorem EN_laws_eqProcess {args : List Value} {h : Heap} {k : Value → Heap → Prop} (hargs : args.length = 2) (hw : B_laws_eqProcess.wp Tryz.prog (retQ [(4, none)] k) (env0 args 5) h) : CallE Tryz.prog fn_laws_eqProcess args h k := enter Tryz.func74 rfl IR_laws_eqProcess hargs hw

def H_laws_eqProcessS : Hint := ⟨[(0, false), (1, false), (4, false), (5, false)], [[2]]⟩
def K40_1 : C := .seq (.pl <| .st (.ext 4 0) <|
    .st (.act none (.px (some 2) (.mv (.c (.bool true))))) .done) (.ret)
@[simp] def W40_1 := @C.wpe _ _ K40_1.eq_1
def K40_2 : C := .pl <| .st (.ext 4 2) <|
    .st (.act none (.px (some 4) (.mv (.v 3)))) <|
    .st (.act none (.px (some 5) (.bin .add (.v 4) (.c (.int .i64 1))))) <|
    .st (.act none (.px (some 3) (.mv (.v 5)))) .done
@[simp] def W40_2 := @C.wpe _ _ K40_2.eq_1
def K40_3 : C := .seq (.pl <| .st (.ext 4 0) <|
    .st (.act none (.px (some 2) (.mv (.c (.bool false))))) .done) (.ret)
@[simp] def W40_3 := @C.wpe _ _ K40_3.eq_1
def K40_4 : C := .cond 4 (.v 13) K40_3 (.skip)
@[simp] def W40_4 := @C.wpe _ _ K40_4.eq_1
def K40_5 : Pl := .st (.act none (.px (some 13) (.un .not (.v 12)))) .done
@[simp] def W40_5 := @Pl.wpe _ _ K40_5.eq_1
def K40_6 : C := .seq (.block 1 (.seq (.pl <| .st (.ext 4 10) <|
    .st (.act none (.px (some 4) (.mv (.v 0)))) <|
    .st (.act none (.px (some 5) (.mv (.v 3)))) <|
    .st (.act none (.px (some 6) (.ia 2 (.v 4) (.v 5)))) <|
    .st (.act none (.ld (some 7) (.v 6) (some 2))) <|
    .st (.act none (.px (some 8) (.mv (.v 1)))) <|
    .st (.act none (.px (some 9) (.mv (.v 3)))) <|
    .st (.act none (.px (some 10) (.ia 2 (.v 8) (.v 9)))) <|
    .st (.act none (.ld (some 11) (.v 10) (some 2))) <|
    .st (.act none (.ex (some 12) (.call fn_laws_eqProcess [.v 7, .v 11]))) K40_5) K40_4)) K40_2
@[simp] def W40_6 := @C.wpe _ _ K40_6.eq_1
def K40_7 : C := .cond 4 (.v 7) (.skip) (.exit 0)
@[simp] def W40_7 := @C.wpe _ _ K40_7.eq_1
def K40_8 : C := .seq (.seq (.pl <| .st (.ext 4 4) <|
    .st (.act none (.px (some 4) (.mv (.v 3)))) <|
    .st (.act none (.px (some 5) (.mv (.v 0)))) <|
    .st (.act none (.px (some 6) (.lenV (.v 5)))) <|
    .st (.act none (.px (some 7) (.bin .lss (.v 4) (.v 6)))) .done) K40_7) K40_6
@[simp] def W40_8 := @C.wpe _ _ K40_8.eq_1
def K40_9 : C := .block 0 (.loop 4 [2] K40_8)
@[simp] def W40_9 := @C.wpe _ _ K40_9.eq_1
def K40_10 : C := .seq (.seq (.pl <| .st (.ext 4 0) <|
    .st (.act none (.px (some 3) (.mv (.c (.int .i64 0))))) .done) K40_9) K40_1
@[simp] def W40_10 := @C.wpe _ _ K40_10.eq_1
def K40_11 : C := .seq (.pl <| .st (.ext 4 0) <|
    .st (.act none (.px (some 2) (.mv (.c (.bool false))))) .done) (.ret)
@[simp] def W40_11 := @C.wpe _ _ K40_11.eq_1
def K40_12 : C := .cond 4 (.v 8) K40_11 (.skip)
@[simp] def W40_12 := @C.wpe _ _ K40_12.eq_1
def K40_13 : C := .seq (.seq (.pl <| .st (.ext 4 5) <|
    .st (.act none (.px (some 4) (.mv (.v 0)))) <|
    .st (.act none (.px (some 5) (.lenV (.v 4)))) <|
    .st (.act none (.px (some 6) (.mv (.v 1)))) <|
    .st (.act none (.px (some 7) (.lenV (.v 6)))) <|
    .st (.act none (.px (some 8) (.bin .neq (.v 5) (.v 7)))) .done) K40_12) K40_10
@[simp] def W40_13 := @C.wpe _ _ K40_13.eq_1
def B_laws_eqProcessS : C := .seq (.pl <| .st (.ext 4 0) <|
    .st (.act none (.px (some 2) (.mv (.c (.bool false))))) .done) K40_13
@[simp] def WB_laws_eqProcessS := @C.wpe _ _ B_laws_eqProcessS.eq_1
def R_laws_eqProcessS : FIR := ⟨B_laws_eqProcessS, 4, [(2, none)]⟩
theorem IR_laws_eqProcessS : cfun Tryz.prog H_laws_eqProcessS Tryz.f40 = some R_laws_eqProcessS := by kernel_rfl
theorem EN_laws_eqProcessS {args : List Value} {h : Heap} {k : Value → Heap → Prop} (hargs : args.length = 2) (hw : B_laws_eqProcessS.wp Tryz.prog (retQ [(2, none)] k) (env0 args 4) h) : CallE Tryz.prog fn_laws_eqProcessS args h k := enter Tryz.func40 rfl IR_laws_eqProcessS hargs hw

def H_laws_eqSystem : Hint := ⟨[(0, false), (1, false), (2, true), (3, true), (4, false)], []⟩
def K12_1 : C := .seq (.pl <| .st (.ext 5 0) <|
    .st (.act none (.px (some 4) (.mv (.c (.bool true))))) .done) (.ret)
@[simp] def W12_1 := @C.wpe _ _ K12_1.eq_1
def K12_2 : C := .seq (.pl <| .st (.ext 5 0) <|
    .st (.act none (.px (some 4) (.mv (.c (.bool false))))) .done) (.ret)
@[simp] def W12_2 := @C.wpe _ _ K12_2.eq_1
def K12_3 : C := .cond 5 (.v 10) K12_2 (.skip)
@[simp] def W12_3 := @C.wpe _ _ K12_3.eq_1
def K12_4 : Pl := .st (.act none (.px (some 10) (.un .not (.v 9)))) .done
@[simp] def W12_4 := @Pl.wpe _ _ K12_4.eq_1
def K12_5 : C := .seq (.seq (.pl <| .st (.ext 5 6) <|
    .st (.act none (.als 5 none 2)) <|
    .st (.act none (.pget (some 6) (some 5) 2 1 none)) <|
    .st (.act none (.als 7 none 3)) <|
    .st (.act none (.pget (some 8) (some 7) 3 1 none)) <|
    .st (.act none (.ex (some 9) (.call fn_laws_eqProcessS [.v 6, .v 8]))) K12_4) K12_3) K12_1
@[simp] def W12_5 := @C.wpe _ _ K12_5.eq_1
def K12_6 : C := .seq (.pl <| .st (.ext 5 0) <|
    .st (.act none (.px (some 4) (.mv (.c (.bool false))))) .done) (.ret)
@[simp] def W12_6 := @C.wpe _ _ K12_6.eq_1
def K12_7 : C := .cond 5 (.v 10) K12_6 (.skip)
@[simp] def W12_7 := @C.wpe _ _ K12_7.eq_1
def K12_8 : Pl := .st (.act none (.px (some 10) (.un .not (.v 9)))) .done
@[simp] def W12_8 := @Pl.wpe _ _ K12_8.eq_1
def K12_9 : C := .seq (.seq (.pl <| .st (.ext 5 6) <|
    .st (.act none (.als 5 none 2)) <|
    .st (.act none (.pget (some 6) (some 5) 2 0 none)) <|
    .st (.act none (.als 7 none 3)) <|
    .st (.act none (.pget (some 8) (some 7) 3 0 none)) <|
    .st (.act none (.ex (some 9) (.call fn_laws_eqIntS [.v 6, .v 8]))) K12_8) K12_7) K12_5
@[simp] def W12_9 := @C.wpe _ _ K12_9.eq_1
def B_laws_eqSystem : C := .seq (.pl <| .st (.ext 5 0) <|
    .st (.act none (.pnew 2 (.v 0) [])) <|
    .st (.act none (.pnew 3 (.v 1) [])) <|
    .st (.act none (.px (some 4) (.mv (.c (.bool false))))) .done) K12_9
@[simp] def WB_laws_eqSystem := @C.wpe _ _ B_laws_eqSystem.eq_1
def R_laws_eqSystem : FIR := ⟨B_laws_eqSystem, 5, [(4, none)]⟩
theorem IR_laws_eqSystem : cfun Tryz.prog H_laws_eqSystem Tryz.f12 = some R_laws_eqSystem := by kernel_rfl
theorem EN_laws_eqSystem {args : List Value} {h : Heap} {k : Value → Heap → Prop} (hargs : args.length = 2) (hw : B_laws_eqSystem.wp Tryz.prog (retQ [(4, none)] k) (env0 args 5) h) : CallE Tryz.prog fn_laws_eqSystem args h k := enter Tryz.func12 rfl IR_laws_eqSystem hargs hw

def H_laws_markEdgeS : Hint := ⟨[(0, false), (1, false), (4, false), (5, false)], [[2]]⟩
def K75_1 : C := .seq (.pl <| .st (.ext 4 1) <|
    .st (.act none (.px (some 4) (.mv (.v 1)))) <|
    .st (.act none (.px (some 2) (.mv (.v 4)))) .done) (.ret)
@[simp] def W75_1 := @C.wpe _ _ K75_1.eq_1
def K75_2 : C := .pl <| .st (.ext 4 2) <|
    .st (.act none (.px (some 4) (.mv (.v 3)))) <|
    .st (.act none (.px (some 5) (.bin .add (.v 4) (.c (.int .i64 1))))) <|
    .st (.act none (.px (some 3) (.mv (.v 5)))) .done
@[simp] def W75_2 := @C.wpe _ _ K75_2.eq_1
def K75_3 : C := .pl <| .st (.ext 4 2) <|
    .st (.act none (.px (some 4) (.mv (.v 1)))) <|
    .st (.act none (.px (some 5) (.bin .add (.v 4) (.c (.int .i64 1))))) <|
    .st (.act none (.px (some 1) (.mv (.v 5)))) .done
@[simp] def W75_3 := @C.wpe _ _ K75_3.eq_1
def K75_4 : C := .seq (.pl <| .st (.ext 4 5) <|
    .st (.act none (.px (some 4) (.mv (.v 0)))) <|
    .st (.act none (.px (some 5) (.mv (.v 3)))) <|
    .st (.act none (.px (some 6) (.mv (.v 1)))) <|
    .st (.act none (.px (some 7) (.ia 10 (.v 4) (.v 5)))) <|
    .st (.act none (.px (some 8) (.fa 9 (.v 7)))) <|
    .st (.act none (.ex none (.store 1 (.v 8) (.v 6)))) .done) K75_3
@[simp] def W75_4 := @C.wpe _ _ K75_4.eq_1
def K75_5 : Pl := .st (.act none (.px (some 1) (.mv (.v 11)))) .done
@[simp] def W75_5 := @Pl.wpe _ _ K75_5.eq_1
def K75_6 : C := .seq (.pl <| .st (.ext 4 8) <|
    .st (.act none (.px (some 4) (.mv (.v 0)))) <|
    .st (.act none (.px (some 5) (.mv (.v 3)))) <|
    .st (.act none (.px (some 6) (.ia 10 (.v 4) (.v 5)))) <|
    .st (.act none (.px (some 7) (.fa 6 (.v 6)))) <|
    .st (.act none (.px (some 8) (.fa 2 (.v 7)))) <|
    .st (.act none (.ld (some 9) (.v 8) none)) <|
    .st (.act none (.px (some 10) (.mv (.v 1)))) <|
    .st (.act none (.ex (some 11) (.call fn_laws_markExprS [.v 9, .v 10]))) K75_5) K75_4
@[simp] def W75_6 := @C.wpe _ _ K75_6.eq_1
def K75_7 : C := .seq (.pl <| .st (.ext 4 2) <|
    .st (.act none (.px (some 4) (.mv (.v 1)))) <|
    .st (.act none (.px (some 5) (.bin .add (.v 4) (.c (.int .i64 1))))) <|
    .st (.act none (.px (some 1) (.mv (.v 5)))) .done) K75_6
@[simp] def W75_7 := @C.wpe _ _ K75_7.eq_1
def K75_8 : C := .seq (.pl <| .st (.ext 4 6) <|
    .st (.act none (.px (some 4) (.mv (.v 0)))) <|
    .st (.act none (.px (some 5) (.mv (.v 3)))) <|
    .st (.act none (.px (some 6) (.mv (.v 1)))) <|
    .st (.act none (.px (some 7) (.ia 10 (.v 4) (.v 5)))) <|
    .st (.act none (.px (some 8) (.fa 6 (.v 7)))) <|
    .st (.act none (.px (some 9) (.fa 1 (.v 8)))) <|
    .st (.act none (.ex none (.store 1 (.v 9) (.v 6)))) .done) K75_7
@[simp] def W75_8 := @C.wpe _ _ K75_8.eq_1
def K75_9 : C := .seq (.pl <| .st (.ext 4 2) <|
    .st (.act none (.px (some 4) (.mv (.v 1)))) <|
    .st (.act none (.px (some 5) (.bin .add (.v 4) (.c (.int .i64 1))))) <|
    .st (.act none (.px (some 1) (.mv (.v 5)))) .done) K75_8
@[simp] def W75_9 := @C.wpe _ _ K75_9.eq_1
def K75_10 : C := .seq (.pl <| .st (.ext 4 6) <|
    .st (.act none (.px (some 4) (.mv (.v 0)))) <|
    .st (.act none (.px (some 5) (.mv (.v 3)))) <|
    .st (.act none (.px (some 6) (.mv (.v 1)))) <|
    .st (.act none (.px (some 7) (.ia 10 (.v 4) (.v 5)))) <|
    .st (.act none (.px (some 8) (.fa 6 (.v 7)))) <|
    .st (.act none (.px (some 9) (.fa 0 (.v 8)))) <|
    .st (.act none (.ex none (.store 1 (.v 9) (.v 6)))) .done) K75_9
@[simp] def W75_10 := @C.wpe _ _ K75_10.eq_1
def K75_11 : C := .seq (.pl <| .st (.ext 4 2) <|
    .st (.act none (.px (some 4) (.mv (.v 1)))) <|
    .st (.act none (.px (some 5) (.bin .add (.v 4) (.c (.int .i64 1))))) <|
    .st (.act none (.px (some 1) (.mv (.v 5)))) .done) K75_10
@[simp] def W75_11 := @C.wpe _ _ K75_11.eq_1
def K75_12 : C := .seq (.pl <| .st (.ext 4 5) <|
    .st (.act none (.px (some 4) (.mv (.v 0)))) <|
    .st (.act none (.px (some 5) (.mv (.v 3)))) <|
    .st (.act none (.px (some 6) (.mv (.v 1)))) <|
    .st (.act none (.px (some 7) (.ia 10 (.v 4) (.v 5)))) <|
    .st (.act none (.px (some 8) (.fa 5 (.v 7)))) <|
    .st (.act none (.ex none (.store 1 (.v 8) (.v 6)))) .done) K75_11
@[simp] def W75_12 := @C.wpe _ _ K75_12.eq_1
def K75_13 : Pl := .st (.act none (.px (some 1) (.mv (.v 11)))) .done
@[simp] def W75_13 := @Pl.wpe _ _ K75_13.eq_1
def K75_14 : C := .seq (.pl <| .st (.ext 4 8) <|
    .st (.act none (.px (some 4) (.mv (.v 0)))) <|
    .st (.act none (.px (some 5) (.mv (.v 3)))) <|
    .st (.act none (.px (some 6) (.ia 10 (.v 4) (.v 5)))) <|
    .st (.act none (.px (some 7) (.fa 2 (.v 6)))) <|
    .st (.act none (.px (some 8) (.fa 2 (.v 7)))) <|
    .st (.act none (.ld (some 9) (.v 8) none)) <|
    .st (.act none (.px (some 10) (.mv (.v 1)))) <|
    .st (.act none (.ex (some 11) (.call fn_laws_markExprS [.v 9, .v 10]))) K75_13) K75_12
@[simp] def W75_14 := @C.wpe _ _ K75_14.eq_1
def K75_15 : C := .seq (.pl <| .st (.ext 4 2) <|
    .st (.act none (.px (some 4) (.mv (.v 1)))) <|
    .st (.act none (.px (some 5) (.bin .add (.v 4) (.c (.int .i64 1))))) <|
    .st (.act none (.px (some 1) (.mv (.v 5)))) .done) K75_14
@[simp] def W75_15 := @C.wpe _ _ K75_15.eq_1
def K75_16 : C := .seq (.pl <| .st (.ext 4 6) <|
    .st (.act none (.px (some 4) (.mv (.v 0)))) <|
    .st (.act none (.px (some 5) (.mv (.v 3)))) <|
    .st (.act none (.px (some 6) (.mv (.v 1)))) <|
    .st (.act none (.px (some 7) (.ia 10 (.v 4) (.v 5)))) <|
    .st (.act none (.px (some 8) (.fa 2 (.v 7)))) <|
    .st (.act none (.px (some 9) (.fa 1 (.v 8)))) <|
    .st (.act none (.ex none (.store 1 (.v 9) (.v 6)))) .done) K75_15
@[simp] def W75_16 := @C.wpe _ _ K75_16.eq_1
def K75_17 : C := .seq (.pl <| .st (.ext 4 2) <|
    .st (.act none (.px (some 4) (.mv (.v 1)))) <|
    .st (.act none (.px (some 5) (.bin .add (.v 4) (.c (.int .i64 1))))) <|
    .st (.act none (.px (some 1) (.mv (.v 5)))) .done) K75_16
@[simp] def W75_17 := @C.wpe _ _ K75_17.eq_1
def K75_18 : C := .seq (.pl <| .st (.ext 4 6) <|
    .st (.act none (.px (some 4) (.mv (.v 0)))) <|
    .st (.act none (.px (some 5) (.mv (.v 3)))) <|
    .st (.act none (.px (some 6) (.mv (.v 1)))) <|
    .st (.act none (.px (some 7) (.ia 10 (.v 4) (.v 5)))) <|
    .st (.act none (.px (some 8) (.fa 2 (.v 7)))) <|
    .st (.act none (.px (some 9) (.fa 0 (.v 8)))) <|
    .st (.act none (.ex none (.store 1 (.v 9) (.v 6)))) .done) K75_17
@[simp] def W75_18 := @C.wpe _ _ K75_18.eq_1
def K75_19 : C := .seq (.pl <| .st (.ext 4 2) <|
    .st (.act none (.px (some 4) (.mv (.v 1)))) <|
    .st (.act none (.px (some 5) (.bin .add (.v 4) (.c (.int .i64 1))))) <|
    .st (.act none (.px (some 1) (.mv (.v 5)))) .done) K75_18
@[simp] def W75_19 := @C.wpe _ _ K75_19.eq_1
def K75_20 : C := .seq (.pl <| .st (.ext 4 5) <|
    .st (.act none (.px (some 4) (.mv (.v 0)))) <|
    .st (.act none (.px (some 5) (.mv (.v 3)))) <|
    .st (.act none (.px (some 6) (.mv (.v 1)))) <|
    .st (.act none (.px (some 7) (.ia 10 (.v 4) (.v 5)))) <|
    .st (.act none (.px (some 8) (.fa 1 (.v 7)))) <|
    .st (.act none (.ex none (.store 1 (.v 8) (.v 6)))) .done) K75_19
@[simp] def W75_20 := @C.wpe _ _ K75_20.eq_1
def K75_21 : C := .seq (.pl <| .st (.ext 4 2) <|
    .st (.act none (.px (some 4) (.mv (.v 1)))) <|
    .st (.act none (.px (some 5) (.bin .add (.v 4) (.c (.int .i64 1))))) <|
    .st (.act none (.px (some 1) (.mv (.v 5)))) .done) K75_20
@[simp] def W75_21 := @C.wpe _ _ K75_21.eq_1
def K75_22 : C := .seq (.block 1 (.seq (.pl <| .st (.ext 4 5) <|
    .st (.act none (.px (some 4) (.mv (.v 0)))) <|
    .st (.act none (.px (some 5) (.mv (.v 3)))) <|
    .st (.act none (.px (some 6) (.mv (.v 1)))) <|
    .st (.act none (.px (some 7) (.ia 10 (.v 4) (.v 5)))) <|
    .st (.act none (.px (some 8) (.fa 0 (.v 7)))) <|
    .st (.act none (.ex none (.store 1 (.v 8) (.v 6)))) .done) K75_21)) K75_2
@[simp] def W75_22 := @C.wpe _ _ K75_22.eq_1
def K75_23 : C := .cond 4 (.v 7) (.skip) (.exit 0)
@[simp] def W75_23 := @C.wpe _ _ K75_23.eq_1
def K75_24 : C := .seq (.seq (.pl <| .st (.ext 4 4) <|
    .st (.act none (.px (some 4) (.mv (.v 3)))) <|
    .st (.act none (.px (some 5) (.mv (.v 0)))) <|
    .st (.act none (.px (some 6) (.lenV (.v 5)))) <|
    .st (.act none (.px (some 7) (.bin .lss (.v 4) (.v 6)))) .done) K75_23) K75_22
@[simp] def W75_24 := @C.wpe _ _ K75_24.eq_1
def K75_25 : C := .block 0 (.loop 4 [2] K75_24)
@[simp] def W75_25 := @C.wpe _ _ K75_25.eq_1
def K75_26 : C := .seq (.seq (.pl <| .st (.ext 4 0) <|
    .st (.act none (.px (some 3) (.mv (.c (.int .i64 0))))) .done) K75_25) K75_1
@[simp] def W75_26 := @C.wpe _ _ K75_26.eq_1
def B_laws_markEdgeS : C := .seq (.pl <| .st (.ext 4 0) <|
    .st (.act none (.px (some 2) (.mv (.c (.int .i64 0))))) .done) K75_26
@[simp] def WB_laws_markEdgeS := @C.wpe _ _ B_laws_markEdgeS.eq_1
def R_laws_markEdgeS : FIR := ⟨B_laws_markEdgeS, 4, [(2, none)]⟩
theorem IR_laws_markEdgeS : cfun Tryz.prog H_laws_markEdgeS Tryz.f75 = some R_laws_markEdgeS := by kernel_rfl
theorem EN_laws_markEdgeS {args : List Value} {h : Heap} {k : Value → Heap → Prop} (hargs : args.length = 2) (hw : B_laws_markEdgeS.wp Tryz.prog (retQ [(2, none)] k) (env0 args 4) h) : CallE Tryz.prog fn_laws_markEdgeS args h k := enter Tryz.func75 rfl IR_laws_markEdgeS hargs hw

def H_laws_markExprS : Hint := ⟨[(0, false), (1, false), (4, false), (5, false)], [[2]]⟩
def K64_1 : C := .seq (.pl <| .st (.ext 4 1) <|
    .st (.act none (.px (some 4) (.mv (.v 1)))) <|
    .st (.act none (.px (some 2) (.mv (.v 4)))) .done) (.ret)
@[simp] def W64_1 := @C.wpe _ _ K64_1.eq_1
def K64_2 : C := .pl <| .st (.ext 4 2) <|
    .st (.act none (.px (some 4) (.mv (.v 3)))) <|
    .st (.act none (.px (some 5) (.bin .add (.v 4) (.c (.int .i64 1))))) <|
    .st (.act none (.px (some 3) (.mv (.v 5)))) .done
@[simp] def W64_2 := @C.wpe _ _ K64_2.eq_1
def K64_3 : Pl := .st (.act none (.px (some 1) (.mv (.v 10)))) .done
@[simp] def W64_3 := @Pl.wpe _ _ K64_3.eq_1
def K64_4 : C := .pl <| .st (.ext 4 7) <|
    .st (.act none (.px (some 4) (.mv (.v 0)))) <|
    .st (.act none (.px (some 5) (.mv (.v 3)))) <|
    .st (.act none (.px (some 6) (.ia 3 (.v 4) (.v 5)))) <|
    .st (.act none (.px (some 7) (.fa 2 (.v 6)))) <|
    .st (.act none (.ld (some 8) (.v 7) none)) <|
    .st (.act none (.px (some 9) (.mv (.v 1)))) <|
    .st (.act none (.ex (some 10) (.call fn_laws_markExprS [.v 8, .v 9]))) K64_3
@[simp] def W64_4 := @C.wpe _ _ K64_4.eq_1
def K64_5 : C := .seq (.pl <| .st (.ext 4 2) <|
    .st (.act none (.px (some 4) (.mv (.v 1)))) <|
    .st (.act none (.px (some 5) (.bin .add (.v 4) (.c (.int .i64 1))))) <|
    .st (.act none (.px (some 1) (.mv (.v 5)))) .done) K64_4
@[simp] def W64_5 := @C.wpe _ _ K64_5.eq_1
def K64_6 : C := .seq (.pl <| .st (.ext 4 5) <|
    .st (.act none (.px (some 4) (.mv (.v 0)))) <|
    .st (.act none (.px (some 5) (.mv (.v 3)))) <|
    .st (.act none (.px (some 6) (.mv (.v 1)))) <|
    .st (.act none (.px (some 7) (.ia 3 (.v 4) (.v 5)))) <|
    .st (.act none (.px (some 8) (.fa 1 (.v 7)))) <|
    .st (.act none (.ex none (.store 1 (.v 8) (.v 6)))) .done) K64_5
@[simp] def W64_6 := @C.wpe _ _ K64_6.eq_1
def K64_7 : C := .seq (.pl <| .st (.ext 4 2) <|
    .st (.act none (.px (some 4) (.mv (.v 1)))) <|
    .st (.act none (.px (some 5) (.bin .add (.v 4) (.c (.int .i64 1))))) <|
    .st (.act none (.px (some 1) (.mv (.v 5)))) .done) K64_6
@[simp] def W64_7 := @C.wpe _ _ K64_7.eq_1
def K64_8 : C := .seq (.block 1 (.seq (.pl <| .st (.ext 4 5) <|
    .st (.act none (.px (some 4) (.mv (.v 0)))) <|
    .st (.act none (.px (some 5) (.mv (.v 3)))) <|
    .st (.act none (.px (some 6) (.mv (.v 1)))) <|
    .st (.act none (.px (some 7) (.ia 3 (.v 4) (.v 5)))) <|
    .st (.act none (.px (some 8) (.fa 0 (.v 7)))) <|
    .st (.act none (.ex none (.store 1 (.v 8) (.v 6)))) .done) K64_7)) K64_2
@[simp] def W64_8 := @C.wpe _ _ K64_8.eq_1
def K64_9 : C := .cond 4 (.v 7) (.skip) (.exit 0)
@[simp] def W64_9 := @C.wpe _ _ K64_9.eq_1
def K64_10 : C := .seq (.seq (.pl <| .st (.ext 4 4) <|
    .st (.act none (.px (some 4) (.mv (.v 3)))) <|
    .st (.act none (.px (some 5) (.mv (.v 0)))) <|
    .st (.act none (.px (some 6) (.lenV (.v 5)))) <|
    .st (.act none (.px (some 7) (.bin .lss (.v 4) (.v 6)))) .done) K64_9) K64_8
@[simp] def W64_10 := @C.wpe _ _ K64_10.eq_1
def K64_11 : C := .block 0 (.loop 4 [2] K64_10)
@[simp] def W64_11 := @C.wpe _ _ K64_11.eq_1
def K64_12 : C := .seq (.seq (.pl <| .st (.ext 4 0) <|
    .st (.act none (.px (some 3) (.mv (.c (.int .i64 0))))) .done) K64_11) K64_1
@[simp] def W64_12 := @C.wpe _ _ K64_12.eq_1
def B_laws_markExprS : C := .seq (.pl <| .st (.ext 4 0) <|
    .st (.act none (.px (some 2) (.mv (.c (.int .i64 0))))) .done) K64_12
@[simp] def WB_laws_markExprS := @C.wpe _ _ B_laws_markExprS.eq_1
def R_laws_markExprS : FIR := ⟨B_laws_markExprS, 4, [(2, none)]⟩
theorem IR_laws_markExprS : cfun Tryz.prog H_laws_markExprS Tryz.f64 = some R_laws_markExprS := by kernel_rfl
theorem EN_laws_markExprS {args : List Value} {h : Heap} {k : Value → Heap → Prop} (hargs : args.length = 2) (hw : B_laws_markExprS.wp Tryz.prog (retQ [(2, none)] k) (env0 args 4) h) : CallE Tryz.prog fn_laws_markExprS args h k := enter Tryz.func64 rfl IR_laws_markExprS hargs hw

def H_laws_markIntS : Hint := ⟨[(0, false), (1, false), (4, false), (5, false)], [[2]]⟩
def K41_1 : C := .seq (.pl <| .st (.ext 4 1) <|
    .st (.act none (.px (some 4) (.mv (.v 1)))) <|
    .st (.act none (.px (some 2) (.mv (.v 4)))) .done) (.ret)
@[simp] def W41_1 := @C.wpe _ _ K41_1.eq_1
def K41_2 : C := .pl <| .st (.ext 4 2) <|
    .st (.act none (.px (some 4) (.mv (.v 3)))) <|
    .st (.act none (.px (some 5) (.bin .add (.v 4) (.c (.int .i64 1))))) <|
    .st (.act none (.px (some 3) (.mv (.v 5)))) .done
@[simp] def W41_2 := @C.wpe _ _ K41_2.eq_1
def K41_3 : C := .pl <| .st (.ext 4 2) <|
    .st (.act none (.px (some 4) (.mv (.v 1)))) <|
    .st (.act none (.px (some 5) (.bin .add (.v 4) (.c (.int .i64 1))))) <|
    .st (.act none (.px (some 1) (.mv (.v 5)))) .done
@[simp] def W41_3 := @C.wpe _ _ K41_3.eq_1
def K41_4 : C := .seq (.block 1 (.seq (.pl <| .st (.ext 4 4) <|
    .st (.act none (.px (some 4) (.mv (.v 0)))) <|
    .st (.act none (.px (some 5) (.mv (.v 3)))) <|
    .st (.act none (.px (some 6) (.mv (.v 1)))) <|
    .st (.act none (.px (some 7) (.ia 1 (.v 4) (.v 5)))) <|
    .st (.act none (.ex none (.store 1 (.v 7) (.v 6)))) .done) K41_3)) K41_2
@[simp] def W41_4 := @C.wpe _ _ K41_4.eq_1
def K41_5 : C := .cond 4 (.v 7) (.skip) (.exit 0)
@[simp] def W41_5 := @C.wpe _ _ K41_5.eq_1
def K41_6 : C := .seq (.seq (.pl <| .st (.ext 4 4) <|
    .st (.act none (.px (some 4) (.mv (.v 3)))) <|
    .st (.act none (.px (some 5) (.mv (.v 0)))) <|
    .st (.act none (.px (some 6) (.lenV (.v 5)))) <|
    .st (.act none (.px (some 7) (.bin .lss (.v 4) (.v 6)))) .done) K41_5) K41_4
@[simp] def W41_6 := @C.wpe _ _ K41_6.eq_1
def K41_7 : C := .block 0 (.loop 4 [2] K41_6)
@[simp] def W41_7 := @C.wpe _ _ K41_7.eq_1
def K41_8 : C := .seq (.seq (.pl <| .st (.ext 4 0) <|
    .st (.act none (.px (some 3) (.mv (.c (.int .i64 0))))) .done) K41_7) K41_1
@[simp] def W41_8 := @C.wpe _ _ K41_8.eq_1
def B_laws_markIntS : C := .seq (.pl <| .st (.ext 4 0) <|
    .st (.act none (.px (some 2) (.mv (.c (.int .i64 0))))) .done) K41_8
@[simp] def WB_laws_markIntS := @C.wpe _ _ B_laws_markIntS.eq_1
def R_laws_markIntS : FIR := ⟨B_laws_markIntS, 4, [(2, none)]⟩
theorem IR_laws_markIntS : cfun Tryz.prog H_laws_markIntS Tryz.f41 = some R_laws_markIntS := by kernel_rfl
theorem EN_laws_markIntS {args : List Value} {h : Heap} {k : Value → Heap → Prop} (hargs : args.length = 2) (hw : B_laws_markIntS.wp Tryz.prog (retQ [(2, none)] k) (env0 args 4) h) : CallE Tryz.prog fn_laws_markIntS args h k := enter Tryz.func41 rfl IR_laws_markIntS hargs hw

def H_laws_markProcessS : Hint := ⟨[(0, false), (1, false), (4, false), (5, false)], [[2]]⟩
def K42_1 : C := .seq (.pl <| .st (.ext 4 1) <|
    .st (.act none (.px (some 4) (.mv (.v 1)))) <|
    .st (.act none (.px (some 2) (.mv (.v 4)))) .done) (.ret)
@[simp] def W42_1 := @C.wpe _ _ K42_1.eq_1
def K42_2 : C := .pl <| .st (.ext 4 2) <|
    .st (.act none (.px (some 4) (.mv (.v 3)))) <|
    .st (.act none (.px (some 5) (.bin .add (.v 4) (.c (.int .i64 1))))) <|
    .st (.act none (.px (some 3) (.mv (.v 5)))) .done
@[simp] def W42_2 := @C.wpe _ _ K42_2.eq_1
def K42_3 : Pl := .st (.act none (.px (some 1) (.mv (.v 10)))) .done
@[simp] def W42_3 := @Pl.wpe _ _ K42_3.eq_1
def K42_4 : C := .pl <| .st (.ext 4 7) <|
    .st (.act none (.px (some 4) (.mv (.v 0)))) <|
    .st (.act none (.px (some 5) (.mv (.v 3)))) <|
    .st (.act none (.px (some 6) (.ia 2 (.v 4) (.v 5)))) <|
    .st (.act none (.px (some 7) (.fa 1 (.v 6)))) <|
    .st (.act none (.ld (some 8) (.v 7) none)) <|
    .st (.act none (.px (some 9) (.mv (.v 1)))) <|
    .st (.act none (.ex (some 10) (.call fn_laws_markEdgeS [.v 8, .v 9]))) K42_3
@[simp] def W42_4 := @C.wpe _ _ K42_4.eq_1
def K42_5 : C := .seq (.pl <| .st (.ext 4 2) <|
    .st (.act none (.px (some 4) (.mv (.v 1)))) <|
    .st (.act none (.px (some 5) (.bin .add (.v 4) (.c (.int .i64 1))))) <|
    .st (.act none (.px (some 1) (.mv (.v 5)))) .done) K42_4
@[simp] def W42_5 := @C.wpe _ _ K42_5.eq_1
def K42_6 : C := .seq (.block 1 (.seq (.pl <| .st (.ext 4 5) <|
    .st (.act none (.px (some 4) (.mv (.v 0)))) <|
    .st (.act none (.px (some 5) (.mv (.v 3)))) <|
    .st (.act none (.px (some 6) (.mv (.v 1)))) <|
    .st (.act none (.px (some 7) (.ia 2 (.v 4) (.v 5)))) <|
    .st (.act none (.px (some 8) (.fa 0 (.v 7)))) <|
    .st (.act none (.ex none (.store 1 (.v 8) (.v 6)))) .done) K42_5)) K42_2
@[simp] def W42_6 := @C.wpe _ _ K42_6.eq_1
def K42_7 : C := .cond 4 (.v 7) (.skip) (.exit 0)
@[simp] def W42_7 := @C.wpe _ _ K42_7.eq_1
def K42_8 : C := .seq (.seq (.pl <| .st (.ext 4 4) <|
    .st (.act none (.px (some 4) (.mv (.v 3)))) <|
    .st (.act none (.px (some 5) (.mv (.v 0)))) <|
    .st (.act none (.px (some 6) (.lenV (.v 5)))) <|
    .st (.act none (.px (some 7) (.bin .lss (.v 4) (.v 6)))) .done) K42_7) K42_6
@[simp] def W42_8 := @C.wpe _ _ K42_8.eq_1
def K42_9 : C := .block 0 (.loop 4 [2] K42_8)
@[simp] def W42_9 := @C.wpe _ _ K42_9.eq_1
def K42_10 : C := .seq (.seq (.pl <| .st (.ext 4 0) <|
    .st (.act none (.px (some 3) (.mv (.c (.int .i64 0))))) .done) K42_9) K42_1
@[simp] def W42_10 := @C.wpe _ _ K42_10.eq_1
def B_laws_markProcessS : C := .seq (.pl <| .st (.ext 4 0) <|
    .st (.act none (.px (some 2) (.mv (.c (.int .i64 0))))) .done) K42_10
@[simp] def WB_laws_markProcessS := @C.wpe _ _ B_laws_markProcessS.eq_1
def R_laws_markProcessS : FIR := ⟨B_laws_markProcessS, 4, [(2, none)]⟩
theorem IR_laws_markProcessS : cfun Tryz.prog H_laws_markProcessS Tryz.f42 = some R_laws_markProcessS := by kernel_rfl
theorem EN_laws_markProcessS {args : List Value} {h : Heap} {k : Value → Heap → Prop} (hargs : args.length = 2) (hw : B_laws_markProcessS.wp Tryz.prog (retQ [(2, none)] k) (env0 args 4) h) : CallE Tryz.prog fn_laws_markProcessS args h k := enter Tryz.func42 rfl IR_laws_markProcessS hargs hw

def H_laws_markSystem : Hint := ⟨[(0, false), (1, false), (2, true), (4, false)], []⟩
def K13_1 : C := .seq (.pl <| .st (.ext 4 1) <|
    .st (.act none (.px (some 4) (.mv (.v 1)))) <|
    .st (.act none (.px (some 3) (.mv (.v 4)))) .done) (.ret)
@[simp] def W13_1 := @C.wpe _ _ K13_1.eq_1
def K13_2 : Pl := .st (.act none (.px (some 1) (.mv (.v 7)))) .done
@[simp] def W13_2 := @Pl.wpe _ _ K13_2.eq_1
def K13_3 : C := .seq (.pl <| .st (.ext 4 4) <|
    .st (.act none (.als 4 none 2)) <|
    .st (.act none (.pget (some 5) (some 4) 2 1 none)) <|
    .st (.act none (.px (some 6) (.mv (.v 1)))) <|
    .st (.act none (.ex (some 7) (.call fn_laws_markProcessS [.v 5, .v 6]))) K13_2) K13_1
@[simp] def W13_3 := @C.wpe _ _ K13_3.eq_1
def K13_4 : Pl := .st (.act none (.px (some 1) (.mv (.v 7)))) .done
@[simp] def W13_4 := @Pl.wpe _ _ K13_4.eq_1
def K13_5 : C := .seq (.pl <| .st (.ext 4 4) <|
    .st (.act none (.als 4 none 2)) <|
    .st (.act none (.pget (some 5) (some 4) 2 0 none)) <|
    .st (.act none (.px (some 6) (.mv (.v 1)))) <|
    .st (.act none (.ex (some 7) (.call fn_laws_markIntS [.v 5, .v 6]))) K13_4) K13_3
@[simp] def W13_5 := @C.wpe _ _ K13_5.eq_1
def B_laws_markSystem : C := .seq (.pl <| .st (.ext 4 0) <|
    .st (.act none (.pnew 2 (.v 0) [])) <|
    .st (.act none (.px (some 3) (.mv (.c (.int .i64 0))))) .done) K13_5
@[simp] def WB_laws_markSystem := @C.wpe _ _ B_laws_markSystem.eq_1
def R_laws_markSystem : FIR := ⟨B_laws_markSystem, 4, [(3, none)]⟩
theorem IR_laws_markSystem : cfun Tryz.prog H_laws_markSystem Tryz.f13 = some R_laws_markSystem := by kernel_rfl
theorem EN_laws_markSystem {args : List Value} {h : Heap} {k : Value → Heap → Prop} (hargs : args.length = 2) (hw : B_laws_markSystem.wp Tryz.prog (retQ [(3, none)] k) (env0 args 4) h) : CallE Tryz.prog fn_laws_markSystem args h k := enter Tryz.func13 rfl IR_laws_markSystem hargs hw

def H_laws_szEdge : Hint := ⟨[(0, false), (1, false), (2, true), (4, false)], []⟩
def K122_1 : C := .seq (.pl <| .st (.ext 4 1) <|
    .st (.act none (.px (some 4) (.mv (.v 1)))) <|
    .st (.act none (.px (some 3) (.mv (.v 4)))) .done) (.ret)
@[simp] def W122_1 := @C.wpe _ _ K122_1.eq_1
def K122_2 : C := .seq (.pl <| .st (.ext 4 0) <|
    .st (.act none (.px (some 3) (.mv (.c (.int .i64 (-1)))))) .done) (.ret)
@[simp] def W122_2 := @C.wpe _ _ K122_2.eq_1
def K122_3 : C := .cond 4 (.v 5) K122_2 (.skip)
@[simp] def W122_3 := @C.wpe _ _ K122_3.eq_1
def K122_4 : C := .seq (.seq (.pl <| .st (.ext 4 2) <|
    .st (.act none (.px (some 4) (.mv (.v 1)))) <|
    .st (.act none (.px (some 5) (.bin .lss (.v 4) (.c (.int .i64 0))))) .done) K122_3) K122_1
@[simp] def W122_4 := @C.wpe _ _ K122_4.eq_1
def K122_5 : Pl := .st (.act none (.px (some 1) (.mv (.v 7)))) .done
@[simp] def W122_5 := @Pl.wpe _ _ K122_5.eq_1
def K122_6 : C := .seq (.pl <| .st (.ext 4 4) <|
    .st (.act none (.als 4 none 2)) <|
    .st (.act none (.pget (some 5) (some 4) 2 6 (some 3))) <|
    .st (.act none (.px (some 6) (.mv (.v 1)))) <|
    .st (.act none (.ex (some 7) (.call fn_laws_szExpr [.v 5, .v 6]))) K122_5) K122_4
@[simp] def W122_6 := @C.wpe _ _ K122_6.eq_1
def K122_7 : C := .seq (.pl <| .st (.ext 4 0) <|
    .st (.act none (.px (some 3) (.mv (.c (.int .i64 (-1)))))) .done) (.ret)
@[simp] def W122_7 := @C.wpe _ _ K122_7.eq_1
def K122_8 : C := .cond 4 (.v 5) K122_7 (.skip)
@[simp] def W122_8 := @C.wpe _ _ K122_8.eq_1
def K122_9 : C := .seq (.seq (.pl <| .st (.ext 4 2) <|
    .st (.act none (.px (some 4) (.mv (.v 1)))) <|
    .st (.act none (.px (some 5) (.bin .lss (.v 4) (.c (.int .i64 0))))) .done) K122_8) K122_6
@[simp] def W122_9 := @C.wpe _ _ K122_9.eq_1
def K122_10 : Pl := .st (.act none (.px (some 1) (.mv (.v 7)))) .done
@[simp] def W122_10 := @Pl.wpe _ _ K122_10.eq_1
def K122_11 : C := .seq (.pl <| .st (.ext 4 4) <|
    .st (.act none (.als 4 none 2)) <|
    .st (.act none (.pget (some 5) (some 4) 2 2 (some 3))) <|
    .st (.act none (.px (some 6) (.mv (.v 1)))) <|
    .st (.act none (.ex (some 7) (.call fn_laws_szExpr [.v 5, .v 6]))) K122_10) K122_9
@[simp] def W122_11 := @C.wpe _ _ K122_11.eq_1
def B_laws_szEdge : C := .seq (.pl <| .st (.ext 4 0) <|
    .st (.act none (.pnew 2 (.v 0) [])) <|
    .st (.act none (.px (some 3) (.mv (.c (.int .i64 0))))) .done) K122_11
@[simp] def WB_laws_szEdge := @C.wpe _ _ B_laws_szEdge.eq_1
def R_laws_szEdge : FIR := ⟨B_laws_szEdge, 4, [(3, none)]⟩
theorem IR_laws_szEdge : cfun Tryz.prog H_laws_szEdge Tryz.f122 = some R_laws_szEdge := by kernel_rfl
theorem EN_laws_szEdge {args : List Value} {h : Heap} {k : Value → Heap → Prop} (hargs : args.length = 2) (hw : B_laws_szEdge.wp Tryz.prog (retQ [(3, none)] k) (env0 args 4) h) : CallE Tryz.prog fn_laws_szEdge args h k := enter Tryz.func122 rfl IR_laws_szEdge hargs hw

def H_laws_szEdgeS : Hint := ⟨[(0, false), (1, false), (4, false), (5, false)], [[2]]⟩
def K104_1 : C := .seq (.pl <| .st (.ext 4 1) <|
    .st (.act none (.px (some 4) (.mv (.v 1)))) <|
    .st (.act none (.px (some 2) (.mv (.v 4)))) .done) (.ret)
@[simp] def W104_1 := @C.wpe _ _ K104_1.eq_1
def K104_2 : C := .pl <| .st (.ext 4 2) <|
    .st (.act none (.px (some 4) (.mv (.v 3)))) <|
    .st (.act none (.px (some 5) (.bin .add (.v 4) (.c (.int .i64 1))))) <|
    .st (.act none (.px (some 3) (.mv (.v 5)))) .done
@[simp] def W104_2 := @C.wpe _ _ K104_2.eq_1
def K104_3 : C := .seq (.pl <| .st (.ext 4 0) <|
    .st (.act none (.px (some 2) (.mv (.c (.int .i64 (-1)))))) .done) (.ret)
@[simp] def W104_3 := @C.wpe _ _ K104_3.eq_1
def K104_4 : C := .cond 4 (.v 5) K104_3 (.skip)
@[simp] def W104_4 := @C.wpe _ _ K104_4.eq_1
def K104_5 : C := .seq (.pl <| .st (.ext 4 2) <|
    .st (.act none (.px (some 4) (.mv (.v 1)))) <|
    .st (.act none (.px (some 5) (.bin .lss (.v 4) (.c (.int .i64 0))))) .done) K104_4
@[simp] def W104_5 := @C.wpe _ _ K104_5.eq_1
def K104_6 : Pl := .st (.act none (.px (some 1) (.mv (.v 9)))) .done
@[simp] def W104_6 := @Pl.wpe _ _ K104_6.eq_1
def K104_7 : C := .seq (.block 1 (.seq (.pl <| .st (.ext 4 6) <|
    .st (.act none (.px (some 4) (.mv (.v 0)))) <|
    .st (.act none (.px (some 5) (.mv (.v 3)))) <|
    .st (.act none (.px (some 6) (.ia 10 (.v 4) (.v 5)))) <|
    .st (.act none (.ld (some 7) (.v 6) (some 10))) <|
    .st (.act none (.px (some 8) (.mv (.v 1)))) <|
    .st (.act none (.ex (some 9) (.call fn_laws_szEdge [.v 7, .v 8]))) K104_6) K104_5)) K104_2
@[simp] def W104_7 := @C.wpe _ _ K104_7.eq_1
def K104_8 : C := .cond 4 (.v 7) (.skip) (.exit 0)
@[simp] def W104_8 := @C.wpe _ _ K104_8.eq_1
def K104_9 : C := .seq (.seq (.pl <| .st (.ext 4 4) <|
    .st (.act none (.px (some 4) (.mv (.v 3)))) <|
    .st (.act none (.px (some 5) (.mv (.v 0)))) <|
    .st (.act none (.px (some 6) (.lenV (.v 5)))) <|
    .st (.act none (.px (some 7) (.bin .lss (.v 4) (.v 6)))) .done) K104_8) K104_7
@[simp] def W104_9 := @C.wpe _ _ K104_9.eq_1
def K104_10 : C := .block 0 (.loop 4 [2] K104_9)
@[simp] def W104_10 := @C.wpe _ _ K104_10.eq_1
def K104_11 : C := .seq (.seq (.pl <| .st (.ext 4 0) <|
    .st (.act none (.px (some 3) (.mv (.c (.int .i64 0))))) .done) K104_10) K104_1
@[simp] def W104_11 := @C.wpe _ _ K104_11.eq_1
def K104_12 : C := .seq (.pl <| .st (.ext 4 0) <|
    .st (.act none (.px (some 2) (.mv (.c (.int .i64 (-1)))))) .done) (.ret)
@[simp] def W104_12 := @C.wpe _ _ K104_12.eq_1
def K104_13 : C := .cond 4 (.v 5) K104_12 (.skip)
@[simp] def W104_13 := @C.wpe _ _ K104_13.eq_1
def K104_14 : C := .seq (.seq (.pl <| .st (.ext 4 2) <|
    .st (.act none (.px (some 4) (.mv (.v 1)))) <|
    .st (.act none (.px (some 5) (.bin .lss (.v 4) (.c (.int .i64 0))))) .done) K104_13) K104_11
@[simp] def W104_14 := @C.wpe _ _ K104_14.eq_1
def K104_15 : C := .seq (.pl <| .st (.ext 4 4) <|
    .st (.act none (.px (some 4) (.mv (.v 1)))) <|
    .st (.act none (.px (some 5) (.mv (.v 0)))) <|
    .st (.act none (.px (some 6) (.lenV (.v 5)))) <|
    .st (.act none (.px (some 7) (.bin .sub (.v 4) (.v 6)))) <|
    .st (.act none (.px (some 1) (.mv (.v 7)))) .done) K104_14
@[simp] def W104_15 := @C.wpe _ _ K104_15.eq_1
def B_laws_szEdgeS : C := .seq (.pl <| .st (.ext 4 0) <|
    .st (.act none (.px (some 2) (.mv (.c (.int .i64 0))))) .done) K104_15
@[simp] def WB_laws_szEdgeS := @C.wpe _ _ B_laws_szEdgeS.eq_1
def R_laws_szEdgeS : FIR := ⟨B_laws_szEdgeS, 4, [(2, none)]⟩
theorem IR_laws_szEdgeS : cfun Tryz.prog H_laws_szEdgeS Tryz.f104 = some R_laws_szEdgeS := by kernel_rfl
theorem EN_laws_szEdgeS {args : List Value} {h : Heap} {k : Value → Heap → Prop} (hargs : args.length = 2) (hw : B_laws_szEdgeS.wp Tryz.prog (retQ [(2, none)] k) (env0 args 4) h) : CallE Tryz.prog fn_laws_szEdgeS args h k := enter Tryz.func104 rfl IR_laws_szEdgeS hargs hw

def H_laws_szExpr : Hint := ⟨[(0, false), (1, false), (2, true), (4, false)], []⟩
def K21_1 : C := .seq (.pl <| .st (.ext 4 1) <|
    .st (.act none (.px (some 4) (.mv (.v 1)))) <|
    .st (.act none (.px (some 3) (.mv (.v 4)))) .done) (.ret)
@[simp] def W21_1 := @C.wpe _ _ K21_1.eq_1
def K21_2 : C := .seq (.pl <| .st (.ext 4 0) <|
    .st (.act none (.px (some 3) (.mv (.c (.int .i64 (-1)))))) .done) (.ret)
@[simp] def W21_2 := @C.wpe _ _ K21_2.eq_1
def K21_3 : C := .cond 4 (.v 5) K21_2 (.skip)
@[simp] def W21_3 := @C.wpe _ _ K21_3.eq_1
def K21_4 : C := .seq (.seq (.pl <| .st (.ext 4 2) <|
    .st (.act none (.px (some 4) (.mv (.v 1)))) <|
    .st (.act none (.px (some 5) (.bin .lss (.v 4) (.c (.int .i64 0))))) .done) K21_3) K21_1
@[simp] def W21_4 := @C.wpe _ _ K21_4.eq_1
def K21_5 : Pl := .st (.act none (.px (some 1) (.mv (.v 7)))) .done
@[simp] def W21_5 := @Pl.wpe _ _ K21_5.eq_1
def K21_6 : C := .seq (.pl <| .st (.ext 4 4) <|
    .st (.act none (.als 4 none 2)) <|
    .st (.act none (.pget (some 5) (some 4) 2 2 none)) <|
    .st (.act none (.px (some 6) (.mv (.v 1)))) <|
    .st (.act none (.ex (some 7) (.call fn_laws_szExprS [.v 5, .v 6]))) K21_5) K21_4
@[simp] def W21_6 := @C.wpe _ _ K21_6.eq_1
def B_laws_szExpr : C := .seq (.pl <| .st (.ext 4 0) <|
    .st (.act none (.pnew 2 (.v 0) [])) <|
    .st (.act none (.px (some 3) (.mv (.c (.int .i64 0))))) .done) K21_6
@[simp] def WB_laws_szExpr := @C.wpe _ _ B_laws_szExpr.eq_1
def R_laws_szExpr : FIR := ⟨B_laws_szExpr, 4, [(3, none)]⟩
theorem IR_laws_szExpr : cfun Tryz.prog H_laws_szExpr Tryz.f21 = some R_laws_szExpr := by kernel_rfl
theorem EN_laws_szExpr {args : List Value} {h : Heap} {k : Value → Heap → Prop} (hargs : args.length = 2) (hw : B_laws_szExpr.wp Tryz.prog (retQ [(3, none)] k) (env0 args 4) h) : CallE Tryz.prog fn_laws_szExpr args h k := enter Tryz.func21 rfl IR_laws_szExpr hargs hw

def H_laws_szExprS : Hint := ⟨[(0, false), (1, false), (4, false), (5, false)], [[2]]⟩
def K52_1 : C := .seq (.pl <| .st (.ext 4 1) <|
    .st (.act none (.px (some 4) (.mv (.v 1)))) <|
    .st (.act none (.px (some 2) (.mv (.v 4)))) .done) (.ret)
@[simp] def W52_1 := @C.wpe _ _ K52_1.eq_1
def K52_2 : C := .pl <| .st (.ext 4 2) <|
    .st (.act none (.px (some 4) (.mv (.v 3)))) <|
    .st (.act none (.px (some 5) (.bin .add (.v 4) (.c (.int .i64 1))))) <|
    .st (.act none (.px (some 3) (.mv (.v 5)))) .done
@[simp] def W52_2 := @C.wpe _ _ K52_2.eq_1
def K52_3 : C := .seq (.pl <| .st (.ext 4 0) <|
    .st (.act none (.px (some 2) (.mv (.c (.int .i64 (-1)))))) .done) (.ret)
@[simp] def W52_3 := @C.wpe _ _ K52_3.eq_1
def K52_4 : C := .cond 4 (.v 5) K52_3 (.skip)
@[simp] def W52_4 := @C.wpe _ _ K52_4.eq_1
def K52_5 : C := .seq (.pl <| .st (.ext 4 2) <|
    .st (.act none (.px (some 4) (.mv (.v 1)))) <|
    .st (.act none (.px (some 5) (.bin .lss (.v 4) (.c (.int .i64 0))))) .done) K52_4
@[simp] def W52_5 := @C.wpe _ _ K52_5.eq_1
def K52_6 : Pl := .st (.act none (.px (some 1) (.mv (.v 9)))) .done
@[simp] def W52_6 := @Pl.wpe _ _ K52_6.eq_1
def K52_7 : C := .seq (.block 1 (.seq (.pl <| .st (.ext 4 6) <|
    .st (.act none (.px (some 4) (.mv (.v 0)))) <|
    .st (.act none (.px (some 5) (.mv (.v 3)))) <|
    .st (.act none (.px (some 6) (.ia 3 (.v 4) (.v 5)))) <|
    .st (.act none (.ld (some 7) (.v 6) (some 3))) <|
    .st (.act none (.px (some 8) (.mv (.v 1)))) <|
    .st (.act none (.ex (some 9) (.call fn_laws_szExpr [.v 7, .v 8]))) K52_6) K52_5)) K52_2
@[simp] def W52_7 := @C.wpe _ _ K52_7.eq_1
def K52_8 : C := .cond 4 (.v 7) (.skip) (.exit 0)
@[simp] def W52_8 := @C.wpe _ _ K52_8.eq_1
def K52_9 : C := .seq (.seq (.pl <| .st (.ext 4 4) <|
    .st (.act none (.px (some 4) (.mv (.v 3)))) <|
    .st (.act none (.px (some 5) (.mv (.v 0)))) <|
    .st (.act none (.px (some 6) (.lenV (.v 5)))) <|
    .st (.act none (.px (some 7) (.bin .lss (.v 4) (.v 6)))) .done) K52_8) K52_7
@[simp] def W52_9 := @C.wpe _ _ K52_9.eq_1
def K52_10 : C := .block 0 (.loop 4 [2] K52_9)
@[simp] def W52_10 := @C.wpe _ _ K52_10.eq_1
def K52_11 : C := .seq (.seq (.pl <| .st (.ext 4 0) <|
    .st (.act none (.px (some 3) (.mv (.c (.int .i64 0))))) .done) K52_10) K52_1
@[simp] def W52_11 := @C.wpe _ _ K52_11.eq_1
def K52_12 : C := .seq (.pl <| .st (.ext 4 0) <|
    .st (.act none (.px (some 2) (.mv (.c (.int .i64 (-1)))))) .done) (.ret)
@[simp] def W52_12 := @C.wpe _ _ K52_12.eq_1
def K52_13 : C := .cond 4 (.v 5) K52_12 (.skip)
@[simp] def W52_13 := @C.wpe _ _ K52_13.eq_1
def K52_14 : C := .seq (.seq (.pl <| .st (.ext 4 2) <|
    .st (.act none (.px (some 4) (.mv (.v 1)))) <|
    .st (.act none (.px (some 5) (.bin .lss (.v 4) (.c (.int .i64 0))))) .done) K52_13) K52_11
@[simp] def W52_14 := @C.wpe _ _ K52_14.eq_1
def K52_15 : C := .seq (.pl <| .st (.ext 4 4) <|
    .st (.act none (.px (some 4) (.mv (.v 1)))) <|
    .st (.act none (.px (some 5) (.mv (.v 0)))) <|
    .st (.act none (.px (some 6) (.lenV (.v 5)))) <|
    .st (.act none (.px (some 7) (.bin .sub (.v 4) (.v 6)))) <|
    .st (.act none (.px (some 1) (.mv (.v 7)))) .done) K52_14
@[simp] def W52_15 := @C.wpe _ _ K52_15.eq_1
def B_laws_szExprS : C := .seq (.pl <| .st (.ext 4 0) <|
    .st (.act none (.px (some 2) (.mv (.c (.int .i64 0))))) .done) K52_15
@[simp] def WB_laws_szExprS := @C.wpe _ _ B_laws_szExprS.eq_1
def R_laws_szExprS : FIR := ⟨B_laws_szExprS, 4, [(2, none)]⟩
theorem IR_laws_szExprS : cfun Tryz.prog H_laws_szExprS Tryz.f52 = some R_laws_szExprS := by kernel_rfl
theorem EN_laws_szExprS {args : List Value} {h : Heap} {k : Value → Heap → Prop} (hargs : args.length = 2) (hw : B_laws_szExprS.wp Tryz.prog (retQ [(2, none)] k) (env0 args 4) h) : CallE Tryz.prog fn_laws_szExprS args h k := enter Tryz.func52 rfl IR_laws_szExprS hargs hw

def H_laws_szIntS : Hint := ⟨[(0, false), (1, false), (4, false)], []⟩
def K32_1 : C := .seq (.pl <| .st (.ext 3 1) <|
    .st (.act none (.px (some 3) (.mv (.v 1)))) <|
    .st (.act none (.px (some 2) (.mv (.v 3)))) .done) (.ret)
@[simp] def W32_1 := @C.wpe _ _ K32_1.eq_1
def K32_2 : C := .seq (.pl <| .st (.ext 3 0) <|
    .st (.act none (.px (some 2) (.mv (.c (.int .i64 (-1)))))) .done) (.ret)
@[simp] def W32_2 := @C.wpe _ _ K32_2.eq_1
def K32_3 : C := .cond 3 (.v 4) K32_2 (.skip)
@[simp] def W32_3 := @C.wpe _ _ K32_3.eq_1
def K32_4 : C := .seq (.seq (.pl <| .st (.ext 3 2) <|
    .st (.act none (.px (some 3) (.mv (.v 1)))) <|
    .st (.act none (.px (some 4) (.bin .lss (.v 3) (.c (.int .i64 0))))) .done) K32_3) K32_1
@[simp] def W32_4 := @C.wpe _ _ K32_4.eq_1
def K32_5 : C := .seq (.pl <| .st (.ext 3 4) <|
    .st (.act none (.px (some 3) (.mv (.v 1)))) <|
    .st (.act none (.px (some 4) (.mv (.v 0)))) <|
    .st (.act none (.px (some 5) (.lenV (.v 4)))) <|
    .st (.act none (.px (some 6) (.bin .sub (.v 3) (.v 5)))) <|
    .st (.act none (.px (some 1) (.mv (.v 6)))) .done) K32_4
@[simp] def W32_5 := @C.wpe _ _ K32_5.eq_1
def B_laws_szIntS : C := .seq (.pl <| .st (.ext 3 0) <|
    .st (.act none (.px (some 2) (.mv (.c (.int .i64 0))))) .done) K32_5
@[simp] def WB_laws_szIntS := @C.wpe _ _ B_laws_szIntS.eq_1
def R_laws_szIntS : FIR := ⟨B_laws_szIntS, 3, [(2, none)]⟩
theorem IR_laws_szIntS : cfun Tryz.prog H_laws_szIntS Tryz.f32 = some R_laws_szIntS := by kernel_rfl
theorem EN_laws_szIntS {args : List Value} {h : Heap} {k : Value → Heap → Prop} (hargs : args.length = 2) (hw : B_laws_szIntS.wp Tryz.prog (retQ [(2, none)] k) (env0 args 3) h) : CallE Tryz.prog fn_laws_szIntS args h k := enter Tryz.func32 rfl IR_laws_szIntS hargs hw

def H_laws_szProcess : Hint := ⟨[(0, false), (1, false), (2, true), (4, false)], []⟩
def K68_1 : C := .seq (.pl <| .st (.ext 4 1) <|
    .st (.act none (.px (some 4) (.mv (.v 1)))) <|
    .st (.act none (.px (some 3) (.mv (.v 4)))) .done) (.ret)
@[simp] def W68_1 := @C.wpe _ _ K68_1.eq_1
def K68_2 : C := .seq (.pl <| .st (.ext 4 0) <|
    .st (.act none (.px (some 3) (.mv (.c (.int .i64 (-1)))))) .done) (.ret)
@[simp] def W68_2 := @C.wpe _ _ K68_2.eq_1
def K68_3 : C := .cond 4 (.v 5) K68_2 (.skip)
@[simp] def W68_3 := @C.wpe _ _ K68_3.eq_1
def K68_4 : C := .seq (.seq (.pl <| .st (.ext 4 2) <|
    .st (.act none (.px (some 4) (.mv (.v 1)))) <|
    .st (.act none (.px (some 5) (.bin .lss (.v 4) (.c (.int .i64 0))))) .done) K68_3) K68_1
@[simp] def W68_4 := @C.wpe _ _ K68_4.eq_1
def K68_5 : Pl := .st (.act none (.px (some 1) (.mv (.v 7)))) .done
@[simp] def W68_5 := @Pl.wpe _ _ K68_5.eq_1
def K68_6 : C := .seq (.pl <| .st (.ext 4 4) <|
    .st (.act none (.als 4 none 2)) <|
    .st (.act none (.pget (some 5) (some 4) 2 1 none)) <|
    .st (.act none (.px (some 6) (.mv (.v 1)))) <|
    .st (.act none (.ex (some 7) (.call fn_laws_szEdgeS [.v 5, .v 6]))) K68_5) K68_4
@[simp] def W68_6 := @C.wpe _ _ K68_6.eq_1
def B_laws_szProcess : C := .seq (.pl <| .st (.ext 4 0) <|
    .st (.act none (.pnew 2 (.v 0) [])) <|
    .st (.act none (.px (some 3) (.mv (.c (.int .i64 0))))) .done) K68_6
@[simp] def WB_laws_szProcess := @C.wpe _ _ B_laws_szProcess.eq_1
def R_laws_szProcess : FIR := ⟨B_laws_szProcess, 4, [(3, none)]⟩
theorem IR_laws_szProcess : cfun Tryz.prog H_laws_szProcess Tryz.f68 = some R_laws_szProcess := by kernel_rfl
theorem EN_laws_szProcess {args : List Value} {h : Heap} {k : Value → Heap → Prop} (hargs : args.length = 2) (hw : B_laws_szProcess.wp Tryz.prog (retQ [(3, none)] k) (env0 args 4) h) : CallE Tryz.prog fn_laws_szProcess args h k := enter Tryz.func68 rfl IR_laws_szProcess hargs hw

def H_laws_szProcessS : Hint := ⟨[(0, false), (1, false), (4, false), (5, false)], [[2]]⟩
def K33_1 : C := .seq (.pl <| .st (.ext 4 1) <|
    .st (.act none (.px (some 4) (.mv (.v 1)))) <|
    .st (.act none (.px (some 2) (.mv (.v 4)))) .done) (.ret)
@[simp] def W33_1 := @C.wpe _ _ K33_1.eq_1
def K33_2 : C := .pl <| .st (.ext 4 2) <|
    .st (.act none (.px (some 4) (.mv (.v 3)))) <|
    .st (.act none (.px (some 5) (.bin .add (.v 4) (.c (.int .i64 1))))) <|
    .st (.act none (.px (some 3) (.mv (.v 5)))) .done
@[simp] def W33_2 := @C.wpe _ _ K33_2.eq_1
def K33_3 : C := .seq (.pl <| .st (.ext 4 0) <|
    .st (.act none (.px (some 2) (.mv (.c (.int .i64 (-1)))))) .done) (.ret)
@[simp] def W33_3 := @C.wpe _ _ K33_3.eq_1
def K33_4 : C := .cond 4 (.v 5) K33_3 (.skip)
@[simp] def W33_4 := @C.wpe _ _ K33_4.eq_1
def K33_5 : C := .seq (.pl <| .st (.ext 4 2) <|
    .st (.act none (.px (some 4) (.mv (.v 1)))) <|
    .st (.act none (.px (some 5) (.bin .lss (.v 4) (.c (.int .i64 0))))) .done) K33_4
@[simp] def W33_5 := @C.wpe _ _ K33_5.eq_1
def K33_6 : Pl := .st (.act none (.px (some 1) (.mv (.v 9)))) .done
@[simp] def W33_6 := @Pl.wpe _ _ K33_6.eq_1
def K33_7 : C := .seq (.block 1 (.seq (.pl <| .st (.ext 4 6) <|
    .st (.act none (.px (some 4) (.mv (.v 0)))) <|
    .st (.act none (.px (some 5) (.mv (.v 3)))) <|
    .st (.act none (.px (some 6) (.ia 2 (.v 4) (.v 5)))) <|
    .st (.act none (.ld (some 7) (.v 6) (some 2))) <|
    .st (.act none (.px (some 8) (.mv (.v 1)))) <|
    .st (.act none (.ex (some 9) (.call fn_laws_szProcess [.v 7, .v 8]))) K33_6) K33_5)) K33_2
@[simp] def W33_7 := @C.wpe _ _ K33_7.eq_1
def K33_8 : C := .cond 4 (.v 7) (.skip) (.exit 0)
@[simp] def W33_8 := @C.wpe _ _ K33_8.eq_1
def K33_9 : C := .seq (.seq (.pl <| .st (.ext 4 4) <|
    .st (.act none (.px (some 4) (.mv (.v 3)))) <|
    .st (.act none (.px (some 5) (.mv (.v 0)))) <|
    .st (.act none (.px (some 6) (.lenV (.v 5)))) <|
    .st (.act none (.px (some 7) (.bin .lss (.v 4) (.v 6)))) .done) K33_8) K33_7
@[simp] def W33_9 := @C.wpe _ _ K33_9.eq_1
def K33_10 : C := .block 0 (.loop 4 [2] K33_9)
@[simp] def W33_10 := @C.wpe _ _ K33_10.eq_1
def K33_11 : C := .seq (.seq (.pl <| .st (.ext 4 0) <|
    .st (.act none (.px (some 3) (.mv (.c (.int .i64 0))))) .done) K33_10) K33_1
@[simp] def W33_11 := @C.wpe _ _ K33_11.eq_1
def K33_12 : C := .seq (.pl <| .st (.ext 4 0) <|
    .st (.act none (.px (some 2) (.mv (.c (.int .i64 (-1)))))) .done) (.ret)
@[simp] def W33_12 := @C.wpe _ _ K33_12.eq_1
def K33_13 : C := .cond 4 (.v 5) K33_12 (.skip)
@[simp] def W33_13 := @C.wpe _ _ K33_13.eq_1
def K33_14 : C := .seq (.seq (.pl <| .st (.ext 4 2) <|
    .st (.act none (.px (some 4) (.mv (.v 1)))) <|
    .st (.act none (.px (some 5) (.bin .lss (.v 4) (.c (.int .i64 0))))) .done) K33_13) K33_11
@[simp] def W33_14 := @C.wpe _ _ K33_14.eq_1
def K33_15 : C := .seq (.pl <| .st (.ext 4 4) <|
    .st (.act none (.px (some 4) (.mv (.v 1)))) <|
    .st (.act none (.px (some 5) (.mv (.v 0)))) <|
    .st (.act none (.px (some 6) (.lenV (.v 5)))) <|
    .st (.act none (.px (some 7) (.bin .sub (.v 4) (.v 6)))) <|
    .st (.act none (.px (some 1) (.mv (.v 7)))) .done) K33_14
@[simp] def W33_15 := @C.wpe _ _ K33_15.eq_1
def B_laws_szProcessS : C := .seq (.pl <| .st (.ext 4 0) <|
    .st (.act none (.px (some 2) (.mv (.c (.int .i64 0))))) .done) K33_15
@[simp] def WB_laws_szProcessS := @C.wpe _ _ B_laws_szProcessS.eq_1
def R_laws_szProcessS : FIR := ⟨B_laws_szProcessS, 4, [(2, none)]⟩
theorem IR_laws_szProcessS : cfun Tryz.prog H_laws_szProcessS Tryz.f33 = some R_laws_szProcessS := by kernel_rfl
theorem EN_laws_szProcessS {args : List Value} {h : Heap} {k : Value → Heap → Prop} (hargs : args.length = 2) (hw : B_laws_szProcessS.wp Tryz.prog (retQ [(2, none)] k) (env0 args 4) h) : CallE Tryz.prog fn_laws_szProcessS args h k := enter Tryz.func33 rfl IR_laws_szProcessS hargs hw

def H_laws_szSystem : Hint := ⟨[(0, false), (1, false), (2, true), (4, false)], []⟩
def K7_1 : C := .seq (.pl <| .st (.ext 4 1) <|
    .st (.act none (.px (some 4) (.mv (.v 1)))) <|
    .st (.act none (.px (some 3) (.mv (.v 4)))) .done) (.ret)
@[simp] def W7_1 := @C.wpe _ _ K7_1.eq_1
def K7_2 : C := .seq (.pl <| .st (.ext 4 0) <|
    .st (.act none (.px (some 3) (.mv (.c (.int .i64 (-1)))))) .done) (.ret)
@[simp] def W7_2 := @C.wpe _ _ K7_2.eq_1
def K7_3 : C := .cond 4 (.v 5) K7_2 (.skip)
@[simp] def W7_3 := @C.wpe _ _ K7_3.eq_1
def K7_4 : C := .seq (.seq (.pl <| .st (.ext 4 2) <|
    .st (.act none (.px (some 4) (.mv (.v 1)))) <|
    .st (.act none (.px (some 5) (.bin .lss (.v 4) (.c (.int .i64 0))))) .done) K7_3) K7_1
@[simp] def W7_4 := @C.wpe _ _ K7_4.eq_1
def K7_5 : Pl := .st (.act none (.px (some 1) (.mv (.v 7)))) .done
@[simp] def W7_5 := @Pl.wpe _ _ K7_5.eq_1
def K7_6 : C := .seq (.pl <| .st (.ext 4 4) <|
    .st (.act none (.als 4 none 2)) <|
    .st (.act none (.pget (some 5) (some 4) 2 1 none)) <|
    .st (.act none (.px (some 6) (.mv (.v 1)))) <|
    .st (.act none (.ex (some 7) (.call fn_laws_szProcessS [.v 5, .v 6]))) K7_5) K7_4
@[simp] def W7_6 := @C.wpe _ _ K7_6.eq_1
def K7_7 : C := .seq (.pl <| .st (.ext 4 0) <|
    .st (.act none (.px (some 3) (.mv (.c (.int .i64 (-1)))))) .done) (.ret)
@[simp] def W7_7 := @C.wpe _ _ K7_7.eq_1
def K7_8 : C := .cond 4 (.v 5) K7_7 (.skip)
@[simp] def W7_8 := @C.wpe _ _ K7_8.eq_1
def K7_9 : C := .seq (.seq (.pl <| .st (.ext 4 2) <|
    .st (.act none (.px (some 4) (.mv (.v 1)))) <|
    .st (.act none (.px (some 5) (.bin .lss (.v 4) (.c (.int .i64 0))))) .done) K7_8) K7_6
@[simp] def W7_9 := @C.wpe _ _ K7_9.eq_1
def K7_10 : Pl := .st (.act none (.px (some 1) (.mv (.v 7)))) .done
@[simp] def W7_10 := @Pl.wpe _ _ K7_10.eq_1
def K7_11 : C := .seq (.pl <| .st (.ext 4 4) <|
    .st (.act none (.als 4 none 2)) <|
    .st (.act none (.pget (some 5) (some 4) 2 0 none)) <|
    .st (.act none (.px (some 6) (.mv (.v 1)))) <|
    .st (.act none (.ex (some 7) (.call fn_laws_szIntS [.v 5, .v 6]))) K7_10) K7_9
@[simp] def W7_11 := @C.wpe _ _ K7_11.eq_1
def B_laws_szSystem : C := .seq (.pl <| .st (.ext 4 0) <|
    .st (.act none (.pnew 2 (.v 0) [])) <|
    .st (.act none (.px (some 3) (.mv (.c (.int .i64 0))))) .done) K7_11
@[simp] def WB_laws_szSystem := @C.wpe _ _ B_laws_szSystem.eq_1
def R_laws_szSystem : FIR := ⟨B_laws_szSystem, 4, [(3, none)]⟩
theorem IR_laws_szSystem : cfun Tryz.prog H_laws_szSystem Tryz.f7 = some R_laws_szSystem := by kernel_rfl
theorem EN_laws_szSystem {args : List Value} {h : Heap} {k : Value → Heap → Prop} (hargs : args.length = 2) (hw : B_laws_szSystem.wp Tryz.prog (retQ [(3, none)] k) (env0 args 4) h) : CallE Tryz.prog fn_laws_szSystem args h k := enter Tryz.func7 rfl IR_laws_szSystem hargs hw

def H_laws_toEdge : Hint := ⟨[(0, false), (1, true), (2, true), (3, true)], []⟩
def K123_1 : C := .seq (.pl <| .st (.ext 4 1) <|
    .st (.act none (.pget (some 4) none 3 0 (some 10))) <|
    .st (.act none (.pset none 2 0 10 (.v 4))) .done) (.ret)
@[simp] def W123_1 := @C.wpe _ _ K123_1.eq_1
def K123_2 : C := .seq (.pl <| .st (.ext 4 3) <|
    .st (.act none (.als 4 none 1)) <|
    .st (.act none (.pget (some 5) (some 4) 1 9 none)) <|
    .st (.act none (.als 6 none 3)) <|
    .st (.act none (.pset (some 6) 3 9 1 (.v 5))) .done) K123_1
@[simp] def W123_2 := @C.wpe _ _ K123_2.eq_1
def K123_3 : Pl := .st (.act none (.als 7 none 3)) <|
    .st (.act none (.pset (some 7) 3 6 3 (.v 6))) .done
@[simp] def W123_3 := @Pl.wpe _ _ K123_3.eq_1
def K123_4 : C := .seq (.pl <| .st (.ext 4 4) <|
    .st (.act none (.als 4 none 1)) <|
    .st (.act none (.pget (some 5) (some 4) 1 6 (some 3))) <|
    .st (.act none (.ex (some 6) (.call fn_laws_toExpr [.v 5]))) K123_3) K123_2
@[simp] def W123_4 := @C.wpe _ _ K123_4.eq_1
def K123_5 : C := .seq (.pl <| .st (.ext 4 3) <|
    .st (.act none (.als 4 none 1)) <|
    .st (.act none (.pget (some 5) (some 4) 1 5 none)) <|
    .st (.act none (.als 6 none 3)) <|
    .st (.act none (.pset (some 6) 3 5 1 (.v 5))) .done) K123_4
@[simp] def W123_5 := @C.wpe _ _ K123_5.eq_1
def K123_6 : Pl := .st (.act none (.als 7 none 3)) <|
    .st (.act none (.pset (some 7) 3 2 3 (.v 6))) .done
@[simp] def W123_6 := @Pl.wpe _ _ K123_6.eq_1
def K123_7 : C := .seq (.pl <| .st (.ext 4 4) <|
    .st (.act none (.als 4 none 1)) <|
    .st (.act none (.pget (some 5) (some 4) 1 2 (some 3))) <|
    .st (.act none (.ex (some 6) (.call fn_laws_toExpr [.v 5]))) K123_6) K123_5
@[simp] def W123_7 := @C.wpe _ _ K123_7.eq_1
def K123_8 : C := .seq (.pl <| .st (.ext 4 3) <|
    .st (.act none (.als 4 none 1)) <|
    .st (.act none (.pget (some 5) (some 4) 1 1 none)) <|
    .st (.act none (.als 6 none 3)) <|
    .st (.act none (.pset (some 6) 3 1 1 (.v 5))) .done) K123_7
@[simp] def W123_8 := @C.wpe _ _ K123_8.eq_1
def K123_9 : C := .seq (.pl <| .st (.ext 4 3) <|
    .st (.act none (.als 4 none 1)) <|
    .st (.act none (.pget (some 5) (some 4) 1 0 none)) <|
    .st (.act none (.als 6 none 3)) <|
    .st (.act none (.pset (some 6) 3 0 1 (.v 5))) .done) K123_8
@[simp] def W123_9 := @C.wpe _ _ K123_9.eq_1
def K123_10 : C := .seq (.pl <| .st (.ext 4 0) <|
    .st (.act none (.pnew 3 (.c (.agg #[.int .i64 0, .int .i64 0, .int .i64 0, .int .i64 0, .slice none 0 0, .int .i64 0, .int .i64 0, .int .i64 0, .slice none 0 0, .int .i64 0])) [])) .done) K123_9
@[simp] def W123_10 := @C.wpe _ _ K123_10.eq_1
def B_laws_toEdge : C := .seq (.pl <| .st (.ext 4 0) <|
    .st (.act none (.pnew 1 (.v 0) [])) <|
    .st (.act none (.pnew 2 (.c (.agg #[.int .i64 0, .int .i64 0, .int .i64 0, .int .i64 0, .slice none 0 0, .int .i64 0, .int .i64 0, .int .i64 0, .slice none 0 0, .int .i64 0])) [])) .done) K123_10
@[simp] def WB_laws_toEdge := @C.wpe _ _ B_laws_toEdge.eq_1
def R_laws_toEdge : FIR := ⟨B_laws_toEdge, 4, [(2, some (some 10))]⟩
theorem IR_laws_toEdge : cfun Tryz.prog H_laws_toEdge Tryz.f123 = some R_laws_toEdge := by kernel_rfl
theorem EN_laws_toEdge {args : List Value} {h : Heap} {k : Value → Heap → Prop} (hargs : args.length = 1) (hw : B_laws_toEdge.wp Tryz.prog (retQ [(2, some (some 10))] k) (env0 args 4) h) : CallE Tryz.prog fn_laws_toEdge args h k := enter Tryz.func123 rfl IR_laws_toEdge hargs hw

def H_laws_toEdgeS : Hint := ⟨[(0, false), (2, false), (3, false), (4, false)], [[1]]⟩
def K105_1 : C := .seq (.pl <| .st (.ext 4 1) <|
    .st (.act none (.px (some 4) (.mv (.v 2)))) <|
    .st (.act none (.px (some 1) (.mv (.v 4)))) .done) (.ret)
@[simp] def W105_1 := @C.wpe _ _ K105_1.eq_1
def K105_2 : C := .pl <| .st (.ext 4 2) <|
    .st (.act none (.px (some 4) (.mv (.v 3)))) <|
    .st (.act none (.px (some 5) (.bin .add (.v 4) (.c (.int .i64 1))))) <|
    .st (.act none (.px (some 3) (.mv (.v 5)))) .done
@[simp] def W105_2 := @C.wpe _ _ K105_2.eq_1
def K105_3 : Pl := .st (.act none (.px (some 11) (.ia 10 (.v 4) (.v 5)))) <|
    .st (.act none (.ex none (.store 10 (.v 11) (.v 10)))) .done
@[simp] def W105_3 := @Pl.wpe _ _ K105_3.eq_1
def K105_4 : C := .seq (.block 1 (.pl <| .st (.ext 4 8) <|
    .st (.act none (.px (some 4) (.mv (.v 2)))) <|
    .st (.act none (.px (some 5) (.mv (.v 3)))) <|
    .st (.act none (.px (some 6) (.mv (.v 0)))) <|
    .st (.act none (.px (some 7) (.mv (.v 3)))) <|
    .st (.act none (.px (some 8) (.ia 10 (.v 6) (.v 7)))) <|
    .st (.act none (.ld (some 9) (.v 8) (some 10))) <|
    .st (.act none (.ex (some 10) (.call fn_laws_toEdge [.v 9]))) K105_3)) K105_2
@[simp] def W105_4 := @C.wpe _ _ K105_4.eq_1
def K105_5 : C := .cond 4 (.v 7) (.skip) (.exit 0)
@[simp] def W105_5 := @C.wpe _ _ K105_5.eq_1
def K105_6 : C := .seq (.seq (.pl <| .st (.ext 4 4) <|
    .st (.act none (.px (some 4) (.mv (.v 3)))) <|
    .st (.act none (.px (some 5) (.mv (.v 0)))) <|
    .st (.act none (.px (some 6) (.lenV (.v 5)))) <|
    .st (.act none (.px (some 7) (.bin .lss (.v 4) (.v 6)))) .done) K105_5) K105_4
@[simp] def W105_6 := @C.wpe _ _ K105_6.eq_1
def K105_7 : C := .block 0 (.loop 4 [1] K105_6)
@[simp] def W105_7 := @C.wpe _ _ K105_7.eq_1
def K105_8 : C := .seq (.seq (.pl <| .st (.ext 4 0) <|
    .st (.act none (.px (some 3) (.mv (.c (.int .i64 0))))) .done) K105_7) K105_1
@[simp] def W105_8 := @C.wpe _ _ K105_8.eq_1
def K105_9 : Pl := .st (.act none (.px (some 2) (.mv (.v 6)))) .done
@[simp] def W105_9 := @Pl.wpe _ _ K105_9.eq_1
def K105_10 : C := .seq (.pl <| .st (.ext 4 3) <|
    .st (.act none (.px (some 4) (.mv (.v 0)))) <|
    .st (.act none (.px (some 5) (.lenV (.v 4)))) <|
    .st (.act none (.ex (some 6) (.mks 112 10 [.int .i64 0, .int .i64 0, .int .i64 0, .int .i64 0, .slice none 0 0, .int .i64 0, .int .i64 0, .int .i64 0, .slice none 0 0, .int .i64 0] (.v 5) (.v 5)))) K105_9) K105_8
@[simp] def W105_10 := @C.wpe _ _ K105_10.eq_1
def B_laws_toEdgeS : C := .seq (.pl <| .st (.ext 4 0) <|
    .st (.act none (.px (some 1) (.mv (.c (.slice none 0 0))))) .done) K105_10
@[simp] def WB_laws_toEdgeS := @C.wpe _ _ B_laws_toEdgeS.eq_1
def R_laws_toEdgeS : FIR := ⟨B_laws_toEdgeS, 4, [(1, none)]⟩
theorem IR_laws_toEdgeS : cfun Tryz.prog H_laws_toEdgeS Tryz.f105 = some R_laws_toEdgeS := by kernel_rfl
theorem EN_laws_toEdgeS {args : List Value} {h : Heap} {k : Value → Heap → Prop} (hargs : args.length = 1) (hw : B_laws_toEdgeS.wp Tryz.prog (retQ [(1, none)] k) (env0 args 4) h) : CallE Tryz.prog fn_laws_toEdgeS args h k := enter Tryz.func105 rfl IR_laws_toEdgeS hargs hw

def H_laws_toExpr : Hint := ⟨[(0, false), (1, true), (2, true), (3, true)], []⟩
def K23_1 : C := .seq (.pl <| .st (.ext 4 1) <|
    .st (.act none (.pget (some 4) none 3 0 (some 3))) <|
    .st (.act none (.pset none 2 0 3 (.v 4))) .done) (.ret)
@[simp] def W23_1 := @C.wpe _ _ K23_1.eq_1
def K23_2 : Pl := .st (.act none (.als 7 none 3)) <|
    .st (.act none (.pset (some 7) 3 2 1 (.v 6))) .done
@[simp] def W23_2 := @Pl.wpe _ _ K23_2.eq_1
def K23_3 : C := .seq (.pl <| .st (.ext 4 4) <|
    .st (.act none (.als 4 none 1)) <|
    .st (.act none (.pget (some 5) (some 4) 1 2 none)) <|
    .st (.act none (.ex (some 6) (.call fn_laws_toExprS [.v 5]))) K23_2) K23_1
@[simp] def W23_3 := @C.wpe _ _ K23_3.eq_1
def K23_4 : C := .seq (.pl <| .st (.ext 4 3) <|
    .st (.act none (.als 4 none 1)) <|
    .st (.act none (.pget (some 5) (some 4) 1 1 none)) <|
    .st (.act none (.als 6 none 3)) <|
    .st (.act none (.pset (some 6) 3 1 1 (.v 5))) .done) K23_3
@[simp] def W23_4 := @C.wpe _ _ K23_4.eq_1
def K23_5 : C := .seq (.pl <| .st (.ext 4 3) <|
    .st (.act none (.als 4 none 1)) <|
    .st (.act none (.pget (some 5) (some 4) 1 0 none)) <|
    .st (.act none (.als 6 none 3)) <|
    .st (.act none (.pset (some 6) 3 0 1 (.v 5))) .done) K23_4
@[simp] def W23_5 := @C.wpe _ _ K23_5.eq_1
def K23_6 : C := .seq (.pl <| .st (.ext 4 0) <|
    .st (.act none (.pnew 3 (.c (.agg #[.int .i64 0, .int .i64 0, .slice none 0 0])) [])) .done) K23_5
@[simp] def W23_6 := @C.wpe _ _ K23_6.eq_1
def B_laws_toExpr : C := .seq (.pl <| .st (.ext 4 0) <|
    .st (.act none (.pnew 1 (.v 0) [])) <|
    .st (.act none (.pnew 2 (.c (.agg #[.int .i64 0, .int .i64 0, .slice none 0 0])) [])) .done) K23_6
@[simp] def WB_laws_toExpr := @C.wpe _ _ B_laws_toExpr.eq_1
def R_laws_toExpr : FIR := ⟨B_laws_toExpr, 4, [(2, some (some 3))]⟩
theorem IR_laws_toExpr : cfun Tryz.prog H_laws_toExpr Tryz.f23 = some R_laws_toExpr := by kernel_rfl
theorem EN_laws_toExpr {args : List Value} {h : Heap} {k : Value → Heap → Prop} (hargs : args.length = 1) (hw : B_laws_toExpr.wp Tryz.prog (retQ [(2, some (some 3))] k) (env0 args 4) h) : CallE Tryz.prog fn_laws_toExpr args h k := enter Tryz.func23 rfl IR_laws_toExpr hargs hw

def H_laws_toExprS : Hint := ⟨[(0, false), (2, false), (3, false), (4, false)], [[1]]⟩
def K57_1 : C := .seq (.pl <| .st (.ext 4 1) <|
    .st (.act none (.px (some 4) (.mv (.v 2)))) <|
    .st (.act none (.px (some 1) (.mv (.v 4)))) .done) (.ret)
@[simp] def W57_1 := @C.wpe _ _ K57_1.eq_1
def K57_2 : C := .pl <| .st (.ext 4 2) <|
    .st (.act none (.px (some 4) (.mv (.v 3)))) <|
    .st (.act none (.px (some 5) (.bin .add (.v 4) (.c (.int .i64 1))))) <|
    .st (.act none (.px (some 3) (.mv (.v 5)))) .done
@[simp] def W57_2 := @C.wpe _ _ K57_2.eq_1
def K57_3 : Pl := .st (.act none (.px (some 11) (.ia 3 (.v 4) (.v 5)))) <|
    .st (.act none (.ex none (.store 3 (.v 11) (.v 10)))) .done
@[simp] def W57_3 := @Pl.wpe _ _ K57_3.eq_1
def K57_4 : C := .seq (.block 1 (.pl <| .st (.ext 4 8) <|
    .st (.act none (.px (some 4) (.mv (.v 2)))) <|
    .st (.act none (.px (some 5) (.mv (.v 3)))) <|
    .st (.act none (.px (some 6) (.mv (.v 0)))) <|
    .st (.act none (.px (some 7) (.mv (.v 3)))) <|
    .st (.act none (.px (some 8) (.ia 3 (.v 6) (.v 7)))) <|
    .st (.act none (.ld (some 9) (.v 8) (some 3))) <|
    .st (.act none (.ex (some 10) (.call fn_laws_toExpr [.v 9]))) K57_3)) K57_2
@[simp] def W57_4 := @C.wpe _ _ K57_4.eq_1
def K57_5 : C := .cond 4 (.v 7) (.skip) (.exit 0)
@[simp] def W57_5 := @C.wpe _ _ K57_5.eq_1
def K57_6 : C := .seq (.seq (.pl <| .st (.ext 4 4) <|
    .st (.act none (.px (some 4) (.mv (.v 3)))) <|
    .st (.act none (.px (some 5) (.mv (.v 0)))) <|
    .st (.act none (.px (some 6) (.lenV (.v 5)))) <|
    .st (.act none (.px (some 7) (.bin .lss (.v 4) (.v 6)))) .done) K57_5) K57_4
@[simp] def W57_6 := @C.wpe _ _ K57_6.eq_1
def K57_7 : C := .block 0 (.loop 4 [1] K57_6)
@[simp] def W57_7 := @C.wpe _ _ K57_7.eq_1
def K57_8 : C := .seq (.seq (.pl <| .st (.ext 4 0) <|
    .st (.act none (.px (some 3) (.mv (.c (.int .i64 0))))) .done) K57_7) K57_1
@[simp] def W57_8 := @C.wpe _ _ K57_8.eq_1
def K57_9 : Pl := .st (.act none (.px (some 2) (.mv (.v 6)))) .done
@[simp] def W57_9 := @Pl.wpe _ _ K57_9.eq_1
def K57_10 : C := .seq (.pl <| .st (.ext 4 3) <|
    .st (.act none (.px (some 4) (.mv (.v 0)))) <|
    .st (.act none (.px (some 5) (.lenV (.v 4)))) <|
    .st (.act none (.ex (some 6) (.mks 40 3 [.int .i64 0, .int .i64 0, .slice none 0 0] (.v 5) (.v 5)))) K57_9) K57_8
@[simp] def W57_10 := @C.wpe _ _ K57_10.eq_1
def B_laws_toExprS : C := .seq (.pl <| .st (.ext 4 0) <|
    .st (.act none (.px (some 1) (.mv (.c (.slice none 0 0))))) .done) K57_10
@[simp] def WB_laws_toExprS := @C.wpe _ _ B_laws_toExprS.eq_1
def R_laws_toExprS : FIR := ⟨B_laws_toExprS, 4, [(1, none)]⟩
theorem IR_laws_toExprS : cfun Tryz.prog H_laws_toExprS Tryz.f57 = some R_laws_toExprS := by kernel_rfl
theorem EN_laws_toExprS {args : List Value} {h : Heap} {k : Value → Heap → Prop} (hargs : args.length = 1) (hw : B_laws_toExprS.wp Tryz.prog (retQ [(1, none)] k) (env0 args 4) h) : CallE Tryz.prog fn_laws_toExprS args h k := enter Tryz.func57 rfl IR_laws_toExprS hargs hw

def H_laws_toIntS : Hint := ⟨[(0, false), (2, false), (3, false), (4, false)], [[1]]⟩
def K35_1 : C := .seq (.pl <| .st (.ext 4 1) <|
    .st (.act none (.px (some 4) (.mv (.v 2)))) <|
    .st (.act none (.px (some 1) (.mv (.v 4)))) .done) (.ret)
@[simp] def W35_1 := @C.wpe _ _ K35_1.eq_1
def K35_2 : C := .pl <| .st (.ext 4 2) <|
    .st (.act none (.px (some 4) (.mv (.v 3)))) <|
    .st (.act none (.px (some 5) (.bin .add (.v 4) (.c (.int .i64 1))))) <|
    .st (.act none (.px (some 3) (.mv (.v 5)))) .done
@[simp] def W35_2 := @C.wpe _ _ K35_2.eq_1
def K35_3 : C := .seq (.block 1 (.pl <| .st (.ext 4 7) <|
    .st (.act none (.px (some 4) (.mv (.v 2)))) <|
    .st (.act none (.px (some 5) (.mv (.v 3)))) <|
    .st (.act none (.px (some 6) (.mv (.v 0)))) <|
    .st (.act none (.px (some 7) (.mv (.v 3)))) <|
    .st (.act none (.px (some 8) (.ia 1 (.v 6) (.v 7)))) <|
    .st (.act none (.ld (some 9) (.v 8) none)) <|
    .st (.act none (.px (some 10) (.ia 1 (.v 4) (.v 5)))) <|
    .st (.act none (.ex none (.store 1 (.v 10) (.v 9)))) .done)) K35_2
@[simp] def W35_3 := @C.wpe _ _ K35_3.eq_1
def K35_4 : C := .cond 4 (.v 7) (.skip) (.exit 0)
@[simp] def W35_4 := @C.wpe _ _ K35_4.eq_1
def K35_5 : C := .seq (.seq (.pl <| .st (.ext 4 4) <|
    .st (.act none (.px (some 4) (.mv (.v 3)))) <|
    .st (.act none (.px (some 5) (.mv (.v 0)))) <|
    .st (.act none (.px (some 6) (.lenV (.v 5)))) <|
    .st (.act none (.px (some 7) (.bin .lss (.v 4) (.v 6)))) .done) K35_4) K35_3
@[simp] def W35_5 := @C.wpe _ _ K35_5.eq_1
def K35_6 : C := .block 0 (.loop 4 [1] K35_5)
@[simp] def W35_6 := @C.wpe _ _ K35_6.eq_1
def K35_7 : C := .seq (.seq (.pl <| .st (.ext 4 0) <|
    .st (.act none (.px (some 3) (.mv (.c (.int .i64 0))))) .done) K35_6) K35_1
@[simp] def W35_7 := @C.wpe _ _ K35_7.eq_1
def K35_8 : Pl := .st (.act none (.px (some 2) (.mv (.v 6)))) .done
@[simp] def W35_8 := @Pl.wpe _ _ K35_8.eq_1
def K35_9 : C := .seq (.pl <| .st (.ext 4 3) <|
    .st (.act none (.px (some 4) (.mv (.v 0)))) <|
    .st (.act none (.px (some 5) (.lenV (.v 4)))) <|
    .st (.act none (.ex (some 6) (.mks 8 1 [.int .i64 0] (.v 5) (.v 5)))) K35_8) K35_7
@[simp] def W35_9 := @C.wpe _ _ K35_9.eq_1
def B_laws_toIntS : C := .seq (.pl <| .st (.ext 4 0) <|
    .st (.act none (.px (some 1) (.mv (.c (.slice none 0 0))))) .done) K35_9
@[simp] def WB_laws_toIntS := @C.wpe _ _ B_laws_toIntS.eq_1
def R_laws_toIntS : FIR := ⟨B_laws_toIntS, 4, [(1, none)]⟩
theorem IR_laws_toIntS : cfun Tryz.prog H_laws_toIntS Tryz.f35 = some R_laws_toIntS := by kernel_rfl
theorem EN_laws_toIntS {args : List Value} {h : Heap} {k : Value → Heap → Prop} (hargs : args.length = 1) (hw : B_laws_toIntS.wp Tryz.prog (retQ [(1, none)] k) (env0 args 4) h) : CallE Tryz.prog fn_laws_toIntS args h k := enter Tryz.func35 rfl IR_laws_toIntS hargs hw

def H_laws_toProcess : Hint := ⟨[(0, false), (1, true), (2, true), (3, true)], []⟩
def K71_1 : C := .seq (.pl <| .st (.ext 4 1) <|
    .st (.act none (.pget (some 4) none 3 0 (some 2))) <|
    .st (.act none (.pset none 2 0 2 (.v 4))) .done) (.ret)
@[simp] def W71_1 := @C.wpe _ _ K71_1.eq_1
def K71_2 : Pl := .st (.act none (.als 7 none 3)) <|
    .st (.act none (.pset (some 7) 3 1 1 (.v 6))) .done
@[simp] def W71_2 := @Pl.wpe _ _ K71_2.eq_1
def K71_3 : C := .seq (.pl <| .st (.ext 4 4) <|
    .st (.act none (.als 4 none 1)) <|
    .st (.act none (.pget (some 5) (some 4) 1 1 none)) <|
    .st (.act none (.ex (some 6) (.call fn_laws_toEdgeS [.v 5]))) K71_2) K71_1
@[simp] def W71_3 := @C.wpe _ _ K71_3.eq_1
def K71_4 : C := .seq (.pl <| .st (.ext 4 3) <|
    .st (.act none (.als 4 none 1)) <|
    .st (.act none (.pget (some 5) (some 4) 1 0 none)) <|
    .st (.act none (.als 6 none 3)) <|
    .st (.act none (.pset (some 6) 3 0 1 (.v 5))) .done) K71_3
@[simp] def W71_4 := @C.wpe _ _ K71_4.eq_1
def K71_5 : C := .seq (.pl <| .st (.ext 4 0) <|
    .st (.act none (.pnew 3 (.c (.agg #[.int .i64 0, .slice none 0 0])) [])) .done) K71_4
@[simp] def W71_5 := @C.wpe _ _ K71_5.eq_1
def B_laws_toProcess : C := .seq (.pl <| .st (.ext 4 0) <|
    .st (.act none (.pnew 1 (.v 0) [])) <|
    .st (.act none (.pnew 2 (.c (.agg #[.int .i64 0, .slice none 0 0])) [])) .done) K71_5
@[simp] def WB_laws_toProcess := @C.wpe _ _ B_laws_toProcess.eq_1
def R_laws_toProcess : FIR := ⟨B_laws_toProcess, 4, [(2, some (some 2))]⟩
theorem IR_laws_toProcess : cfun Tryz.prog H_laws_toProcess Tryz.f71 = some R_laws_toProcess := by kernel_rfl
theorem EN_laws_toProcess {args : List Value} {h : Heap} {k : Value → Heap → Prop} (hargs : args.length = 1) (hw : B_laws_toProcess.wp Tryz.prog (retQ [(2, some (some 2))] k) (env0 args 4) h) : CallE Tryz.prog fn_laws_toProcess args h k := enter Tryz.func71 rfl IR_laws_toProcess hargs hw

def H_laws_toProcessS : Hint := ⟨[(0, false), (2, false), (3, false), (4, false)], [[1]]⟩
def K36_1 : C := .seq (.pl <| .st (.ext 4 1) <|
    .st (.act none (.px (some 4) (.mv (.v 2)))) <|
    .st (.act none (.px (some 1) (.mv (.v 4)))) .done) (.ret)
@[simp] def W36_1 := @C.wpe _ _ K36_1.eq_1
def K36_2 : C := .pl <| .st (.ext 4 2) <|
    .st (.act none (.px (some 4) (.mv (.v 3)))) <|
    .st (.act none (.px (some 5) (.bin .add (.v 4) (.c (.int .i64 1))))) <|
    .st (.act none (.px (some 3) (.mv (.v 5)))) .done
@[simp] def W36_2 := @C.wpe _ _ K36_2.eq_1
def K36_3 : Pl := .st (.act none (.px (some 11) (.ia 2 (.v 4) (.v 5)))) <|
    .st (.act none (.ex none (.store 2 (.v 11) (.v 10)))) .done
@[simp] def W36_3 := @Pl.wpe _ _ K36_3.eq_1
def K36_4 : C := .seq (.block 1 (.pl <| .st (.ext 4 8) <|
    .st (.act none (.px (some 4) (.mv (.v 2)))) <|
    .st (.act none (.px (some 5) (.mv (.v 3)))) <|
    .st (.act none (.px (some 6) (.mv (.v 0)))) <|
    .st (.act none (.px (some 7) (.mv (.v 3)))) <|
    .st (.act none (.px (some 8) (.ia 2 (.v 6) (.v 7)))) <|
    .st (.act none (.ld (some 9) (.v 8) (some 2))) <|
    .st (.act none (.ex (some 10) (.call fn_laws_toProcess [.v 9]))) K36_3)) K36_2
@[simp] def W36_4 := @C.wpe _ _ K36_4.eq_1
def K36_5 : C := .cond 4 (.v 7) (.skip) (.exit 0)
@[simp] def W36_5 := @C.wpe _ _ K36_5.eq_1
def K36_6 : C := .seq (.seq (.pl <| .st (.ext 4 4) <|
    .st (.act none (.px (some 4) (.mv (.v 3)))) <|
    .st (.act none (.px (some 5) (.mv (.v 0)))) <|
    .st (.act none (.px (some 6) (.lenV (.v 5)))) <|
    .st (.act none (.px (some 7) (.bin .lss (.v 4) (.v 6)))) .done) K36_5) K36_4
@[simp] def W36_6 := @C.wpe _ _ K36_6.eq_1
def K36_7 : C := .block 0 (.loop 4 [1] K36_6)
@[simp] def W36_7 := @C.wpe _ _ K36_7.eq_1
def K36_8 : C := .seq (.seq (.pl <| .st (.ext 4 0) <|
    .st (.act none (.px (some 3) (.mv (.c (.int .i64 0))))) .done) K36_7) K36_1
@[simp] def W36_8 := @C.wpe _ _ K36_8.eq_1
def K36_9 : Pl := .st (.act none (.px (some 2) (.mv (.v 6)))) .done
@[simp] def W36_9 := @Pl.wpe _ _ K36_9.eq_1
def K36_10 : C := .seq (.pl <| .st (.ext 4 3) <|
    .st (.act none (.px (some 4) (.mv (.v 0)))) <|
    .st (.act none (.px (some 5) (.lenV (.v 4)))) <|
    .st (.act none (.ex (some 6) (.mks 32 2 [.int .i64 0, .slice none 0 0] (.v 5) (.v 5)))) K36_9) K36_8
@[simp] def W36_10 := @C.wpe _ _ K36_10.eq_1
def B_laws_toProcessS : C := .seq (.pl <| .st (.ext 4 0) <|
    .st (.act none (.px (some 1) (.mv (.c (.slice none 0 0))))) .done) K36_10
@[simp] def WB_laws_toProcessS := @C.wpe _ _ B_laws_toProcessS.eq_1
def R_laws_toProcessS : FIR := ⟨B_laws_toProcessS, 4, [(1, none)]⟩
theorem IR_laws_toProcessS : cfun Tryz.prog H_laws_toProcessS Tryz.f36 = some R_laws_toProcessS := by kernel_rfl
theorem EN_laws_toProcessS {args : List Value} {h : Heap} {k : Value → Heap → Prop} (hargs : args.length = 1) (hw : B_laws_toProcessS.wp Tryz.prog (retQ [(1, none)] k) (env0 args 4) h) : CallE Tryz.prog fn_laws_toProcessS args h k := enter Tryz.func36 rfl IR_laws_toProcessS hargs hw

def H_laws_toSystem : Hint := ⟨[(0, false), (1, true), (2, true), (3, true)], []⟩
def K9_1 : C := .seq (.pl <| .st (.ext 4 1) <|
    .st (.act none (.pget (some 4) none 3 0 (some 2))) <|
    .st (.act none (.pset none 2 0 2 (.v 4))) .done) (.ret)
@[simp] def W9_1 := @C.wpe _ _ K9_1.eq_1
def K9_2 : Pl := .st (.act none (.als 7 none 3)) <|
    .st (.act none (.pset (some 7) 3 1 1 (.v 6))) .done
@[simp] def W9_2 := @Pl.wpe _ _ K9_2.eq_1
def K9_3 : C := .seq (.pl <| .st (.ext 4 4) <|
    .st (.act none (.als 4 none 1)) <|
    .st (.act none (.pget (some 5) (some 4) 1 1 none)) <|
    .st (.act none (.ex (some 6) (.call fn_laws_toProcessS [.v 5]))) K9_2) K9_1
@[simp] def W9_3 := @C.wpe _ _ K9_3.eq_1
def K9_4 : Pl := .st (.act none (.als 7 none 3)) <|
    .st (.act none (.pset (some 7) 3 0 1 (.v 6))) .done
@[simp] def W9_4 := @Pl.wpe _ _ K9_4.eq_1
def K9_5 : C := .seq (.pl <| .st (.ext 4 4) <|
    .st (.act none (.als 4 none 1)) <|
    .st (.act none (.pget (some 5) (some 4) 1 0 none)) <|
    .st (.act none (.ex (some 6) (.call fn_laws_toIntS [.v 5]))) K9_4) K9_3
@[simp] def W9_5 := @C.wpe _ _ K9_5.eq_1
def K9_6 : C := .seq (.pl <| .st (.ext 4 0) <|
    .st (.act none (.pnew 3 (.c (.agg #[.slice none 0 0, .slice none 0 0])) [])) .done) K9_5
@[simp] def W9_6 := @C.wpe _ _ K9_6.eq_1
def B_laws_toSystem : C := .seq (.pl <| .st (.ext 4 0) <|
    .st (.act none (.pnew 1 (.v 0) [])) <|
    .st (.act none (.pnew 2 (.c (.agg #[.slice none 0 0, .slice none 0 0])) [])) .done) K9_6
@[simp] def WB_laws_toSystem := @C.wpe _ _ B_laws_toSystem.eq_1
def R_laws_toSystem : FIR := ⟨B_laws_toSystem, 4, [(2, some (some 2))]⟩
theorem IR_laws_toSystem : cfun Tryz.prog H_laws_toSystem Tryz.f9 = some R_laws_toSystem := by kernel_rfl
theorem EN_laws_toSystem {args : List Value} {h : Heap} {k : Value → Heap → Prop} (hargs : args.length = 1) (hw : B_laws_toSystem.wp Tryz.prog (retQ [(2, some (some 2))] k) (env0 args 4) h) : CallE Tryz.prog fn_laws_toSystem args h k := enter Tryz.func9 rfl IR_laws_toSystem hargs hw

def H_slices_Clip_S_S_int_S_int : Hint := ⟨[(0, false), (2, false)], []⟩
def K90_1 : C := .seq (.pl <| .st (.ext 2 6) <|
    .st (.act none (.px (some 2) (.mv (.v 0)))) <|
    .st (.act none (.px (some 3) (.mv (.v 0)))) <|
    .st (.act none (.px (some 4) (.lenV (.v 3)))) <|
    .st (.act none (.px (some 5) (.mv (.v 0)))) <|
    .st (.act none (.px (some 6) (.lenV (.v 5)))) <|
    .st (.act none (.px (some 7) (.sliceV 1 (.v 2) none (some (.v 4)) (some (.v 6))))) <|
    .st (.act none (.px (some 1) (.mv (.v 7)))) .done) (.ret)
@[simp] def W90_1 := @C.wpe _ _ K90_1.eq_1
def B_slices_Clip_S_S_int_S_int : C := .seq (.pl <| .st (.ext 2 0) <|
    .st (.act none (.px (some 1) (.mv (.c (.slice none 0 0))))) .done) K90_1
@[simp] def WB_slices_Clip_S_S_int_S_int := @C.wpe _ _ B_slices_Clip_S_S_int_S_int.eq_1
def R_slices_Clip_S_S_int_S_int : FIR := ⟨B_slices_Clip_S_S_int_S_int, 2, [(1, none)]⟩
theorem IR_slices_Clip_S_S_int_S_int : cfun Tryz.prog H_slices_Clip_S_S_int_S_int Tryz.f90 = some R_slices_Clip_S_S_int_S_int := by kernel_rfl
theorem EN_slices_Clip_S_S_int_S_int {args : List Value} {h : Heap} {k : Value → Heap → Prop} (hargs : args.length = 1) (hw : B_slices_Clip_S_S_int_S_int.wp Tryz.prog (retQ [(1, none)] k) (env0 args 2) h) : CallE Tryz.prog fn_slices_Clip_S_S_int_S_int args h k := enter Tryz.func90 rfl IR_slices_Clip_S_S_int_S_int hargs hw

def H_slices_Clip_S_impl_State_impl_State : Hint := ⟨[(0, false), (2, false)], []⟩
def K89_1 : C := .seq (.pl <| .st (.ext 2 6) <|
    .st (.act none (.px (some 2) (.mv (.v 0)))) <|
    .st (.act none (.px (some 3) (.mv (.v 0)))) <|
    .st (.act none (.px (some 4) (.lenV (.v 3)))) <|
    .st (.act none (.px (some 5) (.mv (.v 0)))) <|
    .st (.act none (.px (some 6) (.lenV (.v 5)))) <|
    .st (.act none (.px (some 7) (.sliceV 2 (.v 2) none (some (.v 4)) (some (.v 6))))) <|
    .st (.act none (.px (some 1) (.mv (.v 7)))) .done) (.ret)
@[simp] def W89_1 := @C.wpe _ _ K89_1.eq_1
def B_slices_Clip_S_impl_State_impl_State : C := .seq (.pl <| .st (.ext 2 0) <|
    .st (.act none (.px (some 1) (.mv (.c (.slice none 0 0))))) .done) K89_1
@[simp] def WB_slices_Clip_S_impl_State_impl_State := @C.wpe _ _ B_slices_Clip_S_impl_State_impl_State.eq_1
def R_slices_Clip_S_impl_State_impl_State : FIR := ⟨B_slices_Clip_S_impl_State_impl_State, 2, [(1, none)]⟩
theorem IR_slices_Clip_S_impl_State_impl_State : cfun Tryz.prog H_slices_Clip_S_impl_State_impl_State Tryz.f89 = some R_slices_Clip_S_impl_State_impl_State := by kernel_rfl
theorem EN_slices_Clip_S_impl_State_impl_State {args : List Value} {h : Heap} {k : Value → Heap → Prop} (hargs : args.length = 1) (hw : B_slices_Clip_S_impl_State_impl_State.wp Tryz.prog (retQ [(1, none)] k) (env0 args 2) h) : CallE Tryz.prog fn_slices_Clip_S_impl_State_impl_State args h k := enter Tryz.func89 rfl IR_slices_Clip_S_impl_State_impl_State hargs hw

def H_slices_Clip_S_impl_Step_impl_Step : Hint := ⟨[(0, false), (2, false)], []⟩
def K73_1 : C := .seq (.pl <| .st (.ext 2 6) <|
    .st (.act none (.px (some 2) (.mv (.v 0)))) <|
    .st (.act none (.px (some 3) (.mv (.v 0)))) <|
    .st (.act none (.px (some 4) (.lenV (.v 3)))) <|
    .st (.act none (.px (some 5) (.mv (.v 0)))) <|
    .st (.act none (.px (some 6) (.lenV (.v 5)))) <|
    .st (.act none (.px (some 7) (.sliceV 4 (.v 2) none (some (.v 4)) (some (.v 6))))) <|
    .st (.act none (.px (some 1) (.mv (.v 7)))) .done) (.ret)
@[simp] def W73_1 := @C.wpe _ _ K73_1.eq_1
def B_slices_Clip_S_impl_Step_impl_Step : C := .seq (.pl <| .st (.ext 2 0) <|
    .st (.act none (.px (some 1) (.mv (.c (.slice none 0 0))))) .done) K73_1
@[simp] def WB_slices_Clip_S_impl_Step_impl_Step := @C.wpe _ _ B_slices_Clip_S_impl_Step_impl_Step.eq_1
def R_slices_Clip_S_impl_Step_impl_Step : FIR := ⟨B_slices_Clip_S_impl_Step_impl_Step, 2, [(1, none)]⟩
theorem IR_slices_Clip_S_impl_Step_impl_Step : cfun Tryz.prog H_slices_Clip_S_impl_Step_impl_Step Tryz.f73 = some R_slices_Clip_S_impl_Step_impl_Step := by kernel_rfl
theorem EN_slices_Clip_S_impl_Step_impl_Step {args : List Value} {h : Heap} {k : Value → Heap → Prop} (hargs : args.length = 1) (hw : B_slices_Clip_S_impl_Step_impl_Step.wp Tryz.prog (retQ [(1, none)] k) (env0 args 2) h) : CallE Tryz.prog fn_slices_Clip_S_impl_Step_impl_Step args h k := enter Tryz.func73 rfl IR_slices_Clip_S_impl_Step_impl_Step hargs hw

def H_slices_Clip_S_int_int : Hint := ⟨[(0, false), (2, false)], []⟩
def K88_1 : C := .seq (.pl <| .st (.ext 2 6) <|
    .st (.act none (.px (some 2) (.mv (.v 0)))) <|
    .st (.act none (.px (some 3) (.mv (.v 0)))) <|
    .st (.act none (.px (some 4) (.lenV (.v 3)))) <|
    .st (.act none (.px (some 5) (.mv (.v 0)))) <|
    .st (.act none (.px (some 6) (.lenV (.v 5)))) <|
    .st (.act none (.px (some 7) (.sliceV 1 (.v 2) none (some (.v 4)) (some (.v 6))))) <|
    .st (.act none (.px (some 1) (.mv (.v 7)))) .done) (.ret)
@[simp] def W88_1 := @C.wpe _ _ K88_1.eq_1
def B_slices_Clip_S_int_int : C := .seq (.pl <| .st (.ext 2 0) <|
    .st (.act none (.px (some 1) (.mv (.c (.slice none 0 0))))) .done) K88_1
@[simp] def WB_slices_Clip_S_int_int := @C.wpe _ _ B_slices_Clip_S_int_int.eq_1
def R_slices_Clip_S_int_int : FIR := ⟨B_slices_Clip_S_int_int, 2, [(1, none)]⟩
theorem IR_slices_Clip_S_int_int : cfun Tryz.prog H_slices_Clip_S_int_int Tryz.f88 = some R_slices_Clip_S_int_int := by kernel_rfl
theorem EN_slices_Clip_S_int_int {args : List Value} {h : Heap} {k : Value → Heap → Prop} (hargs : args.length = 1) (hw : B_slices_Clip_S_int_int.wp Tryz.prog (retQ [(1, none)] k) (env0 args 2) h) : CallE Tryz.prog fn_slices_Clip_S_int_int args h k := enter Tryz.func88 rfl IR_slices_Clip_S_int_int hargs hw

def H_slices_Clone_S_int_int : Hint := ⟨[(0, false), (2, false)], []⟩
def K127_1 : Pl := .st (.act none (.px (some 1) (.mv (.v 4)))) .done
@[simp] def W127_1 := @Pl.wpe _ _ K127_1.eq_1
def K127_2 : C := .seq (.pl <| .st (.ext 2 3) <|
    .st (.act none (.psl 2 [] [])) <|
    .st (.act none (.px (some 3) (.mv (.v 0)))) <|
    .st (.act none (.ex (some 4) (.app 8 1 [.int .i64 0] (.p 0 2) (.o (.v 3))))) K127_1) (.ret)
@[simp] def W127_2 := @C.wpe _ _ K127_2.eq_1
def K127_3 : C := .seq (.pl <| .st (.ext 2 0) <|
    .st (.act none (.px (some 1) (.mv (.c (.slice none 0 0))))) .done) (.ret)
@[simp] def W127_3 := @C.wpe _ _ K127_3.eq_1
def K127_4 : C := .cond 2 (.v 3) K127_3 (.skip)
@[simp] def W127_4 := @C.wpe _ _ K127_4.eq_1
def K127_5 : C := .seq (.seq (.pl <| .st (.ext 2 2) <|
    .st (.act none (.px (some 2) (.mv (.v 0)))) <|
    .st (.act none (.px (some 3) (.isNil false (.v 2)))) .done) K127_4) K127_2
@[simp] def W127_5 := @C.wpe _ _ K127_5.eq_1
def B_slices_Clone_S_int_int : C := .seq (.pl <| .st (.ext 2 0) <|
    .st (.act none (.px (some 1) (.mv (.c (.slice none 0 0))))) .done) K127_5
@[simp] def WB_slices_Clone_S_int_int := @C.wpe _ _ B_slices_Clone_S_int_int.eq_1
def R_slices_Clone_S_int_int : FIR := ⟨B_slices_Clone_S_int_int, 2, [(1, none)]⟩
theorem IR_slices_Clone_S_int_int : cfun Tryz.prog H_slices_Clone_S_int_int Tryz.f127 = some R_slices_Clone_S_int_int := by kernel_rfl
theorem EN_slices_Clone_S_int_int {args : List Value} {h : Heap} {k : Value → Heap → Prop} (hargs : args.length = 1) (hw : B_slices_Clone_S_int_int.wp Tryz.prog (retQ [(1, none)] k) (env0 args 2) h) : CallE Tryz.prog fn_slices_Clone_S_int_int args h k := enter Tryz.func127 rfl IR_slices_Clone_S_int_int hargs hw

def H_slices_ContainsFunc_S_impl_Edge_impl_Edge : Hint := ⟨[(0, false), (1, false), (4, false)], []⟩
def K79_1 : Pl := .st (.act none (.px (some 6) (.bin .geq (.v 5) (.c (.int .i64 0))))) <|
    .st (.act none (.px (some 2) (.mv (.v 6)))) .done
@[simp] def W79_1 := @Pl.wpe _ _ K79_1.eq_1
def K79_2 : C := .seq (.pl <| .st (.ext 3 4) <|
    .st (.act none (.px (some 3) (.mv (.v 0)))) <|
    .st (.act none (.px (some 4) (.mv (.v 1)))) <|
    .st (.act none (.ex (some 5) (.call fn_slices_IndexFunc_S_impl_Edge_impl_Edge [.v 3, .v 4]))) K79_1) (.ret)
@[simp] def W79_2 := @C.wpe _ _ K79_2.eq_1
def B_slices_ContainsFunc_S_impl_Edge_impl_Edge : C := .seq (.pl <| .st (.ext 3 0) <|
    .st (.act none (.px (some 2) (.mv (.c (.bool false))))) .done) K79_2
@[simp] def WB_slices_ContainsFunc_S_impl_Edge_impl_Edge := @C.wpe _ _ B_slices_ContainsFunc_S_impl_Edge_impl_Edge.eq_1
def R_slices_ContainsFunc_S_impl_Edge_impl_Edge : FIR := ⟨B_slices_ContainsFunc_S_impl_Edge_impl_Edge, 3, [(2, none)]⟩
theorem IR_slices_ContainsFunc_S_impl_Edge_impl_Edge : cfun Tryz.prog H_slices_ContainsFunc_S_impl_Edge_impl_Edge Tryz.f79 = some R_slices_ContainsFunc_S_impl_Edge_impl_Edge := by kernel_rfl
theorem EN_slices_ContainsFunc_S_impl_Edge_impl_Edge {args : List Value} {h : Heap} {k : Value → Heap → Prop} (hargs : args.length = 2) (hw : B_slices_ContainsFunc_S_impl_Edge_impl_Edge.wp Tryz.prog (retQ [(2, none)] k) (env0 args 3) h) : CallE Tryz.prog fn_slices_ContainsFunc_S_impl_Edge_impl_Edge args h k := enter Tryz.func79 rfl IR_slices_ContainsFunc_S_impl_Edge_impl_Edge hargs hw

def H_slices_ContainsFunc_S_impl_Expr_impl_Expr : Hint := ⟨[(0, false), (1, false), (4, false)], []⟩
def K130_1 : Pl := .st (.act none (.px (some 6) (.bin .geq (.v 5) (.c (.int .i64 0))))) <|
    .st (.act none (.px (some 2) (.mv (.v 6)))) .done
@[simp] def W130_1 := @Pl.wpe _ _ K130_1.eq_1
def K130_2 : C := .seq (.pl <| .st (.ext 3 4) <|
    .st (.act none (.px (some 3) (.mv (.v 0)))) <|
    .st (.act none (.px (some 4) (.mv (.v 1)))) <|
    .st (.act none (.ex (some 5) (.call fn_slices_IndexFunc_S_impl_Expr_impl_Expr [.v 3, .v 4]))) K130_1) (.ret)
@[simp] def W130_2 := @C.wpe _ _ K130_2.eq_1
def B_slices_ContainsFunc_S_impl_Expr_impl_Expr : C := .seq (.pl <| .st (.ext 3 0) <|
    .st (.act none (.px (some 2) (.mv (.c (.bool false))))) .done) K130_2
@[simp] def WB_slices_ContainsFunc_S_impl_Expr_impl_Expr := @C.wpe _ _ B_slices_ContainsFunc_S_impl_Expr_impl_Expr.eq_1
def R_slices_ContainsFunc_S_impl_Expr_impl_Expr : FIR := ⟨B_slices_ContainsFunc_S_impl_Expr_impl_Expr, 3, [(2, none)]⟩
theorem IR_slices_ContainsFunc_S_impl_Expr_impl_Expr : cfun Tryz.prog H_slices_ContainsFunc_S_impl_Expr_impl_Expr Tryz.f130 = some R_slices_ContainsFunc_S_impl_Expr_impl_Expr := by kernel_rfl
theorem EN_slices_ContainsFunc_S_impl_Expr_impl_Expr {args : List Value} {h : Heap} {k : Value → Heap → Prop} (hargs : args.length = 2) (hw : B_slices_ContainsFunc_S_impl_Expr_impl_Expr.wp Tryz.prog (retQ [(2, none)] k) (env0 args 3) h) : CallE Tryz.prog fn_slices_ContainsFunc_S_impl_Expr_impl_Expr args h k := enter Tryz.func130 rfl IR_slices_ContainsFunc_S_impl_Expr_impl_Expr hargs hw

def H_slices_ContainsFunc_S_int_int : Hint := ⟨[(0, false), (1, false), (4, false)], []⟩
def K108_1 : Pl := .st (.act none (.px (some 6) (.bin .geq (.v 5) (.c (.int .i64 0))))) <|
    .st (.act none (.px (some 2) (.mv (.v 6)))) .done
@[simp] def W108_1 := @Pl.wpe _ _ K108_1.eq_1
def K108_2 : C := .seq (.pl <| .st (.ext 3 4) <|
    .st (.act none (.px (some 3) (.mv (.v 0)))) <|
    .st (.act none (.px (some 4) (.mv (.v 1)))) <|
    .st (.act none (.ex (some 5) (.call fn_slices_IndexFunc_S_int_int [.v 3, .v 4]))) K108_1) (.ret)
@[simp] def W108_2 := @C.wpe _ _ K108_2.eq_1
def B_slices_ContainsFunc_S_int_int : C := .seq (.pl <| .st (.ext 3 0) <|
    .st (.act none (.px (some 2) (.mv (.c (.bool false))))) .done) K108_2
@[simp] def WB_slices_ContainsFunc_S_int_int := @C.wpe _ _ B_slices_ContainsFunc_S_int_int.eq_1
def R_slices_ContainsFunc_S_int_int : FIR := ⟨B_slices_ContainsFunc_S_int_int, 3, [(2, none)]⟩
theorem IR_slices_ContainsFunc_S_int_int : cfun Tryz.prog H_slices_ContainsFunc_S_int_int Tryz.f108 = some R_slices_ContainsFunc_S_int_int := by kernel_rfl
theorem EN_slices_ContainsFunc_S_int_int {args : List Value} {h : Heap} {k : Value → Heap → Prop} (hargs : args.length = 2) (hw : B_slices_ContainsFunc_S_int_int.wp Tryz.prog (retQ [(2, none)] k) (env0 args 3) h) : CallE Tryz.prog fn_slices_ContainsFunc_S_int_int args h k := enter Tryz.func108 rfl IR_slices_ContainsFunc_S_int_int hargs hw

def H_slices_Contains_S_int_int : Hint := ⟨[(0, false), (1, false), (4, false)], []⟩
def K87_1 : Pl := .st (.act none (.px (some 6) (.bin .geq (.v 5) (.c (.int .i64 0))))) <|
    .st (.act none (.px (some 2) (.mv (.v 6)))) .done
@[simp] def W87_1 := @Pl.wpe _ _ K87_1.eq_1
def K87_2 : C := .seq (.pl <| .st (.ext 3 4) <|
    .st (.act none (.px (some 3) (.mv (.v 0)))) <|
    .st (.act none (.px (some 4) (.mv (.v 1)))) <|
    .st (.act none (.ex (some 5) (.call fn_slices_Index_S_int_int [.v 3, .v 4]))) K87_1) (.ret)
@[simp] def W87_2 := @C.wpe _ _ K87_2.eq_1
def B_slices_Contains_S_int_int : C := .seq (.pl <| .st (.ext 3 0) <|
    .st (.act none (.px (some 2) (.mv (.c (.bool false))))) .done) K87_2
@[simp] def WB_slices_Contains_S_int_int := @C.wpe _ _ B_slices_Contains_S_int_int.eq_1
def R_slices_Contains_S_int_int : FIR := ⟨B_slices_Contains_S_int_int, 3, [(2, none)]⟩
theorem IR_slices_Contains_S_int_int : cfun Tryz.prog H_slices_Contains_S_int_int Tryz.f87 = some R_slices_Contains_S_int_int := by kernel_rfl
theorem EN_slices_Contains_S_int_int {args : List Value} {h : Heap} {k : Value → Heap → Prop} (hargs : args.length = 2) (hw : B_slices_Contains_S_int_int.wp Tryz.prog (retQ [(2, none)] k) (env0 args 3) h) : CallE Tryz.prog fn_slices_Contains_S_int_int args h k := enter Tryz.func87 rfl IR_slices_Contains_S_int_int hargs hw

def H_slices_EqualFunc_S_impl_Expr_S_impl_Expr_impl_Expr_impl_Expr : Hint := ⟨[(0, false), (1, false), (2, false), (6, false), (7, false), (8, true), (9, true), (15, false), (16, false), (17, false)], [[0, 3, 4, 5, 6]]⟩
def K126_1 : C := .seq (.pl <| .st (.ext 10 0) <|
    .st (.act none (.px (some 3) (.mv (.c (.bool true))))) .done) (.ret)
@[simp] def W126_1 := @C.wpe _ _ K126_1.eq_1
def K126_2 : C := .pl <| .st (.ext 10 1) <|
    .st (.act none (.px (some 10) (.bin .add (.v 9) (.c (.int .i64 1))))) <|
    .st (.act none (.px (some 9) (.mv (.v 10)))) .done
@[simp] def W126_2 := @C.wpe _ _ K126_2.eq_1
def K126_3 : C := .seq (.pl <| .st (.ext 10 0) <|
    .st (.act none (.px (some 3) (.mv (.c (.bool false))))) .done) (.ret)
@[simp] def W126_3 := @C.wpe _ _ K126_3.eq_1
def K126_4 : C := .cond 10 (.v 14) K126_3 (.skip)
@[simp] def W126_4 := @C.wpe _ _ K126_4.eq_1
def K126_5 : Pl := .st (.act none (.px (some 14) (.un .not (.v 13)))) .done
@[simp] def W126_5 := @Pl.wpe _ _ K126_5.eq_1
def K126_6 : C := .seq (.pl <| .st (.ext 10 5) <|
    .st (.act none (.px (some 10) (.mv (.v 2)))) <|
    .st (.act none (.pget (some 11) none 5 0 (some 3))) <|
    .st (.act none (.pget (some 12) none 6 0 (some 3))) <|
    .st (.act none (.ex (some 13) (.callv (.v 10) [.v 11, .v 12]))) K126_5) K126_4
@[simp] def W126_6 := @C.wpe _ _ K126_6.eq_1
def K126_7 : C := .seq (.pl <| .st (.ext 10 4) <|
    .st (.act none (.px (some 10) (.mv (.v 1)))) <|
    .st (.act none (.px (some 11) (.mv (.v 4)))) <|
    .st (.act none (.px (some 12) (.ia 3 (.v 10) (.v 11)))) <|
    .st (.act none (.ld (some 13) (.v 12) (some 3))) <|
    .st (.act none (.pnew 6 (.c (.agg #[.int .i64 0, .int .i64 0, .slice none 0 0])) [])) <|
    .st (.act none (.pset none 6 0 3 (.v 13))) .done) K126_6
@[simp] def W126_7 := @C.wpe _ _ K126_7.eq_1
def K126_8 : C := .seq (.block 1 (.seq (.pl <| .st (.ext 10 3) <|
    .st (.act none (.px (some 10) (.mv (.v 9)))) <|
    .st (.act none (.px (some 11) (.ia 3 (.v 7) (.v 9)))) <|
    .st (.act none (.ld (some 12) (.v 11) (some 3))) <|
    .st (.act none (.pnew 5 (.c (.agg #[.int .i64 0, .int .i64 0, .slice none 0 0])) [])) <|
    .st (.act none (.px (some 4) (.mv (.v 10)))) <|
    .st (.act none (.pset none 5 0 3 (.v 12))) .done) K126_7)) K126_2
@[simp] def W126_8 := @C.wpe _ _ K126_8.eq_1
def K126_9 : C := .seq (.cond 10 (.v 10) (.skip) (.exit 0)) K126_8
@[simp] def W126_9 := @C.wpe _ _ K126_9.eq_1
def K126_10 : C := .seq (.pl <| .st (.ext 10 1) <|
    .st (.act none (.px (some 10) (.bin .lss (.v 9) (.v 8)))) .done) K126_9
@[simp] def W126_10 := @C.wpe _ _ K126_10.eq_1
def K126_11 : C := .block 0 (.loop 10 [0, 3, 4, 5, 6] K126_10)
@[simp] def W126_11 := @C.wpe _ _ K126_11.eq_1
def K126_12 : C := .seq (.seq (.pl <| .st (.ext 10 0) <|
    .st (.act none (.px (some 7) (.mv (.v 0)))) <|
    .st (.act none (.px (some 8) (.lenV (.v 7)))) <|
    .st (.act none (.px (some 9) (.mv (.c (.int .i64 0))))) .done) K126_11) K126_1
@[simp] def W126_12 := @C.wpe _ _ K126_12.eq_1
def K126_13 : C := .seq (.pl <| .st (.ext 10 0) <|
    .st (.act none (.px (some 3) (.mv (.c (.bool false))))) .done) (.ret)
@[simp] def W126_13 := @C.wpe _ _ K126_13.eq_1
def K126_14 : C := .cond 10 (.v 14) K126_13 (.skip)
@[simp] def W126_14 := @C.wpe _ _ K126_14.eq_1
def K126_15 : C := .seq (.seq (.pl <| .st (.ext 10 5) <|
    .st (.act none (.px (some 10) (.mv (.v 0)))) <|
    .st (.act none (.px (some 11) (.lenV (.v 10)))) <|
    .st (.act none (.px (some 12) (.mv (.v 1)))) <|
    .st (.act none (.px (some 13) (.lenV (.v 12)))) <|
    .st (.act none (.px (some 14) (.bin .neq (.v 11) (.v 13)))) .done) K126_14) K126_12
@[simp] def W126_15 := @C.wpe _ _ K126_15.eq_1
def B_slices_EqualFunc_S_impl_Expr_S_impl_Expr_impl_Expr_impl_Expr : C := .seq (.pl <| .st (.ext 10 0) <|
    .st (.act none (.px (some 3) (.mv (.c (.bool false))))) .done) K126_15
@[simp] def WB_slices_EqualFunc_S_impl_Expr_S_impl_Expr_impl_Expr_impl_Expr := @C.wpe _ _ B_slices_EqualFunc_S_impl_Expr_S_impl_Expr_impl_Expr_impl_Expr.eq_1
def R_slices_EqualFunc_S_impl_Expr_S_impl_Expr_impl_Expr_impl_Expr : FIR := ⟨B_slices_EqualFunc_S_impl_Expr_S_impl_Expr_impl_Expr_impl_Expr, 10, [(3, none)]⟩
theorem IR_slices_EqualFunc_S_impl_Expr_S_impl_Expr_impl_Expr_impl_Expr : cfun Tryz.prog H_slices_EqualFunc_S_impl_Expr_S_impl_Expr_impl_Expr_impl_Expr Tryz.f126 = some R_slices_EqualFunc_S_impl_Expr_S_impl_Expr_impl_Expr_impl_Expr := by kernel_rfl
theorem EN_slices_EqualFunc_S_impl_Expr_S_impl_Expr_impl_Expr_impl_Expr {args : List Value} {h : Heap} {k : Value → Heap → Prop} (hargs : args.length = 3) (hw : B_slices_EqualFunc_S_impl_Expr_S_impl_Expr_impl_Expr_impl_Expr.wp Tryz.prog (retQ [(3, none)] k) (env0 args 10) h) : CallE Tryz.prog fn_slices_EqualFunc_S_impl_Expr_S_impl_Expr_impl_Expr_impl_Expr args h k := enter Tryz.func126 rfl IR_slices_EqualFunc_S_impl_Expr_S_impl_Expr_impl_Expr_impl_Expr hargs hw

def H_slices_Equal_S_int_int : Hint := ⟨[(0, false), (1, false), (4, false), (5, false), (12, false), (13, false)], [[2, 3]]⟩
def K115_1 : C := .seq (.pl <| .st (.ext 6 0) <|
    .st (.act none (.px (some 2) (.mv (.c (.bool true))))) .done) (.ret)
@[simp] def W115_1 := @C.wpe _ _ K115_1.eq_1
def K115_2 : C := .pl <| .st (.ext 6 1) <|
    .st (.act none (.px (some 6) (.bin .add (.v 5) (.c (.int .i64 1))))) <|
    .st (.act none (.px (some 5) (.mv (.v 6)))) .done
@[simp] def W115_2 := @C.wpe _ _ K115_2.eq_1
def K115_3 : C := .seq (.pl <| .st (.ext 6 0) <|
    .st (.act none (.px (some 2) (.mv (.c (.bool false))))) .done) (.ret)
@[simp] def W115_3 := @C.wpe _ _ K115_3.eq_1
def K115_4 : C := .cond 6 (.v 14) K115_3 (.skip)
@[simp] def W115_4 := @C.wpe _ _ K115_4.eq_1
def K115_5 : C := .seq (.pl <| .st (.ext 6 9) <|
    .st (.act none (.px (some 6) (.mv (.v 0)))) <|
    .st (.act none (.px (some 7) (.mv (.v 3)))) <|
    .st (.act none (.px (some 8) (.ia 1 (.v 6) (.v 7)))) <|
    .st (.act none (.ld (some 9) (.v 8) none)) <|
    .st (.act none (.px (some 10) (.mv (.v 1)))) <|
    .st (.act none (.px (some 11) (.mv (.v 3)))) <|
    .st (.act none (.px (some 12) (.ia 1 (.v 10) (.v 11)))) <|
    .st (.act none (.ld (some 13) (.v 12) none)) <|
    .st (.act none (.px (some 14) (.bin .neq (.v 9) (.v 13)))) .done) K115_4
@[simp] def W115_5 := @C.wpe _ _ K115_5.eq_1
def K115_6 : C := .seq (.block 1 (.seq (.pl <| .st (.ext 6 1) <|
    .st (.act none (.px (some 6) (.mv (.v 5)))) <|
    .st (.act none (.px (some 3) (.mv (.v 6)))) .done) K115_5)) K115_2
@[simp] def W115_6 := @C.wpe _ _ K115_6.eq_1
def K115_7 : C := .seq (.cond 6 (.v 6) (.skip) (.exit 0)) K115_6
@[simp] def W115_7 := @C.wpe _ _ K115_7.eq_1
def K115_8 : C := .seq (.pl <| .st (.ext 6 1) <|
    .st (.act none (.px (some 6) (.bin .lss (.v 5) (.v 4)))) .done) K115_7
@[simp] def W115_8 := @C.wpe _ _ K115_8.eq_1
def K115_9 : C := .block 0 (.loop 6 [2, 3] K115_8)
@[simp] def W115_9 := @C.wpe _ _ K115_9.eq_1
def K115_10 : C := .seq (.seq (.pl <| .st (.ext 6 1) <|
    .st (.act none (.px (some 6) (.mv (.v 0)))) <|
    .st (.act none (.px (some 4) (.lenV (.v 6)))) <|
    .st (.act none (.px (some 5) (.mv (.c (.int .i64 0))))) .done) K115_9) K115_1
@[simp] def W115_10 := @C.wpe _ _ K115_10.eq_1
def K115_11 : C := .seq (.pl <| .st (.ext 6 0) <|
    .st (.act none (.px (some 2) (.mv (.c (.bool false))))) .done) (.ret)
@[simp] def W115_11 := @C.wpe _ _ K115_11.eq_1
def K115_12 : C := .cond 6 (.v 10) K115_11 (.skip)
@[simp] def W115_12 := @C.wpe _ _ K115_12.eq_1
def K115_13 : C := .seq (.seq (.pl <| .st (.ext 6 5) <|
    .st (.act none (.px (some 6) (.mv (.v 0)))) <|
    .st (.act none (.px (some 7) (.lenV (.v 6)))) <|
    .st (.act none (.px (some 8) (.mv (.v 1)))) <|
    .st (.act none (.px (some 9) (.lenV (.v 8)))) <|
    .st (.act none (.px (some 10) (.bin .neq (.v 7) (.v 9)))) .done) K115_12) K115_10
@[simp] def W115_13 := @C.wpe _ _ K115_13.eq_1
def B_slices_Equal_S_int_int : C := .seq (.pl <| .st (.ext 6 0) <|
    .st (.act none (.px (some 2) (.mv (.c (.bool false))))) .done) K115_13
@[simp] def WB_slices_Equal_S_int_int := @C.wpe _ _ B_slices_Equal_S_int_int.eq_1
def R_slices_Equal_S_int_int : FIR := ⟨B_slices_Equal_S_int_int, 6, [(2, none)]⟩
theorem IR_slices_Equal_S_int_int : cfun Tryz.prog H_slices_Equal_S_int_int Tryz.f115 = some R_slices_Equal_S_int_int := by kernel_rfl
theorem EN_slices_Equal_S_int_int {args : List Value} {h : Heap} {k : Value → Heap → Prop} (hargs : args.length = 2) (hw : B_slices_Equal_S_int_int.wp Tryz.prog (retQ [(2, none)] k) (env0 args 6) h) : CallE Tryz.prog fn_slices_Equal_S_int_int args h k := enter Tryz.func115 rfl IR_slices_Equal_S_int_int hargs hw


end Go.Proofs.YthgimpheeemooaaGreat

/-
  Expressions and systems in plain Lean: when they are valid, what they are worth, which variables they name.
-/
namespace Go.Proofs.YthgimpheeemooaaGreat
open Go
set_option linter.all false
set_option linter.unusedVariables false
set_option linter.unusedSimpArgs false
set_option linter.defProp false
set_option maxRecDepth 1000000

/-- values of the variables -/
def VOk (vs : List Int) : Prop := vs.length = 3 ∧ ∀ x ∈ vs, 0 ≤ x ∧ x ≤ 3
theorem VOk.len {vs : List Int} (h : VOk vs) : vs.length = 3 := h.1
theorem VOk.at {vs : List Int} (h : VOk vs) {i : Nat} (hi : i < vs.length) : 0 ≤ vs[i] ∧ vs[i] ≤ 3 := h.2 _ (List.getElem_mem hi)
noncomputable instance {vs : List Int} : Decidable (VOk vs) := Classical.propDecidable _

namespace Exq
def arity (k : Int) : Int := if k = 1 ∨ k = 2 then 0 else if k = 3 then 1 else if 4 ≤ k ∧ k ≤ 9 then 2 else -1
def most (k : Int) : Int := if k = 1 then 3 else if k = 2 then 2 else 0
/-- one node is well made -/
structure Nd (x : Exq) : Prop where
  ar : (x.kids.length : Int) = arity x.kind
  lo : 0 ≤ x.val
  hi : x.val ≤ most x.kind
/-- well made, so many levels -/
def Shp : Nat → Exq → Prop
  | 0, _ => False
  | n + 1, x => x.Nd ∧ ∀ y ∈ x.kids, Shp n y
mutual
def nod : Exq → Nat
  | .mk _ _ l => 1 + nods l
def nods : List Exq → Nat
  | [] => 0
  | x :: l => x.nod + nods l
end
theorem nod_eq (x : Exq) : x.nod = 1 + nods x.kids := by cases x; rfl
theorem nods_take : ∀ {l : List Exq} {i : Nat} (hi : i < l.length), nods (l.take (i + 1)) = nods (l.take i) + l[i].nod
  | x :: l, 0, _ => by simp [nods]
  | x :: l, i + 1, hi => by
    have := nods_take (l := l) (i := i) (by simpa using hi)
    simp only [List.take_succ_cons, nods, List.getElem_cons_succ, this]; omega
theorem nods_le : ∀ (l : List Exq) (i : Nat), nods (l.take i) ≤ nods l
  | [], i => by simp
  | x :: l, 0 => by simp [nods]
  | x :: l, i + 1 => by
    simp only [List.take_succ_cons, nods]
    have := nods_le l i
    omega
/-- valid -/
def Ok (x : Exq) : Prop := x.Shp 6 ∧ x.nod ≤ 15
noncomputable instance {x : Exq} : Decidable x.Ok := Classical.propDecidable _
def zero : Exq := .mk 0 0 []

theorem Nd.kind {x : Exq} (h : x.Nd) : 1 ≤ x.kind ∧ x.kind ≤ 9 := by
  have := h.ar
  unfold arity at this
  split at this <;> (try split at this) <;> (try split at this) <;> omega
theorem Shp.nd {n : Nat} {x : Exq} (h : x.Shp n) : x.Nd := by
  cases n with
  | zero => exact h.elim
  | succ n => exact h.1
theorem Shp.kid {n : Nat} {x : Exq} (h : x.Shp (n + 1)) {i : Nat} (hi : i < x.kids.length) : x.kids[i].Shp n := h.2 _ (List.getElem_mem hi)
theorem Shp.bnd : ∀ {n : Nat} {x : Exq}, x.Shp n → x.nod < 2 ^ n
  | 0, _, h => h.elim
  | n + 1, x, h => by
    have h1 := h.1.ar
    have h2 : x.kids.length ≤ 2 := by
      unfold arity at h1
      split at h1 <;> (try split at h1) <;> (try split at h1) <;> omega
    have h3 : nods x.kids + x.kids.length ≤ x.kids.length * 2 ^ n := by
      have key : ∀ l : List Exq, (∀ y ∈ l, Shp n y) → nods l + l.length ≤ l.length * 2 ^ n := by
        intro l
        induction l with
        | nil => intro _; simp [nods]
        | cons y l ih =>
          intro hl
          have g1 := Shp.bnd (hl y (by simp))
          have g2 := ih fun z hz => hl z (by simp [hz])
          simp only [nods, List.length_cons, Nat.add_mul]
          omega
      exact key _ h.2
    have h4 : x.kids.length * 2 ^ n ≤ 2 * 2 ^ n := Nat.mul_le_mul_right _ h2
    have h5 : 0 < 2 ^ n := Nat.pow_pos (by decide)
    rw [nod_eq, Nat.pow_succ]
    by_cases h6 : x.kids.length = 0
    · have : x.kids = [] := List.length_eq_zero_iff.1 h6
      rw [this]; simp only [nods]; omega
    · rcases (show x.kids.length = 1 ∨ x.kids.length = 2 by omega) with h7 | h7 <;> rw [h7] at h3 h4 <;> omega

/- WHAT IT IS WORTH -/
def tr (p : Prop) [Decidable p] : Int := if p then 1 else 0
def evk (vs : List Int) (k v a b : Int) : Int :=
  if k = 1 then v else if k = 2 then vs.getD v.toNat 0 else if k = 3 then tr (a = 0) else if k = 4 then tr (a ≠ 0 ∧ b ≠ 0) else if k = 5 then tr (a ≠ 0 ∨ b ≠ 0)
  else if k = 6 then tr (a = b) else if k = 7 then tr (a < b) else if k = 8 then (a + b).tmod 4 else (a - b + 4).tmod 4
mutual
def ev (vs : List Int) : Exq → Int
  | .mk k v l => evk vs k v ((evs vs l).getD 0 0) ((evs vs l).getD 1 0)
def evs (vs : List Int) : List Exq → List Int
  | [] => []
  | x :: l => x.ev vs :: evs vs l
end
theorem evs_eq {vs : List Int} : ∀ l, evs vs l = l.map (ev vs)
  | [] => rfl
  | x :: l => by simp only [evs, List.map_cons, evs_eq l]
def kev (x : Exq) (vs : List Int) (j : Nat) : Int := (x.kids.map (ev vs)).getD j 0
theorem ev_eq {vs : List Int} (x : Exq) : x.ev vs = evk vs x.kind x.val (x.kev vs 0) (x.kev vs 1) := by
  cases x with
  | mk k v l => simp only [ev, evs_eq]; rfl
theorem kev_at {vs : List Int} {x : Exq} {j : Nat} (hj : j < x.kids.length) : x.kev vs j = x.kids[j].ev vs := by
  simp [kev, hj]
theorem tr01 {p : Prop} [Decidable p] : 0 ≤ tr p ∧ tr p ≤ 1 := by unfold tr; split <;> omega
theorem ev_bnd {vs : List Int} (hv : VOk vs) : ∀ {n : Nat} {x : Exq}, x.Shp n → 0 ≤ x.ev vs ∧ x.ev vs ≤ 3
  | 0, _, h => h.elim
  | n + 1, x, h => by
    have hn := h.1
    rw [ev_eq]
    unfold evk
    have h1 := hn.lo
    have h2 := hn.hi
    have h3 := hn.ar
    have hk := hn.kind
    split
    · rename_i h4; rw [h4] at h2; simp [most] at h2; omega
    split
    · rename_i _ h4
      rw [h4] at h2; simp [most] at h2
      have h5 : x.val.toNat < vs.length := by rw [hv.len]; omega
      rw [List.getD_eq_getElem?_getD, List.getElem?_eq_getElem h5]
      exact hv.at h5
    split
    · have := tr01 (p := x.kev vs 0 = 0); omega
    have ha : (x.kids.length : Int) = 2 := by
      rw [h3]; unfold arity; rw [if_neg (by omega), if_neg (by assumption), if_pos (by omega)]
    have hl : x.kids.length = 2 := by omega
    have g0 := ev_bnd hv (h.kid (i := 0) (by omega))
    have g1 := ev_bnd hv (h.kid (i := 1) (by omega))
    rw [kev_at (by omega), kev_at (by omega)]
    split
    · have := tr01 (p := x.kids[0].ev vs ≠ 0 ∧ x.kids[1].ev vs ≠ 0); omega
    split
    · have := tr01 (p := x.kids[0].ev vs ≠ 0 ∨ x.kids[1].ev vs ≠ 0); omega
    split
    · have := tr01 (p := x.kids[0].ev vs = x.kids[1].ev vs); omega
    split
    · have := tr01 (p := x.kids[0].ev vs < x.kids[1].ev vs); omega
    split
    · rw [Int.tmod_eq_emod_of_nonneg (by omega)]; omega
    · rw [Int.tmod_eq_emod_of_nonneg (by omega)]; omega

/- WHICH VARIABLES IT NAMES -/
mutual
def mkv : Exq → List Bool → List Bool
  | .mk k v l, M => mkvs l (if k = 2 then M.set v.toNat true else M)
def mkvs : List Exq → List Bool → List Bool
  | [], M => M
  | x :: l, M => mkvs l (x.mkv M)
end
end Exq

/- SYSTEMS -/
structure Ed.Ok (e : Ed) (n : Int) : Prop where
  n1 : 1 ≤ n
  n4 : n ≤ 4
  f0 : 0 ≤ e.frm
  f1 : e.frm < n
  t0 : 0 ≤ e.to
  t1 : e.to < n
  gd : e.guard.Ok
  v0 : -1 ≤ e.var
  v1 : e.var ≤ 2
  vl : (0 ≤ e.var ∧ e.value.Ok) ∨ (e.var < 0 ∧ e.value = Exq.zero)
  s0 : -2 ≤ e.sync
  s1 : e.sync ≤ 2
noncomputable instance {e : Ed} {n : Int} : Decidable (e.Ok n) := Classical.propDecidable _
structure Pr.Ok (p : Pr) : Prop where
  n1 : 1 ≤ p.locs
  n4 : p.locs ≤ 4
  el : p.edges.length ≤ 6
  ed : ∀ e ∈ p.edges, e.Ok p.locs
noncomputable instance {p : Pr} : Decidable p.Ok := Classical.propDecidable _
structure Sy.Ok (s : Sy) : Prop where
  vs : VOk s.init
  p1 : 1 ≤ s.procs.length
  p3 : s.procs.length ≤ 3
  pr : ∀ p ∈ s.procs, p.Ok
noncomputable instance {s : Sy} : Decidable s.Ok := Classical.propDecidable _
theorem Sy.Ok.at {s : Sy} (h : s.Ok) {i : Nat} (hi : i < s.procs.length) : s.procs[i].Ok := h.pr _ (List.getElem_mem hi)
theorem Pr.Ok.at {p : Pr} (h : p.Ok) {i : Nat} (hi : i < p.edges.length) : p.edges[i].Ok p.locs := h.ed _ (List.getElem_mem hi)
/-- labels -/
structure LOk (l : List Exq) : Prop where
  len : l.length = 3
  ok : ∀ x ∈ l, x.Ok
noncomputable instance {l : List Exq} : Decidable (LOk l) := Classical.propDecidable _

/- WHICH VARIABLES MATTER -/
def relL (labels : List Exq) (M : List Bool) : List Bool := labels.foldl (fun M x => x.mkv M) M
def relG (s : Sy) (M : List Bool) : List Bool := s.procs.foldl (fun M p => p.edges.foldl (fun M e => e.guard.mkv M) M) M
def Ed.relv (M : List Bool) (e : Ed) : List Bool := if 0 ≤ e.var ∧ M.getD e.var.toNat false = true then e.value.mkv M else M
def relV (s : Sy) (M : List Bool) : List Bool := s.procs.foldl (fun M p => p.edges.foldl Ed.relv M) M
def Sy.rel (s : Sy) (labels : List Exq) : List Bool := relV s (relV s (relV s (relG s (relL labels [false, false, false]))))
end Go.Proofs.YthgimpheeemooaaGreat

/-
  Bodies of functions in the small language, as a program printed them, and that each is what the translation gives.
-/
namespace Go.Proofs.YthgimpheeemooaaGreat
open Go
set_option linter.all false
set_option linter.defProp false
set_option maxRecDepth 1000000

end Go.Proofs.YthgimpheeemooaaGreat
