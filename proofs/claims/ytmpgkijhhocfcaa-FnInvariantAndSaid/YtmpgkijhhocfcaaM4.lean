/-
  Texts of this proof, one behind the other.
-/
import Derived.Test.YtmpgkijhhocfcaaM3
/-
  Bodies of functions in the small language, as a program printed them, and that each is what the translation gives.
-/
namespace Go.Proofs.Ytmpgkijhhocfcaa
open Go
set_option linter.all false
set_option linter.defProp false
set_option maxRecDepth 1000000

def H_impl_EdgeValid : Hint := ⟨[(0, false), (1, false), (2, true), (4, false)], []⟩
def K65_1 : Pl := .st (.act none (.px (some 55) (.pick (.v 51) (.v 54) (.c (.bool false))))) <|
    .st (.act none (.px (some 3) (.mv (.v 55)))) .done
@[simp] def W65_1 := @Pl.wpe _ _ K65_1.eq_1
def K65_2 : Pl := .st (.act (some (.v 39, false)) (.px (some 48) (.pick (.v 43) (.v 47) (.c (.bool false))))) <|
    .st (.act (some (.v 30, true)) (.px (some 49) (.pick (.v 39) (.c (.bool true)) (.v 48)))) <|
    .st (.act none (.px (some 50) (.pick (.v 30) (.v 49) (.c (.bool false))))) <|
    .st (.act none (.px (some 51) (.mv (.v 50)))) <|
    .st (.act (some (.v 51, true)) (.als 52 none 2)) <|
    .st (.act (some (.v 51, true)) (.pget (some 53) (some 52) 2 9 none)) <|
    .st (.act (some (.v 51, true)) (.ex (some 54) (.call fn_impl_in [.v 53, .c (.int .i64 (-2)), .c (.int .i64 2)]))) K65_1
@[simp] def W65_2 := @Pl.wpe _ _ K65_2.eq_1
def K65_3 : Pl := .st (.act (some (.v 30, true)) (.px (some 38) (.pick (.v 34) (.v 37) (.c (.bool false))))) <|
    .st (.act (some (.v 30, true)) (.px (some 39) (.mv (.v 38)))) <|
    .st (.act (some (.v 39, false)) (.als 40 none 2)) <|
    .st (.act (some (.v 39, false)) (.pget (some 41) (some 40) 2 5 none)) <|
    .st (.act (some (.v 39, false)) (.px (some 42) (.bin .lss (.v 41) (.c (.int .i64 0))))) <|
    .st (.act (some (.v 39, false)) (.px (some 43) (.mv (.v 42)))) <|
    .st (.act (some (.v 43, true)) (.als 44 none 2)) <|
    .st (.act (some (.v 43, true)) (.pget (some 45) (some 44) 2 6 (some 3))) <|
    .st (.act (some (.v 43, true)) (.px (some 46) (.build [.int .i64 0, .int .i64 0, .slice none 0 0] []))) <|
    .st (.act (some (.v 43, true)) (.ex (some 47) (.call fn_impl_ExprSame [.v 45, .v 46]))) K65_2
@[simp] def W65_3 := @Pl.wpe _ _ K65_3.eq_1
def K65_4 : Pl := .st (.act none (.px (some 29) (.pick (.v 25) (.v 28) (.c (.bool false))))) <|
    .st (.act none (.px (some 30) (.mv (.v 29)))) <|
    .st (.act (some (.v 30, true)) (.als 31 none 2)) <|
    .st (.act (some (.v 30, true)) (.pget (some 32) (some 31) 2 5 none)) <|
    .st (.act (some (.v 30, true)) (.px (some 33) (.bin .geq (.v 32) (.c (.int .i64 0))))) <|
    .st (.act (some (.v 30, true)) (.px (some 34) (.mv (.v 33)))) <|
    .st (.act (some (.v 34, true)) (.als 35 none 2)) <|
    .st (.act (some (.v 34, true)) (.pget (some 36) (some 35) 2 6 (some 3))) <|
    .st (.act (some (.v 34, true)) (.ex (some 37) (.call fn_impl_ExprValid [.v 36]))) K65_3
@[simp] def W65_4 := @Pl.wpe _ _ K65_4.eq_1
def K65_5 : Pl := .st (.act none (.px (some 24) (.pick (.v 20) (.v 23) (.c (.bool false))))) <|
    .st (.act none (.px (some 25) (.mv (.v 24)))) <|
    .st (.act (some (.v 25, true)) (.als 26 none 2)) <|
    .st (.act (some (.v 25, true)) (.pget (some 27) (some 26) 2 5 none)) <|
    .st (.act (some (.v 25, true)) (.ex (some 28) (.call fn_impl_in [.v 27, .c (.int .i64 (-1)), .c (.int .i64 2)]))) K65_4
@[simp] def W65_5 := @Pl.wpe _ _ K65_5.eq_1
def K65_6 : Pl := .st (.act none (.px (some 19) (.pick (.v 13) (.v 18) (.c (.bool false))))) <|
    .st (.act none (.px (some 20) (.mv (.v 19)))) <|
    .st (.act (some (.v 20, true)) (.als 21 none 2)) <|
    .st (.act (some (.v 20, true)) (.pget (some 22) (some 21) 2 2 (some 3))) <|
    .st (.act (some (.v 20, true)) (.ex (some 23) (.call fn_impl_ExprValid [.v 22]))) K65_5
@[simp] def W65_6 := @Pl.wpe _ _ K65_6.eq_1
def K65_7 : Pl := .st (.act none (.px (some 12) (.pick (.v 6) (.v 11) (.c (.bool false))))) <|
    .st (.act none (.px (some 13) (.mv (.v 12)))) <|
    .st (.act (some (.v 13, true)) (.als 14 none 2)) <|
    .st (.act (some (.v 13, true)) (.pget (some 15) (some 14) 2 1 none)) <|
    .st (.act (some (.v 13, true)) (.px (some 16) (.mv (.v 1)))) <|
    .st (.act (some (.v 13, true)) (.px (some 17) (.bin .sub (.v 16) (.c (.int .i64 1))))) <|
    .st (.act (some (.v 13, true)) (.ex (some 18) (.call fn_impl_in [.v 15, .c (.int .i64 0), .v 17]))) K65_6
@[simp] def W65_7 := @Pl.wpe _ _ K65_7.eq_1
def K65_8 : Pl := .st (.act none (.px (some 6) (.mv (.v 5)))) <|
    .st (.act (some (.v 6, true)) (.als 7 none 2)) <|
    .st (.act (some (.v 6, true)) (.pget (some 8) (some 7) 2 0 none)) <|
    .st (.act (some (.v 6, true)) (.px (some 9) (.mv (.v 1)))) <|
    .st (.act (some (.v 6, true)) (.px (some 10) (.bin .sub (.v 9) (.c (.int .i64 1))))) <|
    .st (.act (some (.v 6, true)) (.ex (some 11) (.call fn_impl_in [.v 8, .c (.int .i64 0), .v 10]))) K65_7
@[simp] def W65_8 := @Pl.wpe _ _ K65_8.eq_1
def K65_9 : C := .seq (.pl <| .st (.ext 4 52) <|
    .st (.act none (.px (some 4) (.mv (.v 1)))) <|
    .st (.act none (.ex (some 5) (.call fn_impl_in [.v 4, .c (.int .i64 1), .c (.int .i64 4)]))) K65_8) (.ret)
@[simp] def W65_9 := @C.wpe _ _ K65_9.eq_1
def B_impl_EdgeValid : C := .seq (.pl <| .st (.ext 4 0) <|
    .st (.act none (.pnew 2 (.v 0) [])) <|
    .st (.act none (.px (some 3) (.mv (.c (.bool false))))) .done) K65_9
@[simp] def WB_impl_EdgeValid := @C.wpe _ _ B_impl_EdgeValid.eq_1
def R_impl_EdgeValid : FIR := ⟨B_impl_EdgeValid, 4, [(3, none)]⟩
theorem IR_impl_EdgeValid : cfun Try.prog H_impl_EdgeValid Try.f65 = some R_impl_EdgeValid := by kernel_rfl
theorem EN_impl_EdgeValid {args : List Value} {h : Heap} {k : Value → Heap → Prop} (hargs : args.length = 2) (hw : B_impl_EdgeValid.wp Try.prog (retQ [(3, none)] k) (env0 args 4) h) : CallE Try.prog fn_impl_EdgeValid args h k := enter Try.func65 rfl IR_impl_EdgeValid hargs hw

def H_impl_ExprNodes : Hint := ⟨[(0, false), (1, true), (2, false), (3, false)], []⟩
def K44_1 : C := .seq (.pl <| .st (.ext 4 1) <|
    .st (.act none (.ld (some 4) (.v 3) none)) <|
    .st (.act none (.px (some 2) (.mv (.v 4)))) .done) (.ret)
@[simp] def W44_1 := @C.wpe _ _ K44_1.eq_1
def K44_2 : C := .seq (.pl <| .st (.ext 4 0) <|
    .st (.act none (.px (some 2) (.mv (.c (.int .i64 0))))) .done) (.ret)
@[simp] def W44_2 := @C.wpe _ _ K44_2.eq_1
def K44_3 : C := .cond 4 (.v 6) K44_2 (.skip)
@[simp] def W44_3 := @C.wpe _ _ K44_3.eq_1
def K44_4 : Pl := .st (.act none (.px (some 6) (.un .not (.v 5)))) .done
@[simp] def W44_4 := @Pl.wpe _ _ K44_4.eq_1
def K44_5 : C := .seq (.seq (.pl <| .st (.ext 4 3) <|
    .st (.act none (.pget (some 4) none 1 0 (some 3))) <|
    .st (.act none (.ex (some 5) (.call fn_impl_Expr_walk [.v 4, .c (.int .i64 1), .v 3]))) K44_4) K44_3) K44_1
@[simp] def W44_5 := @C.wpe _ _ K44_5.eq_1
def K44_6 : Pl := .st (.act none (.ex none (.store 1 (.v 3) (.c (.int .i64 0))))) .done
@[simp] def W44_6 := @Pl.wpe _ _ K44_6.eq_1
def K44_7 : C := .seq (.pl <| .st (.ext 4 0) <|
    .st (.act none (.ex (some 3) (.alloc (.c (.int .i64 0))))) K44_6) K44_5
@[simp] def W44_7 := @C.wpe _ _ K44_7.eq_1
def B_impl_ExprNodes : C := .seq (.pl <| .st (.ext 4 0) <|
    .st (.act none (.pnew 1 (.v 0) [])) <|
    .st (.act none (.px (some 2) (.mv (.c (.int .i64 0))))) .done) K44_7
@[simp] def WB_impl_ExprNodes := @C.wpe _ _ B_impl_ExprNodes.eq_1
def R_impl_ExprNodes : FIR := ⟨B_impl_ExprNodes, 4, [(2, none)]⟩
theorem IR_impl_ExprNodes : cfun Try.prog H_impl_ExprNodes Try.f44 = some R_impl_ExprNodes := by kernel_rfl
theorem EN_impl_ExprNodes {args : List Value} {h : Heap} {k : Value → Heap → Prop} (hargs : args.length = 1) (hw : B_impl_ExprNodes.wp Try.prog (retQ [(2, none)] k) (env0 args 4) h) : CallE Try.prog fn_impl_ExprNodes args h k := enter Try.func44 rfl IR_impl_ExprNodes hargs hw

def H_impl_ExprSame : Hint := ⟨[(0, false), (1, false), (2, true), (3, true), (4, false)], []⟩
def K86_1 : Pl := .st (.act none (.px (some 23) (.pick (.v 17) (.v 22) (.c (.bool false))))) <|
    .st (.act none (.px (some 4) (.mv (.v 23)))) .done
@[simp] def W86_1 := @Pl.wpe _ _ K86_1.eq_1
def K86_2 : C := .seq (.pl <| .st (.ext 5 19) <|
    .st (.act none (.als 5 none 2)) <|
    .st (.act none (.pget (some 6) (some 5) 2 0 none)) <|
    .st (.act none (.als 7 none 3)) <|
    .st (.act none (.pget (some 8) (some 7) 3 0 none)) <|
    .st (.act none (.px (some 9) (.bin .eql (.v 6) (.v 8)))) <|
    .st (.act none (.px (some 10) (.mv (.v 9)))) <|
    .st (.act (some (.v 10, true)) (.als 11 none 2)) <|
    .st (.act (some (.v 10, true)) (.pget (some 12) (some 11) 2 1 none)) <|
    .st (.act (some (.v 10, true)) (.als 13 none 3)) <|
    .st (.act (some (.v 10, true)) (.pget (some 14) (some 13) 3 1 none)) <|
    .st (.act (some (.v 10, true)) (.px (some 15) (.bin .eql (.v 12) (.v 14)))) <|
    .st (.act none (.px (some 16) (.pick (.v 10) (.v 15) (.c (.bool false))))) <|
    .st (.act none (.px (some 17) (.mv (.v 16)))) <|
    .st (.act (some (.v 17, true)) (.als 18 none 2)) <|
    .st (.act (some (.v 17, true)) (.pget (some 19) (some 18) 2 2 none)) <|
    .st (.act (some (.v 17, true)) (.als 20 none 3)) <|
    .st (.act (some (.v 17, true)) (.pget (some 21) (some 20) 3 2 none)) <|
    .st (.act (some (.v 17, true)) (.ex (some 22) (.call fn_slices_EqualFunc_S_impl_Expr_S_impl_Expr_impl_Expr_impl_Expr [.v 19, .v 21, .c (.func (.func 86) #[] #[])]))) K86_1) (.ret)
@[simp] def W86_2 := @C.wpe _ _ K86_2.eq_1
def B_impl_ExprSame : C := .seq (.pl <| .st (.ext 5 0) <|
    .st (.act none (.pnew 2 (.v 0) [])) <|
    .st (.act none (.pnew 3 (.v 1) [])) <|
    .st (.act none (.px (some 4) (.mv (.c (.bool false))))) .done) K86_2
@[simp] def WB_impl_ExprSame := @C.wpe _ _ B_impl_ExprSame.eq_1
def R_impl_ExprSame : FIR := ⟨B_impl_ExprSame, 5, [(4, none)]⟩
theorem IR_impl_ExprSame : cfun Try.prog H_impl_ExprSame Try.f86 = some R_impl_ExprSame := by kernel_rfl
theorem EN_impl_ExprSame {args : List Value} {h : Heap} {k : Value → Heap → Prop} (hargs : args.length = 2) (hw : B_impl_ExprSame.wp Try.prog (retQ [(4, none)] k) (env0 args 5) h) : CallE Try.prog fn_impl_ExprSame args h k := enter Try.func86 rfl IR_impl_ExprSame hargs hw

def H_impl_ExprValid : Hint := ⟨[(0, false), (1, true), (2, false)], []⟩
def K22_1 : Pl := .st (.act none (.px (some 5) (.bin .gtr (.v 4) (.c (.int .i64 0))))) <|
    .st (.act none (.px (some 2) (.mv (.v 5)))) .done
@[simp] def W22_1 := @Pl.wpe _ _ K22_1.eq_1
def K22_2 : C := .seq (.pl <| .st (.ext 3 3) <|
    .st (.act none (.pget (some 3) none 1 0 (some 3))) <|
    .st (.act none (.ex (some 4) (.call fn_impl_ExprNodes [.v 3]))) K22_1) (.ret)
@[simp] def W22_2 := @C.wpe _ _ K22_2.eq_1
def B_impl_ExprValid : C := .seq (.pl <| .st (.ext 3 0) <|
    .st (.act none (.pnew 1 (.v 0) [])) <|
    .st (.act none (.px (some 2) (.mv (.c (.bool false))))) .done) K22_2
@[simp] def WB_impl_ExprValid := @C.wpe _ _ B_impl_ExprValid.eq_1
def R_impl_ExprValid : FIR := ⟨B_impl_ExprValid, 3, [(2, none)]⟩
theorem IR_impl_ExprValid : cfun Try.prog H_impl_ExprValid Try.f22 = some R_impl_ExprValid := by kernel_rfl
theorem EN_impl_ExprValid {args : List Value} {h : Heap} {k : Value → Heap → Prop} (hargs : args.length = 1) (hw : B_impl_ExprValid.wp Try.prog (retQ [(2, none)] k) (env0 args 3) h) : CallE Try.prog fn_impl_ExprValid args h k := enter Try.func22 rfl IR_impl_ExprValid hargs hw

def H_impl_Expr_eval : Hint := ⟨[(0, false), (1, false), (2, true), (4, false), (5, false), (6, false), (8, false), (39, false)], []⟩
def K24_1 : C := .seq (.pl <| .st (.ext 8 6) <|
    .st (.act none (.px (some 8) (.mv (.v 4)))) <|
    .st (.act none (.px (some 9) (.mv (.v 5)))) <|
    .st (.act none (.px (some 10) (.bin .sub (.v 8) (.v 9)))) <|
    .st (.act none (.px (some 11) (.bin .add (.v 10) (.c (.int .i64 3))))) <|
    .st (.act none (.px (some 12) (.bin .add (.v 11) (.c (.int .i64 1))))) <|
    .st (.act none (.px (some 13) (.bin .rem (.v 12) (.c (.int .i64 4))))) <|
    .st (.act none (.px (some 3) (.mv (.v 13)))) .done) (.ret)
@[simp] def W24_1 := @C.wpe _ _ K24_1.eq_1
def K24_2 : Pl := .st (.act none (.px (some 3) (.mv (.v 14)))) .done
@[simp] def W24_2 := @Pl.wpe _ _ K24_2.eq_1
def K24_3 : C := .seq (.pl <| .st (.ext 8 7) <|
    .st (.act none (.px (some 8) (.mv (.v 4)))) <|
    .st (.act none (.px (some 9) (.bin .neq (.v 8) (.c (.int .i64 0))))) <|
    .st (.act none (.px (some 10) (.mv (.v 9)))) <|
    .st (.act (some (.v 10, true)) (.px (some 11) (.mv (.v 5)))) <|
    .st (.act (some (.v 10, true)) (.px (some 12) (.bin .neq (.v 11) (.c (.int .i64 0))))) <|
    .st (.act none (.px (some 13) (.pick (.v 10) (.v 12) (.c (.bool false))))) <|
    .st (.act none (.ex (some 14) (.call fn_impl_truth [.v 13]))) K24_2) (.ret)
@[simp] def W24_3 := @C.wpe _ _ K24_3.eq_1
def K24_4 : Pl := .st (.act none (.px (some 3) (.mv (.v 14)))) .done
@[simp] def W24_4 := @Pl.wpe _ _ K24_4.eq_1
def K24_5 : C := .seq (.pl <| .st (.ext 8 7) <|
    .st (.act none (.px (some 8) (.mv (.v 4)))) <|
    .st (.act none (.px (some 9) (.bin .neq (.v 8) (.c (.int .i64 0))))) <|
    .st (.act none (.px (some 10) (.mv (.v 9)))) <|
    .st (.act (some (.v 10, false)) (.px (some 11) (.mv (.v 5)))) <|
    .st (.act (some (.v 10, false)) (.px (some 12) (.bin .neq (.v 11) (.c (.int .i64 0))))) <|
    .st (.act none (.px (some 13) (.pick (.v 10) (.c (.bool true)) (.v 12)))) <|
    .st (.act none (.ex (some 14) (.call fn_impl_truth [.v 13]))) K24_4) (.ret)
@[simp] def W24_5 := @C.wpe _ _ K24_5.eq_1
def K24_6 : Pl := .st (.act none (.px (some 3) (.mv (.v 11)))) .done
@[simp] def W24_6 := @Pl.wpe _ _ K24_6.eq_1
def K24_7 : C := .seq (.pl <| .st (.ext 8 4) <|
    .st (.act none (.px (some 8) (.mv (.v 4)))) <|
    .st (.act none (.px (some 9) (.mv (.v 5)))) <|
    .st (.act none (.px (some 10) (.bin .eql (.v 8) (.v 9)))) <|
    .st (.act none (.ex (some 11) (.call fn_impl_truth [.v 10]))) K24_6) (.ret)
@[simp] def W24_7 := @C.wpe _ _ K24_7.eq_1
def K24_8 : Pl := .st (.act none (.px (some 3) (.mv (.v 11)))) .done
@[simp] def W24_8 := @Pl.wpe _ _ K24_8.eq_1
def K24_9 : C := .seq (.pl <| .st (.ext 8 4) <|
    .st (.act none (.px (some 8) (.mv (.v 4)))) <|
    .st (.act none (.px (some 9) (.mv (.v 5)))) <|
    .st (.act none (.px (some 10) (.bin .lss (.v 8) (.v 9)))) <|
    .st (.act none (.ex (some 11) (.call fn_impl_truth [.v 10]))) K24_8) (.ret)
@[simp] def W24_9 := @C.wpe _ _ K24_9.eq_1
def K24_10 : C := .seq (.pl <| .st (.ext 8 4) <|
    .st (.act none (.px (some 8) (.mv (.v 4)))) <|
    .st (.act none (.px (some 9) (.mv (.v 5)))) <|
    .st (.act none (.px (some 10) (.bin .add (.v 8) (.v 9)))) <|
    .st (.act none (.px (some 11) (.bin .rem (.v 10) (.c (.int .i64 4))))) <|
    .st (.act none (.px (some 3) (.mv (.v 11)))) .done) (.ret)
@[simp] def W24_10 := @C.wpe _ _ K24_10.eq_1
def K24_11 : C := .cond 8 (.v 9) K24_10 (.skip)
@[simp] def W24_11 := @C.wpe _ _ K24_11.eq_1
def K24_12 : C := .seq (.pl <| .st (.ext 8 2) <|
    .st (.act none (.px (some 8) (.bin .eql (.v 7) (.c (.int .i64 8))))) <|
    .st (.act none (.px (some 9) (.mv (.v 8)))) .done) K24_11
@[simp] def W24_12 := @C.wpe _ _ K24_12.eq_1
def K24_13 : C := .cond 8 (.v 9) K24_9 K24_12
@[simp] def W24_13 := @C.wpe _ _ K24_13.eq_1
def K24_14 : C := .seq (.pl <| .st (.ext 8 2) <|
    .st (.act none (.px (some 8) (.bin .eql (.v 7) (.c (.int .i64 7))))) <|
    .st (.act none (.px (some 9) (.mv (.v 8)))) .done) K24_13
@[simp] def W24_14 := @C.wpe _ _ K24_14.eq_1
def K24_15 : C := .cond 8 (.v 9) K24_7 K24_14
@[simp] def W24_15 := @C.wpe _ _ K24_15.eq_1
def K24_16 : C := .seq (.pl <| .st (.ext 8 2) <|
    .st (.act none (.px (some 8) (.bin .eql (.v 7) (.c (.int .i64 6))))) <|
    .st (.act none (.px (some 9) (.mv (.v 8)))) .done) K24_15
@[simp] def W24_16 := @C.wpe _ _ K24_16.eq_1
def K24_17 : C := .cond 8 (.v 9) K24_5 K24_16
@[simp] def W24_17 := @C.wpe _ _ K24_17.eq_1
def K24_18 : C := .seq (.pl <| .st (.ext 8 2) <|
    .st (.act none (.px (some 8) (.bin .eql (.v 7) (.c (.int .i64 5))))) <|
    .st (.act none (.px (some 9) (.mv (.v 8)))) .done) K24_17
@[simp] def W24_18 := @C.wpe _ _ K24_18.eq_1
def K24_19 : C := .cond 8 (.v 9) K24_3 K24_18
@[simp] def W24_19 := @C.wpe _ _ K24_19.eq_1
def K24_20 : C := .block 1 (.seq (.pl <| .st (.ext 8 2) <|
    .st (.act none (.px (some 8) (.bin .eql (.v 7) (.c (.int .i64 4))))) <|
    .st (.act none (.px (some 9) (.mv (.v 8)))) .done) K24_19)
@[simp] def W24_20 := @C.wpe _ _ K24_20.eq_1
def K24_21 : C := .seq (.seq (.pl <| .st (.ext 8 1) <|
    .st (.act none (.als 8 none 2)) <|
    .st (.act none (.pget (some 7) (some 8) 2 0 none)) .done) K24_20) K24_1
@[simp] def W24_21 := @C.wpe _ _ K24_21.eq_1
def K24_22 : Pl := .st (.act none (.px (some 5) (.mv (.v 13)))) .done
@[simp] def W24_22 := @Pl.wpe _ _ K24_22.eq_1
def K24_23 : C := .seq (.pl <| .st (.ext 8 6) <|
    .st (.act none (.als 8 none 2)) <|
    .st (.act none (.pget (some 9) (some 8) 2 2 none)) <|
    .st (.act none (.px (some 10) (.ia 3 (.v 9) (.c (.int .i64 1))))) <|
    .st (.act none (.ld (some 11) (.v 10) (some 3))) <|
    .st (.act none (.px (some 12) (.mv (.v 1)))) <|
    .st (.act none (.ex (some 13) (.call fn_impl_Expr_eval [.v 11, .v 12]))) K24_22) K24_21
@[simp] def W24_23 := @C.wpe _ _ K24_23.eq_1
def K24_24 : Pl := .st (.act none (.px (some 3) (.mv (.v 10)))) .done
@[simp] def W24_24 := @Pl.wpe _ _ K24_24.eq_1
def K24_25 : C := .seq (.pl <| .st (.ext 8 3) <|
    .st (.act none (.px (some 8) (.mv (.v 4)))) <|
    .st (.act none (.px (some 9) (.bin .eql (.v 8) (.c (.int .i64 0))))) <|
    .st (.act none (.ex (some 10) (.call fn_impl_truth [.v 9]))) K24_24) (.ret)
@[simp] def W24_25 := @C.wpe _ _ K24_25.eq_1
def K24_26 : C := .cond 8 (.v 10) K24_25 (.skip)
@[simp] def W24_26 := @C.wpe _ _ K24_26.eq_1
def K24_27 : C := .seq (.seq (.pl <| .st (.ext 8 3) <|
    .st (.act none (.als 8 none 2)) <|
    .st (.act none (.pget (some 9) (some 8) 2 0 none)) <|
    .st (.act none (.px (some 10) (.bin .eql (.v 9) (.c (.int .i64 3))))) .done) K24_26) K24_23
@[simp] def W24_27 := @C.wpe _ _ K24_27.eq_1
def K24_28 : Pl := .st (.act none (.px (some 4) (.mv (.v 13)))) .done
@[simp] def W24_28 := @Pl.wpe _ _ K24_28.eq_1
def K24_29 : C := .seq (.pl <| .st (.ext 8 6) <|
    .st (.act none (.als 8 none 2)) <|
    .st (.act none (.pget (some 9) (some 8) 2 2 none)) <|
    .st (.act none (.px (some 10) (.ia 3 (.v 9) (.c (.int .i64 0))))) <|
    .st (.act none (.ld (some 11) (.v 10) (some 3))) <|
    .st (.act none (.px (some 12) (.mv (.v 1)))) <|
    .st (.act none (.ex (some 13) (.call fn_impl_Expr_eval [.v 11, .v 12]))) K24_28) K24_27
@[simp] def W24_29 := @C.wpe _ _ K24_29.eq_1
def K24_30 : C := .seq (.pl <| .st (.ext 8 2) <|
    .st (.act none (.als 8 none 2)) <|
    .st (.act none (.pget (some 9) (some 8) 2 1 none)) <|
    .st (.act none (.px (some 3) (.mv (.v 9)))) .done) (.ret)
@[simp] def W24_30 := @C.wpe _ _ K24_30.eq_1
def K24_31 : C := .seq (.pl <| .st (.ext 8 5) <|
    .st (.act none (.px (some 8) (.mv (.v 1)))) <|
    .st (.act none (.als 9 none 2)) <|
    .st (.act none (.pget (some 10) (some 9) 2 1 none)) <|
    .st (.act none (.px (some 11) (.ia 1 (.v 8) (.v 10)))) <|
    .st (.act none (.ld (some 12) (.v 11) none)) <|
    .st (.act none (.px (some 3) (.mv (.v 12)))) .done) (.ret)
@[simp] def W24_31 := @C.wpe _ _ K24_31.eq_1
def K24_32 : C := .cond 8 (.v 9) K24_31 (.skip)
@[simp] def W24_32 := @C.wpe _ _ K24_32.eq_1
def K24_33 : C := .seq (.pl <| .st (.ext 8 2) <|
    .st (.act none (.px (some 8) (.bin .eql (.v 6) (.c (.int .i64 2))))) <|
    .st (.act none (.px (some 9) (.mv (.v 8)))) .done) K24_32
@[simp] def W24_33 := @C.wpe _ _ K24_33.eq_1
def K24_34 : C := .cond 8 (.v 9) K24_30 K24_33
@[simp] def W24_34 := @C.wpe _ _ K24_34.eq_1
def K24_35 : C := .block 0 (.seq (.pl <| .st (.ext 8 2) <|
    .st (.act none (.px (some 8) (.bin .eql (.v 6) (.c (.int .i64 1))))) <|
    .st (.act none (.px (some 9) (.mv (.v 8)))) .done) K24_34)
@[simp] def W24_35 := @C.wpe _ _ K24_35.eq_1
def K24_36 : C := .seq (.seq (.pl <| .st (.ext 8 1) <|
    .st (.act none (.als 8 none 2)) <|
    .st (.act none (.pget (some 6) (some 8) 2 0 none)) .done) K24_35) K24_29
@[simp] def W24_36 := @C.wpe _ _ K24_36.eq_1
def B_impl_Expr_eval : C := .seq (.pl <| .st (.ext 8 0) <|
    .st (.act none (.pnew 2 (.v 0) [])) <|
    .st (.act none (.px (some 3) (.mv (.c (.int .i64 0))))) .done) K24_36
@[simp] def WB_impl_Expr_eval := @C.wpe _ _ B_impl_Expr_eval.eq_1
def R_impl_Expr_eval : FIR := ⟨B_impl_Expr_eval, 8, [(3, none)]⟩
theorem IR_impl_Expr_eval : cfun Try.prog H_impl_Expr_eval Try.f24 = some R_impl_Expr_eval := by kernel_rfl
theorem EN_impl_Expr_eval {args : List Value} {h : Heap} {k : Value → Heap → Prop} (hargs : args.length = 2) (hw : B_impl_Expr_eval.wp Try.prog (retQ [(3, none)] k) (env0 args 8) h) : CallE Try.prog fn_impl_Expr_eval args h k := enter Try.func24 rfl IR_impl_Expr_eval hargs hw

def H_impl_Expr_walk : Hint := ⟨[(0, false), (1, false), (2, false), (3, true), (4, false), (5, false), (6, false), (7, false), (8, false), (15, false)], []⟩
def K79_1 : Pl := .st (.act none (.px (some 14) (.un .not (.v 13)))) <|
    .st (.act none (.px (some 6) (.mv (.v 14)))) .done
@[simp] def W79_1 := @Pl.wpe _ _ K79_1.eq_1
def K79_2 : C := .seq (.pl <| .st (.ext 10 5) <|
    .st (.act none (.als 10 none 3)) <|
    .st (.act none (.pget (some 11) (some 10) 3 2 none)) <|
    .st (.act none (.px (some 12) (.mkf (.func fn_impl_Expr_walk_1) [] [.v 4, .v 5]))) <|
    .st (.act none (.ex (some 13) (.call fn_slices_ContainsFunc_S_impl_Expr_impl_Expr [.v 11, .v 12]))) K79_1) (.ret)
@[simp] def W79_2 := @C.wpe _ _ K79_2.eq_1
def K79_3 : C := .seq (.pl <| .st (.ext 10 0) <|
    .st (.act none (.px (some 6) (.mv (.c (.bool false))))) .done) (.ret)
@[simp] def W79_3 := @C.wpe _ _ K79_3.eq_1
def K79_4 : C := .cond 10 (.v 37) K79_3 (.skip)
@[simp] def W79_4 := @C.wpe _ _ K79_4.eq_1
def K79_5 : Pl := .st (.act (some (.v 24, false)) (.px (some 29) (.un .not (.v 28)))) <|
    .st (.act none (.px (some 30) (.pick (.v 24) (.c (.bool true)) (.v 29)))) <|
    .st (.act none (.px (some 31) (.mv (.v 30)))) <|
    .st (.act (some (.v 31, false)) (.als 32 none 3)) <|
    .st (.act (some (.v 31, false)) (.pget (some 33) (some 32) 3 2 none)) <|
    .st (.act (some (.v 31, false)) (.px (some 34) (.lenV (.v 33)))) <|
    .st (.act (some (.v 31, false)) (.px (some 35) (.mv (.v 7)))) <|
    .st (.act (some (.v 31, false)) (.px (some 36) (.bin .neq (.v 34) (.v 35)))) <|
    .st (.act none (.px (some 37) (.pick (.v 31) (.c (.bool true)) (.v 36)))) .done
@[simp] def W79_5 := @Pl.wpe _ _ K79_5.eq_1
def K79_6 : Pl := .st (.act (some (.v 18, false)) (.px (some 22) (.un .not (.v 21)))) <|
    .st (.act none (.px (some 23) (.pick (.v 18) (.c (.bool true)) (.v 22)))) <|
    .st (.act none (.px (some 24) (.mv (.v 23)))) <|
    .st (.act (some (.v 24, false)) (.als 25 none 3)) <|
    .st (.act (some (.v 24, false)) (.pget (some 26) (some 25) 3 1 none)) <|
    .st (.act (some (.v 24, false)) (.px (some 27) (.mv (.v 8)))) <|
    .st (.act (some (.v 24, false)) (.ex (some 28) (.call fn_impl_in [.v 26, .c (.int .i64 0), .v 27]))) K79_5
@[simp] def W79_6 := @Pl.wpe _ _ K79_6.eq_1
def K79_7 : C := .seq (.seq (.pl <| .st (.ext 10 28) <|
    .st (.act none (.ld (some 10) (.v 4) none)) <|
    .st (.act none (.px (some 11) (.bin .gtr (.v 10) (.c (.int .i64 6))))) <|
    .st (.act none (.px (some 12) (.mv (.v 11)))) <|
    .st (.act (some (.v 12, false)) (.ld (some 13) (.v 5) none)) <|
    .st (.act (some (.v 12, false)) (.px (some 14) (.nilc (.v 13)))) <|
    .st (.act (some (.v 12, false)) (.ld (some 15) (.v 14) none)) <|
    .st (.act (some (.v 12, false)) (.px (some 16) (.bin .gtr (.v 15) (.c (.int .i64 15))))) <|
    .st (.act none (.px (some 17) (.pick (.v 12) (.c (.bool true)) (.v 16)))) <|
    .st (.act none (.px (some 18) (.mv (.v 17)))) <|
    .st (.act (some (.v 18, false)) (.als 19 none 3)) <|
    .st (.act (some (.v 18, false)) (.pget (some 20) (some 19) 3 0 none)) <|
    .st (.act (some (.v 18, false)) (.ex (some 21) (.call fn_impl_in [.v 20, .c (.int .i64 1), .c (.int .i64 9)]))) K79_6) K79_4) K79_2
@[simp] def W79_7 := @C.wpe _ _ K79_7.eq_1
def K79_8 : C := .pl <| .st (.ext 10 0) <|
    .st (.act none (.px (some 7) (.mv (.c (.int .i64 0))))) <|
    .st (.act none (.px (some 8) (.mv (.c (.int .i64 3))))) .done
@[simp] def W79_8 := @C.wpe _ _ K79_8.eq_1
def K79_9 : C := .pl <| .st (.ext 10 0) <|
    .st (.act none (.px (some 7) (.mv (.c (.int .i64 0))))) <|
    .st (.act none (.px (some 8) (.mv (.c (.int .i64 2))))) .done
@[simp] def W79_9 := @C.wpe _ _ K79_9.eq_1
def K79_10 : C := .pl <| .st (.ext 10 0) <|
    .st (.act none (.px (some 7) (.mv (.c (.int .i64 1))))) .done
@[simp] def W79_10 := @C.wpe _ _ K79_10.eq_1
def K79_11 : C := .cond 10 (.v 11) K79_10 (.skip)
@[simp] def W79_11 := @C.wpe _ _ K79_11.eq_1
def K79_12 : C := .seq (.pl <| .st (.ext 10 2) <|
    .st (.act none (.px (some 10) (.bin .eql (.v 9) (.c (.int .i64 3))))) <|
    .st (.act none (.px (some 11) (.mv (.v 10)))) .done) K79_11
@[simp] def W79_12 := @C.wpe _ _ K79_12.eq_1
def K79_13 : C := .cond 10 (.v 11) K79_9 K79_12
@[simp] def W79_13 := @C.wpe _ _ K79_13.eq_1
def K79_14 : C := .seq (.pl <| .st (.ext 10 2) <|
    .st (.act none (.px (some 10) (.bin .eql (.v 9) (.c (.int .i64 2))))) <|
    .st (.act none (.px (some 11) (.mv (.v 10)))) .done) K79_13
@[simp] def W79_14 := @C.wpe _ _ K79_14.eq_1
def K79_15 : C := .cond 10 (.v 11) K79_8 K79_14
@[simp] def W79_15 := @C.wpe _ _ K79_15.eq_1
def K79_16 : C := .block 0 (.seq (.pl <| .st (.ext 10 2) <|
    .st (.act none (.px (some 10) (.bin .eql (.v 9) (.c (.int .i64 1))))) <|
    .st (.act none (.px (some 11) (.mv (.v 10)))) .done) K79_15)
@[simp] def W79_16 := @C.wpe _ _ K79_16.eq_1
def K79_17 : C := .seq (.seq (.pl <| .st (.ext 10 1) <|
    .st (.act none (.als 10 none 3)) <|
    .st (.act none (.pget (some 9) (some 10) 3 0 none)) .done) K79_16) K79_7
@[simp] def W79_17 := @C.wpe _ _ K79_17.eq_1
def K79_18 : C := .seq (.pl <| .st (.ext 10 0) <|
    .st (.act none (.px (some 7) (.mv (.c (.int .i64 2))))) <|
    .st (.act none (.px (some 8) (.mv (.c (.int .i64 0))))) .done) K79_17
@[simp] def W79_18 := @C.wpe _ _ K79_18.eq_1
def K79_19 : C := .seq (.pl <| .st (.ext 10 5) <|
    .st (.act none (.ld (some 10) (.v 5) none)) <|
    .st (.act none (.px (some 11) (.nilc (.v 10)))) <|
    .st (.act none (.ld (some 12) (.v 11) none)) <|
    .st (.act none (.px (some 13) (.bin .add (.v 12) (.c (.int .i64 1))))) <|
    .st (.act none (.px (some 14) (.nilc (.v 10)))) <|
    .st (.act none (.ex none (.store 1 (.v 14) (.v 13)))) .done) K79_18
@[simp] def W79_19 := @C.wpe _ _ K79_19.eq_1
def K79_20 : Pl := .st (.act none (.px (some 6) (.mv (.c (.bool false))))) .done
@[simp] def W79_20 := @Pl.wpe _ _ K79_20.eq_1
def K79_21 : Pl := .st (.act none (.ex (some 5) (.alloc (.v 2)))) K79_20
@[simp] def W79_21 := @Pl.wpe _ _ K79_21.eq_1
def B_impl_Expr_walk : C := .seq (.pl <| .st (.ext 10 0) <|
    .st (.act none (.pnew 3 (.v 0) [])) <|
    .st (.act none (.ex (some 4) (.alloc (.v 1)))) K79_21) K79_19
@[simp] def WB_impl_Expr_walk := @C.wpe _ _ B_impl_Expr_walk.eq_1
def R_impl_Expr_walk : FIR := ⟨B_impl_Expr_walk, 10, [(6, none)]⟩
theorem IR_impl_Expr_walk : cfun Try.prog H_impl_Expr_walk Try.f79 = some R_impl_Expr_walk := by kernel_rfl
theorem EN_impl_Expr_walk {args : List Value} {h : Heap} {k : Value → Heap → Prop} (hargs : args.length = 3) (hw : B_impl_Expr_walk.wp Try.prog (retQ [(6, none)] k) (env0 args 10) h) : CallE Try.prog fn_impl_Expr_walk args h k := enter Try.func79 rfl IR_impl_Expr_walk hargs hw

def H_impl_Expr_walk_1 : Hint := ⟨[(0, false), (1, false), (2, false), (3, true), (4, false)], []⟩
def K93_1 : Pl := .st (.act none (.px (some 10) (.un .not (.v 9)))) <|
    .st (.act none (.px (some 4) (.mv (.v 10)))) .done
@[simp] def W93_1 := @Pl.wpe _ _ K93_1.eq_1
def K93_2 : C := .seq (.pl <| .st (.ext 5 6) <|
    .st (.act none (.pget (some 5) none 3 0 (some 3))) <|
    .st (.act none (.ld (some 6) (.v 1) none)) <|
    .st (.act none (.px (some 7) (.bin .add (.v 6) (.c (.int .i64 1))))) <|
    .st (.act none (.ld (some 8) (.v 2) none)) <|
    .st (.act none (.ex (some 9) (.call fn_impl_Expr_walk [.v 5, .v 7, .v 8]))) K93_1) (.ret)
@[simp] def W93_2 := @C.wpe _ _ K93_2.eq_1
def B_impl_Expr_walk_1 : C := .seq (.pl <| .st (.ext 5 0) <|
    .st (.act none (.pnew 3 (.v 0) [])) <|
    .st (.act none (.px (some 4) (.mv (.c (.bool false))))) .done) K93_2
@[simp] def WB_impl_Expr_walk_1 := @C.wpe _ _ B_impl_Expr_walk_1.eq_1
def R_impl_Expr_walk_1 : FIR := ⟨B_impl_Expr_walk_1, 5, [(4, none)]⟩
theorem IR_impl_Expr_walk_1 : cfun Try.prog H_impl_Expr_walk_1 Try.f93 = some R_impl_Expr_walk_1 := by kernel_rfl
theorem EN_impl_Expr_walk_1 {args : List Value} {h : Heap} {k : Value → Heap → Prop} (hargs : args.length = 3) (hw : B_impl_Expr_walk_1.wp Try.prog (retQ [(4, none)] k) (env0 args 5) h) : CallE Try.prog fn_impl_Expr_walk_1 args h k := enter Try.func93 rfl IR_impl_Expr_walk_1 hargs hw

def H_impl_StateSame : Hint := ⟨[(0, false), (1, false), (2, true), (3, true), (4, false)], []⟩
def K69_1 : Pl := .st (.act none (.px (some 16) (.pick (.v 10) (.v 15) (.c (.bool false))))) <|
    .st (.act none (.px (some 4) (.mv (.v 16)))) .done
@[simp] def W69_1 := @Pl.wpe _ _ K69_1.eq_1
def K69_2 : Pl := .st (.act none (.px (some 10) (.mv (.v 9)))) <|
    .st (.act (some (.v 10, true)) (.als 11 none 2)) <|
    .st (.act (some (.v 10, true)) (.pget (some 12) (some 11) 2 1 none)) <|
    .st (.act (some (.v 10, true)) (.als 13 none 3)) <|
    .st (.act (some (.v 10, true)) (.pget (some 14) (some 13) 3 1 none)) <|
    .st (.act (some (.v 10, true)) (.ex (some 15) (.call fn_slices_Equal_S_int_int [.v 12, .v 14]))) K69_1
@[simp] def W69_2 := @Pl.wpe _ _ K69_2.eq_1
def K69_3 : C := .seq (.pl <| .st (.ext 5 12) <|
    .st (.act none (.als 5 none 2)) <|
    .st (.act none (.pget (some 6) (some 5) 2 0 none)) <|
    .st (.act none (.als 7 none 3)) <|
    .st (.act none (.pget (some 8) (some 7) 3 0 none)) <|
    .st (.act none (.ex (some 9) (.call fn_slices_Equal_S_int_int [.v 6, .v 8]))) K69_2) (.ret)
@[simp] def W69_3 := @C.wpe _ _ K69_3.eq_1
def B_impl_StateSame : C := .seq (.pl <| .st (.ext 5 0) <|
    .st (.act none (.pnew 2 (.v 0) [])) <|
    .st (.act none (.pnew 3 (.v 1) [])) <|
    .st (.act none (.px (some 4) (.mv (.c (.bool false))))) .done) K69_3
@[simp] def WB_impl_StateSame := @C.wpe _ _ B_impl_StateSame.eq_1
def R_impl_StateSame : FIR := ⟨B_impl_StateSame, 5, [(4, none)]⟩
theorem IR_impl_StateSame : cfun Try.prog H_impl_StateSame Try.f69 = some R_impl_StateSame := by kernel_rfl
theorem EN_impl_StateSame {args : List Value} {h : Heap} {k : Value → Heap → Prop} (hargs : args.length = 2) (hw : B_impl_StateSame.wp Try.prog (retQ [(4, none)] k) (env0 args 5) h) : CallE Try.prog fn_impl_StateSame args h k := enter Try.func69 rfl IR_impl_StateSame hargs hw

def H_impl_State_copyOf : Hint := ⟨[(0, false), (1, true), (2, true)], []⟩
def K76_1 : Pl := .st (.act none (.px (some 9) (.build [.slice none 0 0, .slice none 0 0] [(0, 1, .v 5), (1, 1, .v 8)]))) <|
    .st (.act none (.pset none 2 0 2 (.v 9))) .done
@[simp] def W76_1 := @Pl.wpe _ _ K76_1.eq_1
def K76_2 : Pl := .st (.act none (.ex (some 8) (.call fn_impl_clone_int [.v 7]))) K76_1
@[simp] def W76_2 := @Pl.wpe _ _ K76_2.eq_1
def K76_3 : C := .seq (.pl <| .st (.ext 3 7) <|
    .st (.act none (.als 3 none 1)) <|
    .st (.act none (.pget (some 4) (some 3) 1 0 none)) <|
    .st (.act none (.als 6 none 1)) <|
    .st (.act none (.pget (some 7) (some 6) 1 1 none)) <|
    .st (.act none (.ex (some 5) (.call fn_impl_clone_int [.v 4]))) K76_2) (.ret)
@[simp] def W76_3 := @C.wpe _ _ K76_3.eq_1
def B_impl_State_copyOf : C := .seq (.pl <| .st (.ext 3 0) <|
    .st (.act none (.pnew 1 (.v 0) [])) <|
    .st (.act none (.pnew 2 (.c (.agg #[.slice none 0 0, .slice none 0 0])) [])) .done) K76_3
@[simp] def WB_impl_State_copyOf := @C.wpe _ _ B_impl_State_copyOf.eq_1
def R_impl_State_copyOf : FIR := ⟨B_impl_State_copyOf, 3, [(2, some (some 2))]⟩
theorem IR_impl_State_copyOf : cfun Try.prog H_impl_State_copyOf Try.f76 = some R_impl_State_copyOf := by kernel_rfl
theorem EN_impl_State_copyOf {args : List Value} {h : Heap} {k : Value → Heap → Prop} (hargs : args.length = 1) (hw : B_impl_State_copyOf.wp Try.prog (retQ [(2, some (some 2))] k) (env0 args 3) h) : CallE Try.prog fn_impl_State_copyOf args h k := enter Try.func76 rfl IR_impl_State_copyOf hargs hw

def H_impl_State_take : Hint := ⟨[(0, false), (1, false), (2, false), (3, true), (5, true)], []⟩
def K88_1 : Pl := .st (.act none (.px (some 14) (.ia 1 (.v 6) (.v 8)))) <|
    .st (.act none (.ex none (.store 1 (.v 14) (.v 13)))) .done
@[simp] def W88_1 := @Pl.wpe _ _ K88_1.eq_1
def K88_2 : C := .pl <| .st (.ext 5 10) <|
    .st (.act none (.als 5 none 3)) <|
    .st (.act none (.pget (some 6) (some 5) 3 1 none)) <|
    .st (.act none (.als 7 none 4)) <|
    .st (.act none (.pget (some 8) (some 7) 4 5 none)) <|
    .st (.act none (.als 9 none 4)) <|
    .st (.act none (.pget (some 10) (some 9) 4 6 (some 3))) <|
    .st (.act none (.als 11 none 3)) <|
    .st (.act none (.pget (some 12) (some 11) 3 1 none)) <|
    .st (.act none (.ex (some 13) (.call fn_impl_Expr_eval [.v 10, .v 12]))) K88_1
@[simp] def W88_2 := @C.wpe _ _ K88_2.eq_1
def K88_3 : C := .cond 5 (.v 7) K88_2 (.skip)
@[simp] def W88_3 := @C.wpe _ _ K88_3.eq_1
def K88_4 : C := .seq (.pl <| .st (.ext 5 3) <|
    .st (.act none (.als 5 none 4)) <|
    .st (.act none (.pget (some 6) (some 5) 4 5 none)) <|
    .st (.act none (.px (some 7) (.bin .geq (.v 6) (.c (.int .i64 0))))) .done) K88_3
@[simp] def W88_4 := @C.wpe _ _ K88_4.eq_1
def K88_5 : C := .seq (.pl <| .st (.ext 5 6) <|
    .st (.act none (.als 5 none 3)) <|
    .st (.act none (.pget (some 6) (some 5) 3 0 none)) <|
    .st (.act none (.px (some 7) (.mv (.v 1)))) <|
    .st (.act none (.als 8 none 4)) <|
    .st (.act none (.pget (some 9) (some 8) 4 1 none)) <|
    .st (.act none (.px (some 10) (.ia 1 (.v 6) (.v 7)))) <|
    .st (.act none (.ex none (.store 1 (.v 10) (.v 9)))) .done) K88_4
@[simp] def W88_5 := @C.wpe _ _ K88_5.eq_1
def B_impl_State_take : C := .seq (.pl <| .st (.ext 5 0) <|
    .st (.act none (.pnew 3 (.v 0) [])) <|
    .st (.act none (.pnew 4 (.v 2) [])) .done) K88_5
@[simp] def WB_impl_State_take := @C.wpe _ _ B_impl_State_take.eq_1
def R_impl_State_take : FIR := ⟨B_impl_State_take, 5, []⟩
theorem IR_impl_State_take : cfun Try.prog H_impl_State_take Try.f88 = some R_impl_State_take := by kernel_rfl
theorem EN_impl_State_take {args : List Value} {h : Heap} {k : Value → Heap → Prop} (hargs : args.length = 3) (hw : B_impl_State_take.wp Try.prog (retQ [] k) (env0 args 5) h) : CallE Try.prog fn_impl_State_take args h k := enter Try.func88 rfl IR_impl_State_take hargs hw

def H_impl_SystemValid : Hint := ⟨[(0, false), (1, true), (2, false), (4, false), (17, false), (18, false), (19, false)], [[0, 1, 2, 3]]⟩
def K34_1 : C := .seq (.pl <| .st (.ext 7 0) <|
    .st (.act none (.px (some 2) (.mv (.c (.bool true))))) .done) (.ret)
@[simp] def W34_1 := @C.wpe _ _ K34_1.eq_1
def K34_2 : C := .pl <| .st (.ext 7 1) <|
    .st (.act none (.px (some 7) (.bin .add (.v 6) (.c (.int .i64 1))))) <|
    .st (.act none (.px (some 6) (.mv (.v 7)))) .done
@[simp] def W34_2 := @C.wpe _ _ K34_2.eq_1
def K34_3 : C := .seq (.pl <| .st (.ext 7 0) <|
    .st (.act none (.px (some 2) (.mv (.c (.bool false))))) .done) (.ret)
@[simp] def W34_3 := @C.wpe _ _ K34_3.eq_1
def K34_4 : C := .cond 7 (.v 22) K34_3 (.skip)
@[simp] def W34_4 := @C.wpe _ _ K34_4.eq_1
def K34_5 : Pl := .st (.act none (.px (some 22) (.pick (.v 17) (.c (.bool true)) (.v 21)))) .done
@[simp] def W34_5 := @Pl.wpe _ _ K34_5.eq_1
def K34_6 : Pl := .st (.act none (.px (some 10) (.un .not (.v 9)))) <|
    .st (.act none (.px (some 11) (.mv (.v 10)))) <|
    .st (.act (some (.v 11, false)) (.px (some 12) (.fa 1 (.v 3)))) <|
    .st (.act (some (.v 11, false)) (.ld (some 13) (.v 12) none)) <|
    .st (.act (some (.v 11, false)) (.px (some 14) (.lenV (.v 13)))) <|
    .st (.act (some (.v 11, false)) (.px (some 15) (.bin .gtr (.v 14) (.c (.int .i64 6))))) <|
    .st (.act none (.px (some 16) (.pick (.v 11) (.c (.bool true)) (.v 15)))) <|
    .st (.act none (.px (some 17) (.mv (.v 16)))) <|
    .st (.act (some (.v 17, false)) (.px (some 18) (.fa 1 (.v 3)))) <|
    .st (.act (some (.v 17, false)) (.ld (some 19) (.v 18) none)) <|
    .st (.act (some (.v 17, false)) (.px (some 20) (.mkf (.func fn_impl_SystemValid_1) [] [.v 3]))) <|
    .st (.act (some (.v 17, false)) (.ex (some 21) (.call fn_slices_ContainsFunc_S_impl_Edge_impl_Edge [.v 19, .v 20]))) K34_5
@[simp] def W34_6 := @Pl.wpe _ _ K34_6.eq_1
def K34_7 : C := .seq (.pl <| .st (.ext 7 16) <|
    .st (.act none (.px (some 7) (.fa 0 (.v 3)))) <|
    .st (.act none (.ld (some 8) (.v 7) none)) <|
    .st (.act none (.ex (some 9) (.call fn_impl_in [.v 8, .c (.int .i64 1), .c (.int .i64 4)]))) K34_6) K34_4
@[simp] def W34_7 := @C.wpe _ _ K34_7.eq_1
def K34_8 : Pl := .st (.act none (.ex none (.store 2 (.v 3) (.v 8)))) .done
@[simp] def W34_8 := @Pl.wpe _ _ K34_8.eq_1
def K34_9 : C := .seq (.block 1 (.seq (.pl <| .st (.ext 7 2) <|
    .st (.act none (.px (some 7) (.ia 2 (.v 4) (.v 6)))) <|
    .st (.act none (.ld (some 8) (.v 7) (some 2))) <|
    .st (.act none (.ex (some 3) (.alloc (.c (.agg #[.int .i64 0, .slice none 0 0]))))) K34_8) K34_7)) K34_2
@[simp] def W34_9 := @C.wpe _ _ K34_9.eq_1
def K34_10 : C := .seq (.cond 7 (.v 7) (.skip) (.exit 0)) K34_9
@[simp] def W34_10 := @C.wpe _ _ K34_10.eq_1
def K34_11 : C := .seq (.pl <| .st (.ext 7 1) <|
    .st (.act none (.px (some 7) (.bin .lss (.v 6) (.v 5)))) .done) K34_10
@[simp] def W34_11 := @C.wpe _ _ K34_11.eq_1
def K34_12 : C := .block 0 (.loop 7 [0, 1, 2, 3] K34_11)
@[simp] def W34_12 := @C.wpe _ _ K34_12.eq_1
def K34_13 : C := .seq (.seq (.pl <| .st (.ext 7 1) <|
    .st (.act none (.als 7 none 1)) <|
    .st (.act none (.pget (some 4) (some 7) 1 1 none)) <|
    .st (.act none (.px (some 5) (.lenV (.v 4)))) <|
    .st (.act none (.px (some 6) (.mv (.c (.int .i64 0))))) .done) K34_12) K34_1
@[simp] def W34_13 := @C.wpe _ _ K34_13.eq_1
def K34_14 : C := .seq (.pl <| .st (.ext 7 0) <|
    .st (.act none (.px (some 2) (.mv (.c (.bool false))))) .done) (.ret)
@[simp] def W34_14 := @C.wpe _ _ K34_14.eq_1
def K34_15 : C := .cond 7 (.v 17) K34_14 (.skip)
@[simp] def W34_15 := @C.wpe _ _ K34_15.eq_1
def K34_16 : Pl := .st (.act (some (.v 11, false)) (.px (some 16) (.un .not (.v 15)))) <|
    .st (.act none (.px (some 17) (.pick (.v 11) (.c (.bool true)) (.v 16)))) .done
@[simp] def W34_16 := @Pl.wpe _ _ K34_16.eq_1
def K34_17 : Pl := .st (.act none (.px (some 10) (.un .not (.v 9)))) <|
    .st (.act none (.px (some 11) (.mv (.v 10)))) <|
    .st (.act (some (.v 11, false)) (.als 12 none 1)) <|
    .st (.act (some (.v 11, false)) (.pget (some 13) (some 12) 1 1 none)) <|
    .st (.act (some (.v 11, false)) (.px (some 14) (.lenV (.v 13)))) <|
    .st (.act (some (.v 11, false)) (.ex (some 15) (.call fn_impl_in [.v 14, .c (.int .i64 1), .c (.int .i64 3)]))) K34_16
@[simp] def W34_17 := @Pl.wpe _ _ K34_17.eq_1
def K34_18 : C := .seq (.seq (.pl <| .st (.ext 7 11) <|
    .st (.act none (.als 7 none 1)) <|
    .st (.act none (.pget (some 8) (some 7) 1 0 none)) <|
    .st (.act none (.ex (some 9) (.call fn_impl_valsOk [.v 8]))) K34_17) K34_15) K34_13
@[simp] def W34_18 := @C.wpe _ _ K34_18.eq_1
def B_impl_SystemValid : C := .seq (.pl <| .st (.ext 7 0) <|
    .st (.act none (.pnew 1 (.v 0) [])) <|
    .st (.act none (.px (some 2) (.mv (.c (.bool false))))) .done) K34_18
@[simp] def WB_impl_SystemValid := @C.wpe _ _ B_impl_SystemValid.eq_1
def R_impl_SystemValid : FIR := ⟨B_impl_SystemValid, 7, [(2, none)]⟩
theorem IR_impl_SystemValid : cfun Try.prog H_impl_SystemValid Try.f34 = some R_impl_SystemValid := by kernel_rfl
theorem EN_impl_SystemValid {args : List Value} {h : Heap} {k : Value → Heap → Prop} (hargs : args.length = 1) (hw : B_impl_SystemValid.wp Try.prog (retQ [(2, none)] k) (env0 args 7) h) : CallE Try.prog fn_impl_SystemValid args h k := enter Try.func34 rfl IR_impl_SystemValid hargs hw

def H_impl_SystemValid_1 : Hint := ⟨[(0, false), (1, false), (2, true), (3, false)], []⟩
def K64_1 : Pl := .st (.act none (.px (some 8) (.un .not (.v 7)))) <|
    .st (.act none (.px (some 3) (.mv (.v 8)))) .done
@[simp] def W64_1 := @Pl.wpe _ _ K64_1.eq_1
def K64_2 : C := .seq (.pl <| .st (.ext 4 5) <|
    .st (.act none (.pget (some 4) none 2 0 (some 10))) <|
    .st (.act none (.px (some 5) (.fa 0 (.v 1)))) <|
    .st (.act none (.ld (some 6) (.v 5) none)) <|
    .st (.act none (.ex (some 7) (.call fn_impl_EdgeValid [.v 4, .v 6]))) K64_1) (.ret)
@[simp] def W64_2 := @C.wpe _ _ K64_2.eq_1
def B_impl_SystemValid_1 : C := .seq (.pl <| .st (.ext 4 0) <|
    .st (.act none (.pnew 2 (.v 0) [])) <|
    .st (.act none (.px (some 3) (.mv (.c (.bool false))))) .done) K64_2
@[simp] def WB_impl_SystemValid_1 := @C.wpe _ _ B_impl_SystemValid_1.eq_1
def R_impl_SystemValid_1 : FIR := ⟨B_impl_SystemValid_1, 4, [(3, none)]⟩
theorem IR_impl_SystemValid_1 : cfun Try.prog H_impl_SystemValid_1 Try.f64 = some R_impl_SystemValid_1 := by kernel_rfl
theorem EN_impl_SystemValid_1 {args : List Value} {h : Heap} {k : Value → Heap → Prop} (hargs : args.length = 2) (hw : B_impl_SystemValid_1.wp Try.prog (retQ [(3, none)] k) (env0 args 4) h) : CallE Try.prog fn_impl_SystemValid_1 args h k := enter Try.func64 rfl IR_impl_SystemValid_1 hargs hw

def H_impl_System_after : Hint := ⟨[(0, false), (1, false), (2, false), (3, true), (4, true), (5, true), (6, true), (7, true)], []⟩
def K67_1 : C := .seq (.pl <| .st (.ext 8 1) <|
    .st (.act none (.pget (some 8) none 7 0 (some 2))) <|
    .st (.act none (.pset none 6 0 2 (.v 8))) .done) (.ret)
@[simp] def W67_1 := @C.wpe _ _ K67_1.eq_1
def K67_2 : C := .pl <| .st (.ext 8 15) <|
    .st (.act none (.pget (some 8) none 7 0 (some 2))) <|
    .st (.act none (.als 9 none 5)) <|
    .st (.act none (.pget (some 10) (some 9) 5 2 none)) <|
    .st (.act none (.als 11 none 3)) <|
    .st (.act none (.pget (some 12) (some 11) 3 1 none)) <|
    .st (.act none (.als 13 none 5)) <|
    .st (.act none (.pget (some 14) (some 13) 5 2 none)) <|
    .st (.act none (.px (some 15) (.ia 2 (.v 12) (.v 14)))) <|
    .st (.act none (.px (some 16) (.fa 1 (.v 15)))) <|
    .st (.act none (.ld (some 17) (.v 16) none)) <|
    .st (.act none (.als 18 none 5)) <|
    .st (.act none (.pget (some 19) (some 18) 5 3 none)) <|
    .st (.act none (.px (some 20) (.ia 10 (.v 17) (.v 19)))) <|
    .st (.act none (.ld (some 21) (.v 20) (some 10))) <|
    .st (.act none (.ex (some 22) (.call fn_impl_State_take [.v 8, .v 10, .v 21]))) .done
@[simp] def W67_2 := @C.wpe _ _ K67_2.eq_1
def K67_3 : C := .cond 8 (.v 10) K67_2 (.skip)
@[simp] def W67_3 := @C.wpe _ _ K67_3.eq_1
def K67_4 : C := .seq (.seq (.pl <| .st (.ext 8 3) <|
    .st (.act none (.als 8 none 5)) <|
    .st (.act none (.pget (some 9) (some 8) 5 2 none)) <|
    .st (.act none (.px (some 10) (.bin .geq (.v 9) (.c (.int .i64 0))))) .done) K67_3) K67_1
@[simp] def W67_4 := @C.wpe _ _ K67_4.eq_1
def K67_5 : C := .seq (.pl <| .st (.ext 8 15) <|
    .st (.act none (.pget (some 8) none 7 0 (some 2))) <|
    .st (.act none (.als 9 none 5)) <|
    .st (.act none (.pget (some 10) (some 9) 5 0 none)) <|
    .st (.act none (.als 11 none 3)) <|
    .st (.act none (.pget (some 12) (some 11) 3 1 none)) <|
    .st (.act none (.als 13 none 5)) <|
    .st (.act none (.pget (some 14) (some 13) 5 0 none)) <|
    .st (.act none (.px (some 15) (.ia 2 (.v 12) (.v 14)))) <|
    .st (.act none (.px (some 16) (.fa 1 (.v 15)))) <|
    .st (.act none (.ld (some 17) (.v 16) none)) <|
    .st (.act none (.als 18 none 5)) <|
    .st (.act none (.pget (some 19) (some 18) 5 1 none)) <|
    .st (.act none (.px (some 20) (.ia 10 (.v 17) (.v 19)))) <|
    .st (.act none (.ld (some 21) (.v 20) (some 10))) <|
    .st (.act none (.ex (some 22) (.call fn_impl_State_take [.v 8, .v 10, .v 21]))) .done) K67_4
@[simp] def W67_5 := @C.wpe _ _ K67_5.eq_1
def K67_6 : Pl := .st (.act none (.pnew 7 (.c (.agg #[.slice none 0 0, .slice none 0 0])) [])) <|
    .st (.act none (.pset none 7 0 2 (.v 9))) .done
@[simp] def W67_6 := @Pl.wpe _ _ K67_6.eq_1
def K67_7 : C := .seq (.pl <| .st (.ext 8 2) <|
    .st (.act none (.pget (some 8) none 4 0 (some 2))) <|
    .st (.act none (.ex (some 9) (.call fn_impl_State_copyOf [.v 8]))) K67_6) K67_5
@[simp] def W67_7 := @C.wpe _ _ K67_7.eq_1
def B_impl_System_after : C := .seq (.pl <| .st (.ext 8 0) <|
    .st (.act none (.pnew 3 (.v 0) [])) <|
    .st (.act none (.pnew 4 (.v 1) [])) <|
    .st (.act none (.pnew 5 (.v 2) [])) <|
    .st (.act none (.pnew 6 (.c (.agg #[.slice none 0 0, .slice none 0 0])) [])) .done) K67_7
@[simp] def WB_impl_System_after := @C.wpe _ _ B_impl_System_after.eq_1
def R_impl_System_after : FIR := ⟨B_impl_System_after, 8, [(6, some (some 2))]⟩
theorem IR_impl_System_after : cfun Try.prog H_impl_System_after Try.f67 = some R_impl_System_after := by kernel_rfl
theorem EN_impl_System_after {args : List Value} {h : Heap} {k : Value → Heap → Prop} (hargs : args.length = 3) (hw : B_impl_System_after.wp Try.prog (retQ [(6, some (some 2))] k) (env0 args 8) h) : CallE Try.prog fn_impl_System_after args h k := enter Try.func67 rfl IR_impl_System_after hargs hw

def H_impl_System_build : Hint := ⟨[(0, false), (1, true), (2, true), (3, false), (4, true), (5, false), (6, false), (8, true), (9, false), (10, false), (28, false), (29, false), (30, false)], [[0, 3, 6, 7, 8, 9, 10, 11, 12], [0, 3, 7, 8, 9]]⟩
def K35_1 : Pl := .st (.act none (.px (some 19) (.build [.slice none 0 0, .slice none 0 0] [(0, 1, .v 15), (1, 1, .v 18)]))) <|
    .st (.act none (.pset none 2 0 2 (.v 19))) <|
    .st (.act none (.px (some 3) (.mv (.c (.bool true))))) .done
@[simp] def W35_1 := @Pl.wpe _ _ K35_1.eq_1
def K35_2 : Pl := .st (.act none (.ex (some 18) (.call fn_slices_Clip_S_S_int_S_int [.v 17]))) K35_1
@[simp] def W35_2 := @Pl.wpe _ _ K35_2.eq_1
def K35_3 : C := .seq (.pl <| .st (.ext 13 7) <|
    .st (.act none (.als 13 none 4)) <|
    .st (.act none (.pget (some 14) (some 13) 4 0 none)) <|
    .st (.act none (.als 16 none 4)) <|
    .st (.act none (.pget (some 17) (some 16) 4 1 none)) <|
    .st (.act none (.ex (some 15) (.call fn_slices_Clip_S_impl_State_impl_State [.v 14]))) K35_2) (.ret)
@[simp] def W35_3 := @C.wpe _ _ K35_3.eq_1
def K35_4 : C := .pl <| .st (.ext 13 2) <|
    .st (.act none (.px (some 13) (.mv (.v 5)))) <|
    .st (.act none (.px (some 14) (.bin .add (.v 13) (.c (.int .i64 1))))) <|
    .st (.act none (.px (some 5) (.mv (.v 14)))) .done
@[simp] def W35_4 := @C.wpe _ _ K35_4.eq_1
def K35_5 : C := .seq (.pl <| .st (.ext 13 1) <|
    .st (.act none (.px (some 13) (.build [.slice none 0 0, .slice none 0 0] []))) <|
    .st (.act none (.pset none 2 0 2 (.v 13))) <|
    .st (.act none (.px (some 3) (.mv (.c (.bool false))))) .done) (.ret)
@[simp] def W35_5 := @C.wpe _ _ K35_5.eq_1
def K35_6 : C := .cond 13 (.v 16) K35_5 (.skip)
@[simp] def W35_6 := @C.wpe _ _ K35_6.eq_1
def K35_7 : C := .seq (.pl <| .st (.ext 13 4) <|
    .st (.act none (.als 13 none 4)) <|
    .st (.act none (.pget (some 14) (some 13) 4 0 none)) <|
    .st (.act none (.px (some 15) (.lenV (.v 14)))) <|
    .st (.act none (.px (some 16) (.bin .gtr (.v 15) (.c (.int .i64 60))))) .done) K35_6
@[simp] def W35_7 := @C.wpe _ _ K35_7.eq_1
def K35_8 : Pl := .st (.act none (.als 19 none 4)) <|
    .st (.act none (.pset (some 19) 4 1 1 (.v 18))) .done
@[simp] def W35_8 := @Pl.wpe _ _ K35_8.eq_1
def K35_9 : Pl := .st (.act none (.psl 17 [.slice none 0 0] [(0, 1, .v 16)])) <|
    .st (.act none (.ex (some 18) (.app 24 1 [.slice none 0 0] (.o (.v 14)) (.p 1 17)))) K35_8
@[simp] def W35_9 := @Pl.wpe _ _ K35_9.eq_1
def K35_10 : C := .seq (.pl <| .st (.ext 13 7) <|
    .st (.act none (.als 13 none 4)) <|
    .st (.act none (.pget (some 14) (some 13) 4 1 none)) <|
    .st (.act none (.px (some 15) (.mv (.v 6)))) <|
    .st (.act none (.ex (some 16) (.call fn_slices_Clip_S_int_int [.v 15]))) K35_9) K35_7
@[simp] def W35_10 := @C.wpe _ _ K35_10.eq_1
def K35_11 : Pl := .st (.act none (.px (some 6) (.mv (.v 14)))) .done
@[simp] def W35_11 := @Pl.wpe _ _ K35_11.eq_1
def K35_12 : C := .pl <| .st (.ext 13 2) <|
    .st (.act none (.px (some 13) (.mv (.v 5)))) <|
    .st (.act none (.ex (some 14) (.bls 1 1 [.int .i64 0] [(0, 1, .v 13)]))) K35_11
@[simp] def W35_12 := @C.wpe _ _ K35_12.eq_1
def K35_13 : C := .cond 13 (.v 15) K35_12 (.skip)
@[simp] def W35_13 := @C.wpe _ _ K35_13.eq_1
def K35_14 : C := .seq (.seq (.pl <| .st (.ext 13 3) <|
    .st (.act none (.px (some 13) (.mv (.v 6)))) <|
    .st (.act none (.px (some 14) (.lenV (.v 13)))) <|
    .st (.act none (.px (some 15) (.bin .eql (.v 14) (.c (.int .i64 0))))) .done) K35_13) K35_10
@[simp] def W35_14 := @C.wpe _ _ K35_14.eq_1
def K35_15 : C := .pl <| .st (.ext 13 1) <|
    .st (.act none (.px (some 13) (.bin .add (.v 12) (.c (.int .i64 1))))) <|
    .st (.act none (.px (some 12) (.mv (.v 13)))) .done
@[simp] def W35_15 := @C.wpe _ _ K35_15.eq_1
def K35_16 : Pl := .st (.act none (.px (some 6) (.mv (.v 16)))) .done
@[simp] def W35_16 := @Pl.wpe _ _ K35_16.eq_1
def K35_17 : C := .pl <| .st (.ext 13 4) <|
    .st (.act none (.px (some 13) (.mv (.v 6)))) <|
    .st (.act none (.px (some 14) (.mv (.v 9)))) <|
    .st (.act none (.psl 15 [.int .i64 0] [(0, 1, .v 14)])) <|
    .st (.act none (.ex (some 16) (.app 8 1 [.int .i64 0] (.o (.v 13)) (.p 1 15)))) K35_16
@[simp] def W35_17 := @C.wpe _ _ K35_17.eq_1
def K35_18 : C := .cond 13 (.v 16) K35_17 (.skip)
@[simp] def W35_18 := @C.wpe _ _ K35_18.eq_1
def K35_19 : Pl := .st (.act none (.px (some 16) (.un .not (.v 15)))) .done
@[simp] def W35_19 := @Pl.wpe _ _ K35_19.eq_1
def K35_20 : C := .seq (.pl <| .st (.ext 13 4) <|
    .st (.act none (.px (some 13) (.mv (.v 6)))) <|
    .st (.act none (.px (some 14) (.mv (.v 9)))) <|
    .st (.act none (.ex (some 15) (.call fn_slices_Contains_S_int_int [.v 13, .v 14]))) K35_19) K35_18
@[simp] def W35_20 := @C.wpe _ _ K35_20.eq_1
def K35_21 : Pl := .st (.act none (.als 18 none 4)) <|
    .st (.act none (.pset (some 18) 4 0 1 (.v 17))) .done
@[simp] def W35_21 := @Pl.wpe _ _ K35_21.eq_1
def K35_22 : C := .pl <| .st (.ext 13 6) <|
    .st (.act none (.als 13 none 4)) <|
    .st (.act none (.pget (some 14) (some 13) 4 0 none)) <|
    .st (.act none (.ld (some 15) (.v 8) (some 2))) <|
    .st (.act none (.psl 16 [.slice none 0 0, .slice none 0 0] [(0, 2, .v 15)])) <|
    .st (.act none (.ex (some 17) (.app 48 2 [.slice none 0 0, .slice none 0 0] (.o (.v 14)) (.p 1 16)))) K35_21
@[simp] def W35_22 := @C.wpe _ _ K35_22.eq_1
def K35_23 : C := .seq (.pl <| .st (.ext 13 3) <|
    .st (.act none (.als 13 none 4)) <|
    .st (.act none (.pget (some 14) (some 13) 4 0 none)) <|
    .st (.act none (.px (some 15) (.lenV (.v 14)))) <|
    .st (.act none (.px (some 9) (.mv (.v 15)))) .done) K35_22
@[simp] def W35_23 := @C.wpe _ _ K35_23.eq_1
def K35_24 : C := .cond 13 (.v 14) K35_23 (.skip)
@[simp] def W35_24 := @C.wpe _ _ K35_24.eq_1
def K35_25 : C := .seq (.seq (.pl <| .st (.ext 13 2) <|
    .st (.act none (.px (some 13) (.mv (.v 9)))) <|
    .st (.act none (.px (some 14) (.bin .lss (.v 13) (.c (.int .i64 0))))) .done) K35_24) K35_20
@[simp] def W35_25 := @C.wpe _ _ K35_25.eq_1
def K35_26 : Pl := .st (.act none (.px (some 9) (.mv (.v 16)))) .done
@[simp] def W35_26 := @Pl.wpe _ _ K35_26.eq_1
def K35_27 : C := .seq (.pl <| .st (.ext 13 4) <|
    .st (.act none (.als 13 none 4)) <|
    .st (.act none (.pget (some 14) (some 13) 4 0 none)) <|
    .st (.act none (.px (some 15) (.mkf (.func fn_impl_System_build_1) [] [.v 8]))) <|
    .st (.act none (.ex (some 16) (.call fn_slices_IndexFunc_S_impl_State_impl_State [.v 14, .v 15]))) K35_26) K35_25
@[simp] def W35_27 := @C.wpe _ _ K35_27.eq_1
def K35_28 : Pl := .st (.re 18 (.v 17) (some 2) none) <|
    .st (.act none (.ex none (.store 2 (.v 8) (.v 20)))) .done
@[simp] def W35_28 := @Pl.wpe _ _ K35_28.eq_1
def K35_29 : Pl := .st (.act none (.ex (some 8) (.alloc (.c (.agg #[.slice none 0 0, .slice none 0 0]))))) K35_28
@[simp] def W35_29 := @Pl.wpe _ _ K35_29.eq_1
def K35_30 : Pl := .st (.act none (.ex (some 20) (.call fn_impl_System_after [.v 13, .v 18, .v 19]))) K35_29
@[simp] def W35_30 := @Pl.wpe _ _ K35_30.eq_1
def K35_31 : Pl := .st (.act none (.ex none (.store 2 (.v 8) (.v 20)))) .done
@[simp] def W35_31 := @Pl.wpe _ _ K35_31.eq_1
def K35_32 : Pl := .st (.re 18 (.v 17) (some 2) none) <|
    .st (.act none (.ex (some 20) (.call fn_impl_System_after [.v 13, .v 18, .v 19]))) K35_31
@[simp] def W35_32 := @Pl.wpe _ _ K35_32.eq_1
def K35_33 : Pl := .st (.act none (.ex (some 8) (.alloc (.c (.agg #[.slice none 0 0, .slice none 0 0]))))) K35_32
@[simp] def W35_33 := @Pl.wpe _ _ K35_33.eq_1
def K35_34 : C := .seq (.pl <| .st (.ext 13 8) <|
    .st (.act none (.pget (some 13) none 1 0 (some 2))) <|
    .st (.act none (.als 14 none 4)) <|
    .st (.act none (.pget (some 15) (some 14) 4 0 none)) <|
    .st (.act none (.px (some 16) (.mv (.v 5)))) <|
    .st (.act none (.px (some 17) (.ia 2 (.v 15) (.v 16)))) <|
    .st (.act none (.ld (some 18) (.v 17) (some 2))) <|
    .st (.act none (.pget (some 19) none 7 0 (some 4))) <|
    .both K35_30 K35_33) K35_27
@[simp] def W35_34 := @C.wpe _ _ K35_34.eq_1
def K35_35 : C := .seq (.block 3 (.seq (.pl <| .st (.ext 13 2) <|
    .st (.act none (.px (some 13) (.ia 4 (.v 10) (.v 12)))) <|
    .st (.act none (.ld (some 14) (.v 13) (some 4))) <|
    .st (.act none (.pnew 7 (.c (.agg #[.int .i64 0, .int .i64 0, .int .i64 0, .int .i64 0])) [])) <|
    .st (.act none (.pset none 7 0 4 (.v 14))) .done) K35_34)) K35_15
@[simp] def W35_35 := @C.wpe _ _ K35_35.eq_1
def K35_36 : C := .seq (.cond 13 (.v 13) (.skip) (.exit 2)) K35_35
@[simp] def W35_36 := @C.wpe _ _ K35_36.eq_1
def K35_37 : C := .seq (.pl <| .st (.ext 13 1) <|
    .st (.act none (.px (some 13) (.bin .lss (.v 12) (.v 11)))) .done) K35_36
@[simp] def W35_37 := @C.wpe _ _ K35_37.eq_1
def K35_38 : C := .block 2 (.loop 13 [0, 3, 7, 8, 9] K35_37)
@[simp] def W35_38 := @C.wpe _ _ K35_38.eq_1
def K35_39 : Pl := .st (.act none (.px (some 11) (.lenV (.v 10)))) <|
    .st (.act none (.px (some 12) (.mv (.c (.int .i64 0))))) <|
    .st (.re 18 (.v 17) (some 2) none) .done
@[simp] def W35_39 := @Pl.wpe _ _ K35_39.eq_1
def K35_40 : Pl := .st (.act none (.px (some 12) (.mv (.c (.int .i64 0))))) <|
    .st (.re 18 (.v 17) (some 2) none) <|
    .st (.act none (.px (some 11) (.lenV (.v 10)))) .done
@[simp] def W35_40 := @Pl.wpe _ _ K35_40.eq_1
def K35_41 : Pl := .both K35_39 K35_40
@[simp] def W35_41 := @Pl.wpe _ _ K35_41.eq_1
def K35_42 : Pl := .st (.act none (.ex (some 10) (.call fn_impl_System_enabled [.v 13, .v 18]))) K35_41
@[simp] def W35_42 := @Pl.wpe _ _ K35_42.eq_1
def K35_43 : Pl := .st (.act none (.px (some 11) (.lenV (.v 10)))) .done
@[simp] def W35_43 := @Pl.wpe _ _ K35_43.eq_1
def K35_44 : Pl := .st (.act none (.px (some 12) (.mv (.c (.int .i64 0))))) <|
    .st (.re 18 (.v 17) (some 2) none) <|
    .st (.act none (.ex (some 10) (.call fn_impl_System_enabled [.v 13, .v 18]))) K35_43
@[simp] def W35_44 := @Pl.wpe _ _ K35_44.eq_1
def K35_45 : C := .seq (.seq (.pl <| .st (.ext 13 6) <|
    .st (.act none (.pget (some 13) none 1 0 (some 2))) <|
    .st (.act none (.als 14 none 4)) <|
    .st (.act none (.pget (some 15) (some 14) 4 0 none)) <|
    .st (.act none (.px (some 16) (.mv (.v 5)))) <|
    .st (.act none (.px (some 17) (.ia 2 (.v 15) (.v 16)))) <|
    .st (.act none (.ld (some 18) (.v 17) (some 2))) <|
    .both K35_42 K35_44) K35_38) K35_14
@[simp] def W35_45 := @C.wpe _ _ K35_45.eq_1
def K35_46 : C := .seq (.block 1 (.seq (.pl <| .st (.ext 13 0) <|
    .st (.act none (.px (some 6) (.mv (.c (.slice none 0 0))))) .done) K35_45)) K35_4
@[simp] def W35_46 := @C.wpe _ _ K35_46.eq_1
def K35_47 : C := .cond 13 (.v 17) (.skip) (.exit 0)
@[simp] def W35_47 := @C.wpe _ _ K35_47.eq_1
def K35_48 : C := .seq (.seq (.pl <| .st (.ext 13 5) <|
    .st (.act none (.px (some 13) (.mv (.v 5)))) <|
    .st (.act none (.als 14 none 4)) <|
    .st (.act none (.pget (some 15) (some 14) 4 0 none)) <|
    .st (.act none (.px (some 16) (.lenV (.v 15)))) <|
    .st (.act none (.px (some 17) (.bin .lss (.v 13) (.v 16)))) .done) K35_47) K35_46
@[simp] def W35_48 := @C.wpe _ _ K35_48.eq_1
def K35_49 : C := .block 0 (.loop 13 [0, 3, 6, 7, 8, 9, 10, 11, 12] K35_48)
@[simp] def W35_49 := @C.wpe _ _ K35_49.eq_1
def K35_50 : C := .seq (.seq (.pl <| .st (.ext 13 0) <|
    .st (.act none (.px (some 5) (.mv (.c (.int .i64 0))))) .done) K35_49) K35_3
@[simp] def W35_50 := @C.wpe _ _ K35_50.eq_1
def K35_51 : Pl := .st (.act none (.px (some 16) (.build [.slice none 0 0, .slice none 0 0] [(0, 1, .v 15)]))) <|
    .st (.act none (.pnew 4 (.c (.agg #[.slice none 0 0, .slice none 0 0])) [])) <|
    .st (.act none (.pset none 4 0 2 (.v 16))) .done
@[simp] def W35_51 := @Pl.wpe _ _ K35_51.eq_1
def K35_52 : Pl := .st (.act none (.ex (some 15) (.bls 2 1 [.slice none 0 0, .slice none 0 0] [(0, 2, .v 14)]))) K35_51
@[simp] def W35_52 := @Pl.wpe _ _ K35_52.eq_1
def K35_53 : C := .seq (.pl <| .st (.ext 13 4) <|
    .st (.act none (.pget (some 13) none 1 0 (some 2))) <|
    .st (.act none (.ex (some 14) (.call fn_impl_System_initial [.v 13]))) K35_52) K35_50
@[simp] def W35_53 := @C.wpe _ _ K35_53.eq_1
def B_impl_System_build : C := .seq (.pl <| .st (.ext 13 0) <|
    .st (.act none (.pnew 1 (.v 0) [])) <|
    .st (.act none (.pnew 2 (.c (.agg #[.slice none 0 0, .slice none 0 0])) [])) <|
    .st (.act none (.px (some 3) (.mv (.c (.bool false))))) .done) K35_53
@[simp] def WB_impl_System_build := @C.wpe _ _ B_impl_System_build.eq_1
def R_impl_System_build : FIR := ⟨B_impl_System_build, 13, [(2, some (some 2)), (3, none)]⟩
theorem IR_impl_System_build : cfun Try.prog H_impl_System_build Try.f35 = some R_impl_System_build := by kernel_rfl
theorem EN_impl_System_build {args : List Value} {h : Heap} {k : Value → Heap → Prop} (hargs : args.length = 1) (hw : B_impl_System_build.wp Try.prog (retQ [(2, some (some 2)), (3, none)] k) (env0 args 13) h) : CallE Try.prog fn_impl_System_build args h k := enter Try.func35 rfl IR_impl_System_build hargs hw

def H_impl_System_build_1 : Hint := ⟨[(0, false), (1, false), (2, true), (3, false)], []⟩
def K68_1 : Pl := .st (.act none (.px (some 3) (.mv (.v 6)))) .done
@[simp] def W68_1 := @Pl.wpe _ _ K68_1.eq_1
def K68_2 : C := .seq (.pl <| .st (.ext 4 3) <|
    .st (.act none (.pget (some 4) none 2 0 (some 2))) <|
    .st (.act none (.ld (some 5) (.v 1) (some 2))) <|
    .st (.act none (.ex (some 6) (.call fn_impl_StateSame [.v 4, .v 5]))) K68_1) (.ret)
@[simp] def W68_2 := @C.wpe _ _ K68_2.eq_1
def B_impl_System_build_1 : C := .seq (.pl <| .st (.ext 4 0) <|
    .st (.act none (.pnew 2 (.v 0) [])) <|
    .st (.act none (.px (some 3) (.mv (.c (.bool false))))) .done) K68_2
@[simp] def WB_impl_System_build_1 := @C.wpe _ _ B_impl_System_build_1.eq_1
def R_impl_System_build_1 : FIR := ⟨B_impl_System_build_1, 4, [(3, none)]⟩
theorem IR_impl_System_build_1 : cfun Try.prog H_impl_System_build_1 Try.f68 = some R_impl_System_build_1 := by kernel_rfl
theorem EN_impl_System_build_1 {args : List Value} {h : Heap} {k : Value → Heap → Prop} (hargs : args.length = 2) (hw : B_impl_System_build_1.wp Try.prog (retQ [(3, none)] k) (env0 args 4) h) : CallE Try.prog fn_impl_System_build_1 args h k := enter Try.func68 rfl IR_impl_System_build_1 hargs hw

def H_impl_System_enabled : Hint := ⟨[(0, false), (1, false), (2, true), (3, true), (4, false), (5, false), (6, false), (7, true), (8, false), (9, true), (10, false), (11, true), (12, false), (13, true), (15, false), (16, false), (17, false), (23, false), (24, false), (25, false), (53, false), (54, false), (55, false), (61, false), (62, false), (63, false)], [[0, 1, 4, 6, 7, 8, 9, 10, 11, 12, 13, 17, 18, 19, 20, 21, 22, 23, 24, 25], [0, 1, 4, 7, 8, 9, 10, 11, 12, 13, 20, 21, 22, 23, 24, 25], [0, 1, 4, 7, 10, 11, 12, 13, 23, 24, 25], [0, 1, 4, 7, 11, 12, 13]]⟩
def K32_1 : Pl := .st (.act none (.px (some 4) (.mv (.v 27)))) .done
@[simp] def W32_1 := @Pl.wpe _ _ K32_1.eq_1
def K32_2 : C := .seq (.pl <| .st (.ext 26 2) <|
    .st (.act none (.px (some 26) (.mv (.v 5)))) <|
    .st (.act none (.ex (some 27) (.call fn_slices_Clip_S_impl_Step_impl_Step [.v 26]))) K32_1) (.ret)
@[simp] def W32_2 := @C.wpe _ _ K32_2.eq_1
def K32_3 : C := .pl <| .st (.ext 26 1) <|
    .st (.act none (.px (some 26) (.bin .add (.v 16) (.c (.int .i64 1))))) <|
    .st (.act none (.px (some 16) (.mv (.v 26)))) .done
@[simp] def W32_3 := @C.wpe _ _ K32_3.eq_1
def K32_4 : C := .pl <| .st (.ext 26 1) <|
    .st (.act none (.px (some 26) (.bin .add (.v 19) (.c (.int .i64 1))))) <|
    .st (.act none (.px (some 19) (.mv (.v 26)))) .done
@[simp] def W32_4 := @C.wpe _ _ K32_4.eq_1
def K32_5 : C := .pl <| .st (.ext 26 1) <|
    .st (.act none (.px (some 26) (.bin .add (.v 22) (.c (.int .i64 1))))) <|
    .st (.act none (.px (some 22) (.mv (.v 26)))) .done
@[simp] def W32_5 := @C.wpe _ _ K32_5.eq_1
def K32_6 : C := .pl <| .st (.ext 26 1) <|
    .st (.act none (.px (some 26) (.bin .add (.v 25) (.c (.int .i64 1))))) <|
    .st (.act none (.px (some 25) (.mv (.v 26)))) .done
@[simp] def W32_6 := @C.wpe _ _ K32_6.eq_1
def K32_7 : Pl := .st (.act none (.px (some 5) (.mv (.v 33)))) .done
@[simp] def W32_7 := @Pl.wpe _ _ K32_7.eq_1
def K32_8 : C := .pl <| .st (.ext 26 8) <|
    .st (.act none (.px (some 26) (.mv (.v 5)))) <|
    .st (.act none (.px (some 27) (.mv (.v 6)))) <|
    .st (.act none (.px (some 28) (.mv (.v 8)))) <|
    .st (.act none (.px (some 29) (.mv (.v 10)))) <|
    .st (.act none (.px (some 30) (.mv (.v 12)))) <|
    .st (.act none (.px (some 31) (.build [.int .i64 0, .int .i64 0, .int .i64 0, .int .i64 0] [(0, 1, .v 27), (1, 1, .v 28), (2, 1, .v 29), (3, 1, .v 30)]))) <|
    .st (.act none (.psl 32 [.int .i64 0, .int .i64 0, .int .i64 0, .int .i64 0] [(0, 4, .v 31)])) <|
    .st (.act none (.ex (some 33) (.app 32 4 [.int .i64 0, .int .i64 0, .int .i64 0, .int .i64 0] (.o (.v 26)) (.p 1 32)))) K32_7
@[simp] def W32_8 := @C.wpe _ _ K32_8.eq_1
def K32_9 : C := .cond 26 (.v 43) K32_8 (.skip)
@[simp] def W32_9 := @C.wpe _ _ K32_9.eq_1
def K32_10 : Pl := .st (.act none (.px (some 43) (.pick (.v 37) (.v 42) (.c (.bool false))))) .done
@[simp] def W32_10 := @Pl.wpe _ _ K32_10.eq_1
def K32_11 : C := .seq (.pl <| .st (.ext 26 18) <|
    .st (.act none (.px (some 26) (.mv (.v 10)))) <|
    .st (.act none (.px (some 27) (.mv (.v 6)))) <|
    .st (.act none (.px (some 28) (.bin .neq (.v 26) (.v 27)))) <|
    .st (.act none (.px (some 29) (.mv (.v 28)))) <|
    .st (.act (some (.v 29, true)) (.als 30 none 13)) <|
    .st (.act (some (.v 29, true)) (.pget (some 31) (some 30) 13 9 none)) <|
    .st (.act (some (.v 29, true)) (.als 32 none 9)) <|
    .st (.act (some (.v 29, true)) (.pget (some 33) (some 32) 9 9 none)) <|
    .st (.act (some (.v 29, true)) (.px (some 34) (.un .neg (.v 33)))) <|
    .st (.act (some (.v 29, true)) (.px (some 35) (.bin .eql (.v 31) (.v 34)))) <|
    .st (.act none (.px (some 36) (.pick (.v 29) (.v 35) (.c (.bool false))))) <|
    .st (.act none (.px (some 37) (.mv (.v 36)))) <|
    .st (.act (some (.v 37, true)) (.pget (some 38) none 2 0 (some 2))) <|
    .st (.act (some (.v 37, true)) (.pget (some 39) none 3 0 (some 2))) <|
    .st (.act (some (.v 37, true)) (.px (some 40) (.mv (.v 10)))) <|
    .st (.act (some (.v 37, true)) (.px (some 41) (.mv (.v 12)))) <|
    .st (.act (some (.v 37, true)) (.ex (some 42) (.call fn_impl_System_ready [.v 38, .v 39, .v 40, .v 41]))) K32_10) K32_9
@[simp] def W32_11 := @C.wpe _ _ K32_11.eq_1
def K32_12 : C := .seq (.block 8 (.seq (.pl <| .st (.ext 26 3) <|
    .st (.act none (.px (some 26) (.mv (.v 25)))) <|
    .st (.act none (.px (some 27) (.ia 10 (.v 23) (.v 25)))) <|
    .st (.act none (.ld (some 28) (.v 27) (some 10))) <|
    .st (.act none (.pnew 13 (.c (.agg #[.int .i64 0, .int .i64 0, .int .i64 0, .int .i64 0, .slice none 0 0, .int .i64 0, .int .i64 0, .int .i64 0, .slice none 0 0, .int .i64 0])) [])) <|
    .st (.act none (.px (some 12) (.mv (.v 26)))) <|
    .st (.act none (.pset none 13 0 10 (.v 28))) .done) K32_11)) K32_6
@[simp] def W32_12 := @C.wpe _ _ K32_12.eq_1
def K32_13 : C := .seq (.cond 26 (.v 26) (.skip) (.exit 7)) K32_12
@[simp] def W32_13 := @C.wpe _ _ K32_13.eq_1
def K32_14 : C := .seq (.pl <| .st (.ext 26 1) <|
    .st (.act none (.px (some 26) (.bin .lss (.v 25) (.v 24)))) .done) K32_13
@[simp] def W32_14 := @C.wpe _ _ K32_14.eq_1
def K32_15 : C := .block 7 (.loop 26 [0, 1, 4, 7, 11, 12, 13] K32_14)
@[simp] def W32_15 := @C.wpe _ _ K32_15.eq_1
def K32_16 : C := .seq (.pl <| .st (.ext 26 1) <|
    .st (.act none (.als 26 none 11)) <|
    .st (.act none (.pget (some 23) (some 26) 11 1 none)) <|
    .st (.act none (.px (some 24) (.lenV (.v 23)))) <|
    .st (.act none (.px (some 25) (.mv (.c (.int .i64 0))))) .done) K32_15
@[simp] def W32_16 := @C.wpe _ _ K32_16.eq_1
def K32_17 : C := .seq (.block 6 (.seq (.pl <| .st (.ext 26 3) <|
    .st (.act none (.px (some 26) (.mv (.v 22)))) <|
    .st (.act none (.px (some 27) (.ia 2 (.v 20) (.v 22)))) <|
    .st (.act none (.ld (some 28) (.v 27) (some 2))) <|
    .st (.act none (.pnew 11 (.c (.agg #[.int .i64 0, .slice none 0 0])) [])) <|
    .st (.act none (.px (some 10) (.mv (.v 26)))) <|
    .st (.act none (.pset none 11 0 2 (.v 28))) .done) K32_16)) K32_5
@[simp] def W32_17 := @C.wpe _ _ K32_17.eq_1
def K32_18 : C := .seq (.cond 26 (.v 26) (.skip) (.exit 5)) K32_17
@[simp] def W32_18 := @C.wpe _ _ K32_18.eq_1
def K32_19 : C := .seq (.pl <| .st (.ext 26 1) <|
    .st (.act none (.px (some 26) (.bin .lss (.v 22) (.v 21)))) .done) K32_18
@[simp] def W32_19 := @C.wpe _ _ K32_19.eq_1
def K32_20 : C := .block 5 (.loop 26 [0, 1, 4, 7, 10, 11, 12, 13, 23, 24, 25] K32_19)
@[simp] def W32_20 := @C.wpe _ _ K32_20.eq_1
def K32_21 : C := .seq (.pl <| .st (.ext 26 1) <|
    .st (.act none (.als 26 none 2)) <|
    .st (.act none (.pget (some 20) (some 26) 2 1 none)) <|
    .st (.act none (.px (some 21) (.lenV (.v 20)))) <|
    .st (.act none (.px (some 22) (.mv (.c (.int .i64 0))))) .done) K32_20
@[simp] def W32_21 := @C.wpe _ _ K32_21.eq_1
def K32_22 : Pl := .st (.act none (.px (some 5) (.mv (.v 31)))) .done
@[simp] def W32_22 := @Pl.wpe _ _ K32_22.eq_1
def K32_23 : C := .seq (.pl <| .st (.ext 26 6) <|
    .st (.act none (.px (some 26) (.mv (.v 5)))) <|
    .st (.act none (.px (some 27) (.mv (.v 6)))) <|
    .st (.act none (.px (some 28) (.mv (.v 8)))) <|
    .st (.act none (.px (some 29) (.build [.int .i64 0, .int .i64 0, .int .i64 0, .int .i64 0] [(0, 1, .v 27), (1, 1, .v 28), (2, 1, .c (.int .i64 (-1))), (3, 1, .c (.int .i64 (-1)))]))) <|
    .st (.act none (.psl 30 [.int .i64 0, .int .i64 0, .int .i64 0, .int .i64 0] [(0, 4, .v 29)])) <|
    .st (.act none (.ex (some 31) (.app 32 4 [.int .i64 0, .int .i64 0, .int .i64 0, .int .i64 0] (.o (.v 26)) (.p 1 30)))) K32_22) (.exit 3)
@[simp] def W32_23 := @C.wpe _ _ K32_23.eq_1
def K32_24 : C := .cond 26 (.v 29) K32_23 (.skip)
@[simp] def W32_24 := @C.wpe _ _ K32_24.eq_1
def K32_25 : C := .seq (.pl <| .st (.ext 26 4) <|
    .st (.act none (.als 26 none 9)) <|
    .st (.act none (.pget (some 27) (some 26) 9 9 none)) <|
    .st (.act none (.px (some 28) (.bin .eql (.v 27) (.c (.int .i64 0))))) <|
    .st (.act none (.px (some 29) (.mv (.v 28)))) .done) K32_24
@[simp] def W32_25 := @C.wpe _ _ K32_25.eq_1
def K32_26 : C := .cond 26 (.v 37) (.exit 3) K32_25
@[simp] def W32_26 := @C.wpe _ _ K32_26.eq_1
def K32_27 : Pl := .st (.act none (.px (some 31) (.un .not (.v 30)))) <|
    .st (.act none (.px (some 32) (.mv (.v 31)))) <|
    .st (.act (some (.v 32, false)) (.als 33 none 9)) <|
    .st (.act (some (.v 32, false)) (.pget (some 34) (some 33) 9 9 none)) <|
    .st (.act (some (.v 32, false)) (.px (some 35) (.bin .lss (.v 34) (.c (.int .i64 0))))) <|
    .st (.act none (.px (some 36) (.pick (.v 32) (.c (.bool true)) (.v 35)))) <|
    .st (.act none (.px (some 37) (.mv (.v 36)))) .done
@[simp] def W32_27 := @Pl.wpe _ _ K32_27.eq_1
def K32_28 : C := .seq (.block 4 (.seq (.pl <| .st (.ext 26 12) <|
    .st (.act none (.pget (some 26) none 2 0 (some 2))) <|
    .st (.act none (.pget (some 27) none 3 0 (some 2))) <|
    .st (.act none (.px (some 28) (.mv (.v 6)))) <|
    .st (.act none (.px (some 29) (.mv (.v 8)))) <|
    .st (.act none (.ex (some 30) (.call fn_impl_System_ready [.v 26, .v 27, .v 28, .v 29]))) K32_27) K32_26)) K32_21
@[simp] def W32_28 := @C.wpe _ _ K32_28.eq_1
def K32_29 : C := .seq (.block 3 (.seq (.pl <| .st (.ext 26 3) <|
    .st (.act none (.px (some 26) (.mv (.v 19)))) <|
    .st (.act none (.px (some 27) (.ia 10 (.v 17) (.v 19)))) <|
    .st (.act none (.ld (some 28) (.v 27) (some 10))) <|
    .st (.act none (.pnew 9 (.c (.agg #[.int .i64 0, .int .i64 0, .int .i64 0, .int .i64 0, .slice none 0 0, .int .i64 0, .int .i64 0, .int .i64 0, .slice none 0 0, .int .i64 0])) [])) <|
    .st (.act none (.px (some 8) (.mv (.v 26)))) <|
    .st (.act none (.pset none 9 0 10 (.v 28))) .done) K32_28)) K32_4
@[simp] def W32_29 := @C.wpe _ _ K32_29.eq_1
def K32_30 : C := .seq (.cond 26 (.v 26) (.skip) (.exit 2)) K32_29
@[simp] def W32_30 := @C.wpe _ _ K32_30.eq_1
def K32_31 : C := .seq (.pl <| .st (.ext 26 1) <|
    .st (.act none (.px (some 26) (.bin .lss (.v 19) (.v 18)))) .done) K32_30
@[simp] def W32_31 := @C.wpe _ _ K32_31.eq_1
def K32_32 : C := .block 2 (.loop 26 [0, 1, 4, 7, 8, 9, 10, 11, 12, 13, 20, 21, 22, 23, 24, 25] K32_31)
@[simp] def W32_32 := @C.wpe _ _ K32_32.eq_1
def K32_33 : C := .seq (.pl <| .st (.ext 26 1) <|
    .st (.act none (.als 26 none 7)) <|
    .st (.act none (.pget (some 17) (some 26) 7 1 none)) <|
    .st (.act none (.px (some 18) (.lenV (.v 17)))) <|
    .st (.act none (.px (some 19) (.mv (.c (.int .i64 0))))) .done) K32_32
@[simp] def W32_33 := @C.wpe _ _ K32_33.eq_1
def K32_34 : C := .seq (.block 1 (.seq (.pl <| .st (.ext 26 3) <|
    .st (.act none (.px (some 26) (.mv (.v 16)))) <|
    .st (.act none (.px (some 27) (.ia 2 (.v 14) (.v 16)))) <|
    .st (.act none (.ld (some 28) (.v 27) (some 2))) <|
    .st (.act none (.pnew 7 (.c (.agg #[.int .i64 0, .slice none 0 0])) [])) <|
    .st (.act none (.px (some 6) (.mv (.v 26)))) <|
    .st (.act none (.pset none 7 0 2 (.v 28))) .done) K32_33)) K32_3
@[simp] def W32_34 := @C.wpe _ _ K32_34.eq_1
def K32_35 : C := .seq (.cond 26 (.v 26) (.skip) (.exit 0)) K32_34
@[simp] def W32_35 := @C.wpe _ _ K32_35.eq_1
def K32_36 : C := .seq (.pl <| .st (.ext 26 1) <|
    .st (.act none (.px (some 26) (.bin .lss (.v 16) (.v 15)))) .done) K32_35
@[simp] def W32_36 := @C.wpe _ _ K32_36.eq_1
def K32_37 : C := .block 0 (.loop 26 [0, 1, 4, 6, 7, 8, 9, 10, 11, 12, 13, 17, 18, 19, 20, 21, 22, 23, 24, 25] K32_36)
@[simp] def W32_37 := @C.wpe _ _ K32_37.eq_1
def K32_38 : C := .seq (.seq (.pl <| .st (.ext 26 1) <|
    .st (.act none (.als 26 none 2)) <|
    .st (.act none (.pget (some 14) (some 26) 2 1 none)) <|
    .st (.act none (.px (some 15) (.lenV (.v 14)))) <|
    .st (.act none (.px (some 16) (.mv (.c (.int .i64 0))))) .done) K32_37) K32_2
@[simp] def W32_38 := @C.wpe _ _ K32_38.eq_1
def K32_39 : C := .seq (.pl <| .st (.ext 26 0) <|
    .st (.act none (.px (some 5) (.mv (.c (.slice none 0 0))))) .done) K32_38
@[simp] def W32_39 := @C.wpe _ _ K32_39.eq_1
def B_impl_System_enabled : C := .seq (.pl <| .st (.ext 26 0) <|
    .st (.act none (.pnew 2 (.v 0) [])) <|
    .st (.act none (.pnew 3 (.v 1) [])) <|
    .st (.act none (.px (some 4) (.mv (.c (.slice none 0 0))))) .done) K32_39
@[simp] def WB_impl_System_enabled := @C.wpe _ _ B_impl_System_enabled.eq_1
def R_impl_System_enabled : FIR := ⟨B_impl_System_enabled, 26, [(4, none)]⟩
theorem IR_impl_System_enabled : cfun Try.prog H_impl_System_enabled Try.f32 = some R_impl_System_enabled := by kernel_rfl
theorem EN_impl_System_enabled {args : List Value} {h : Heap} {k : Value → Heap → Prop} (hargs : args.length = 2) (hw : B_impl_System_enabled.wp Try.prog (retQ [(4, none)] k) (env0 args 26) h) : CallE Try.prog fn_impl_System_enabled args h k := enter Try.func32 rfl IR_impl_System_enabled hargs hw

def H_impl_System_initial : Hint := ⟨[(0, false), (1, true), (2, true)], []⟩
def K66_1 : Pl := .st (.act none (.px (some 10) (.build [.slice none 0 0, .slice none 0 0] [(0, 1, .v 6), (1, 1, .v 9)]))) <|
    .st (.act none (.pset none 2 0 2 (.v 10))) .done
@[simp] def W66_1 := @Pl.wpe _ _ K66_1.eq_1
def K66_2 : Pl := .st (.act none (.ex (some 9) (.call fn_impl_clone_int [.v 8]))) K66_1
@[simp] def W66_2 := @Pl.wpe _ _ K66_2.eq_1
def K66_3 : Pl := .st (.act none (.ex (some 6) (.mks 8 1 [.int .i64 0] (.v 5) (.v 5)))) K66_2
@[simp] def W66_3 := @Pl.wpe _ _ K66_3.eq_1
def K66_4 : Pl := .st (.act none (.px (some 10) (.build [.slice none 0 0, .slice none 0 0] [(0, 1, .v 6), (1, 1, .v 9)]))) <|
    .st (.act none (.pset none 2 0 2 (.v 10))) .done
@[simp] def W66_4 := @Pl.wpe _ _ K66_4.eq_1
def K66_5 : Pl := .st (.act none (.ex (some 6) (.mks 8 1 [.int .i64 0] (.v 5) (.v 5)))) K66_4
@[simp] def W66_5 := @Pl.wpe _ _ K66_5.eq_1
def K66_6 : Pl := .st (.act none (.ex (some 9) (.call fn_impl_clone_int [.v 8]))) K66_5
@[simp] def W66_6 := @Pl.wpe _ _ K66_6.eq_1
def K66_7 : C := .seq (.pl <| .st (.ext 3 8) <|
    .st (.act none (.als 3 none 1)) <|
    .st (.act none (.pget (some 4) (some 3) 1 1 none)) <|
    .st (.act none (.px (some 5) (.lenV (.v 4)))) <|
    .st (.act none (.als 7 none 1)) <|
    .st (.act none (.pget (some 8) (some 7) 1 0 none)) <|
    .both K66_3 K66_6) (.ret)
@[simp] def W66_7 := @C.wpe _ _ K66_7.eq_1
def B_impl_System_initial : C := .seq (.pl <| .st (.ext 3 0) <|
    .st (.act none (.pnew 1 (.v 0) [])) <|
    .st (.act none (.pnew 2 (.c (.agg #[.slice none 0 0, .slice none 0 0])) [])) .done) K66_7
@[simp] def WB_impl_System_initial := @C.wpe _ _ B_impl_System_initial.eq_1
def R_impl_System_initial : FIR := ⟨B_impl_System_initial, 3, [(2, some (some 2))]⟩
theorem IR_impl_System_initial : cfun Try.prog H_impl_System_initial Try.f66 = some R_impl_System_initial := by kernel_rfl
theorem EN_impl_System_initial {args : List Value} {h : Heap} {k : Value → Heap → Prop} (hargs : args.length = 1) (hw : B_impl_System_initial.wp Try.prog (retQ [(2, some (some 2))] k) (env0 args 3) h) : CallE Try.prog fn_impl_System_initial args h k := enter Try.func66 rfl IR_impl_System_initial hargs hw

def H_impl_System_ready : Hint := ⟨[(0, false), (1, false), (2, false), (3, false), (4, true), (5, true), (8, false), (9, true)], []⟩
def K58_1 : Pl := .st (.act (some (.v 16, true)) (.px (some 22) (.bin .neq (.v 21) (.c (.int .i64 0))))) <|
    .st (.act none (.px (some 23) (.pick (.v 16) (.v 22) (.c (.bool false))))) <|
    .st (.act none (.px (some 6) (.mv (.v 23)))) .done
@[simp] def W58_1 := @Pl.wpe _ _ K58_1.eq_1
def K58_2 : C := .seq (.pl <| .st (.ext 8 16) <|
    .st (.act none (.als 8 none 5)) <|
    .st (.act none (.pget (some 9) (some 8) 5 0 none)) <|
    .st (.act none (.px (some 10) (.mv (.v 2)))) <|
    .st (.act none (.px (some 11) (.ia 1 (.v 9) (.v 10)))) <|
    .st (.act none (.ld (some 12) (.v 11) none)) <|
    .st (.act none (.als 13 none 7)) <|
    .st (.act none (.pget (some 14) (some 13) 7 0 none)) <|
    .st (.act none (.px (some 15) (.bin .eql (.v 12) (.v 14)))) <|
    .st (.act none (.px (some 16) (.mv (.v 15)))) <|
    .st (.act (some (.v 16, true)) (.als 17 none 7)) <|
    .st (.act (some (.v 16, true)) (.pget (some 18) (some 17) 7 2 (some 3))) <|
    .st (.act (some (.v 16, true)) (.als 19 none 5)) <|
    .st (.act (some (.v 16, true)) (.pget (some 20) (some 19) 5 1 none)) <|
    .st (.act (some (.v 16, true)) (.ex (some 21) (.call fn_impl_Expr_eval [.v 18, .v 20]))) K58_1) (.ret)
@[simp] def W58_2 := @C.wpe _ _ K58_2.eq_1
def K58_3 : C := .seq (.pl <| .st (.ext 8 9) <|
    .st (.act none (.als 8 none 4)) <|
    .st (.act none (.pget (some 9) (some 8) 4 1 none)) <|
    .st (.act none (.px (some 10) (.mv (.v 2)))) <|
    .st (.act none (.px (some 11) (.ia 2 (.v 9) (.v 10)))) <|
    .st (.act none (.px (some 12) (.fa 1 (.v 11)))) <|
    .st (.act none (.ld (some 13) (.v 12) none)) <|
    .st (.act none (.px (some 14) (.mv (.v 3)))) <|
    .st (.act none (.px (some 15) (.ia 10 (.v 13) (.v 14)))) <|
    .st (.act none (.ld (some 16) (.v 15) (some 10))) <|
    .st (.act none (.pnew 7 (.c (.agg #[.int .i64 0, .int .i64 0, .int .i64 0, .int .i64 0, .slice none 0 0, .int .i64 0, .int .i64 0, .int .i64 0, .slice none 0 0, .int .i64 0])) [])) <|
    .st (.act none (.pset none 7 0 10 (.v 16))) .done) K58_2
@[simp] def W58_3 := @C.wpe _ _ K58_3.eq_1
def B_impl_System_ready : C := .seq (.pl <| .st (.ext 8 0) <|
    .st (.act none (.pnew 4 (.v 0) [])) <|
    .st (.act none (.pnew 5 (.v 1) [])) <|
    .st (.act none (.px (some 6) (.mv (.c (.bool false))))) .done) K58_3
@[simp] def WB_impl_System_ready := @C.wpe _ _ B_impl_System_ready.eq_1
def R_impl_System_ready : FIR := ⟨B_impl_System_ready, 8, [(6, none)]⟩
theorem IR_impl_System_ready : cfun Try.prog H_impl_System_ready Try.f58 = some R_impl_System_ready := by kernel_rfl
theorem EN_impl_System_ready {args : List Value} {h : Heap} {k : Value → Heap → Prop} (hargs : args.length = 4) (hw : B_impl_System_ready.wp Try.prog (retQ [(6, none)] k) (env0 args 8) h) : CallE Try.prog fn_impl_System_ready args h k := enter Try.func58 rfl IR_impl_System_ready hargs hw

def H_impl_clone_int : Hint := ⟨[(0, false), (2, false)], []⟩
def K87_1 : Pl := .st (.act none (.px (some 1) (.mv (.v 4)))) .done
@[simp] def W87_1 := @Pl.wpe _ _ K87_1.eq_1
def K87_2 : Pl := .st (.act none (.ex (some 4) (.call fn_slices_Clip_S_int_int [.v 3]))) K87_1
@[simp] def W87_2 := @Pl.wpe _ _ K87_2.eq_1
def K87_3 : C := .seq (.pl <| .st (.ext 2 3) <|
    .st (.act none (.px (some 2) (.mv (.v 0)))) <|
    .st (.act none (.ex (some 3) (.call fn_slices_Clone_S_int_int [.v 2]))) K87_2) (.ret)
@[simp] def W87_3 := @C.wpe _ _ K87_3.eq_1
def B_impl_clone_int : C := .seq (.pl <| .st (.ext 2 0) <|
    .st (.act none (.px (some 1) (.mv (.c (.slice none 0 0))))) .done) K87_3
@[simp] def WB_impl_clone_int := @C.wpe _ _ B_impl_clone_int.eq_1
def R_impl_clone_int : FIR := ⟨B_impl_clone_int, 2, [(1, none)]⟩
theorem IR_impl_clone_int : cfun Try.prog H_impl_clone_int Try.f87 = some R_impl_clone_int := by kernel_rfl
theorem EN_impl_clone_int {args : List Value} {h : Heap} {k : Value → Heap → Prop} (hargs : args.length = 1) (hw : B_impl_clone_int.wp Try.prog (retQ [(1, none)] k) (env0 args 2) h) : CallE Try.prog fn_impl_clone_int args h k := enter Try.func87 rfl IR_impl_clone_int hargs hw

def H_impl_in : Hint := ⟨[(0, false), (1, false), (2, false), (6, false)], []⟩
def K31_1 : C := .seq (.pl <| .st (.ext 4 8) <|
    .st (.act none (.px (some 4) (.mv (.v 0)))) <|
    .st (.act none (.px (some 5) (.mv (.v 1)))) <|
    .st (.act none (.px (some 6) (.bin .geq (.v 4) (.v 5)))) <|
    .st (.act none (.px (some 7) (.mv (.v 6)))) <|
    .st (.act (some (.v 7, true)) (.px (some 8) (.mv (.v 0)))) <|
    .st (.act (some (.v 7, true)) (.px (some 9) (.mv (.v 2)))) <|
    .st (.act (some (.v 7, true)) (.px (some 10) (.bin .leq (.v 8) (.v 9)))) <|
    .st (.act none (.px (some 11) (.pick (.v 7) (.v 10) (.c (.bool false))))) <|
    .st (.act none (.px (some 3) (.mv (.v 11)))) .done) (.ret)
@[simp] def W31_1 := @C.wpe _ _ K31_1.eq_1
def B_impl_in : C := .seq (.pl <| .st (.ext 4 0) <|
    .st (.act none (.px (some 3) (.mv (.c (.bool false))))) .done) K31_1
@[simp] def WB_impl_in := @C.wpe _ _ B_impl_in.eq_1
def R_impl_in : FIR := ⟨B_impl_in, 4, [(3, none)]⟩
theorem IR_impl_in : cfun Try.prog H_impl_in Try.f31 = some R_impl_in := by kernel_rfl
theorem EN_impl_in {args : List Value} {h : Heap} {k : Value → Heap → Prop} (hargs : args.length = 3) (hw : B_impl_in.wp Try.prog (retQ [(3, none)] k) (env0 args 4) h) : CallE Try.prog fn_impl_in args h k := enter Try.func31 rfl IR_impl_in hargs hw

def H_impl_truth : Hint := ⟨[(0, false), (2, false)], []⟩
def K45_1 : C := .seq (.pl <| .st (.ext 2 0) <|
    .st (.act none (.px (some 1) (.mv (.c (.int .i64 0))))) .done) (.ret)
@[simp] def W45_1 := @C.wpe _ _ K45_1.eq_1
def K45_2 : C := .seq (.pl <| .st (.ext 2 0) <|
    .st (.act none (.px (some 1) (.mv (.c (.int .i64 1))))) .done) (.ret)
@[simp] def W45_2 := @C.wpe _ _ K45_2.eq_1
def K45_3 : C := .cond 2 (.v 2) K45_2 (.skip)
@[simp] def W45_3 := @C.wpe _ _ K45_3.eq_1
def K45_4 : C := .seq (.seq (.pl <| .st (.ext 2 1) <|
    .st (.act none (.px (some 2) (.mv (.v 0)))) .done) K45_3) K45_1
@[simp] def W45_4 := @C.wpe _ _ K45_4.eq_1
def B_impl_truth : C := .seq (.pl <| .st (.ext 2 0) <|
    .st (.act none (.px (some 1) (.mv (.c (.int .i64 0))))) .done) K45_4
@[simp] def WB_impl_truth := @C.wpe _ _ B_impl_truth.eq_1
def R_impl_truth : FIR := ⟨B_impl_truth, 2, [(1, none)]⟩
theorem IR_impl_truth : cfun Try.prog H_impl_truth Try.f45 = some R_impl_truth := by kernel_rfl
theorem EN_impl_truth {args : List Value} {h : Heap} {k : Value → Heap → Prop} (hargs : args.length = 1) (hw : B_impl_truth.wp Try.prog (retQ [(1, none)] k) (env0 args 2) h) : CallE Try.prog fn_impl_truth args h k := enter Try.func45 rfl IR_impl_truth hargs hw

def H_impl_valsOk : Hint := ⟨[(0, false), (2, false)], []⟩
def K62_1 : Pl := .st (.act (some (.v 5, true)) (.px (some 8) (.un .not (.v 7)))) <|
    .st (.act none (.px (some 9) (.pick (.v 5) (.v 8) (.c (.bool false))))) <|
    .st (.act none (.px (some 1) (.mv (.v 9)))) .done
@[simp] def W62_1 := @Pl.wpe _ _ K62_1.eq_1
def K62_2 : C := .seq (.pl <| .st (.ext 2 8) <|
    .st (.act none (.px (some 2) (.mv (.v 0)))) <|
    .st (.act none (.px (some 3) (.lenV (.v 2)))) <|
    .st (.act none (.px (some 4) (.bin .eql (.v 3) (.c (.int .i64 3))))) <|
    .st (.act none (.px (some 5) (.mv (.v 4)))) <|
    .st (.act (some (.v 5, true)) (.px (some 6) (.mv (.v 0)))) <|
    .st (.act (some (.v 5, true)) (.ex (some 7) (.call fn_slices_ContainsFunc_S_int_int [.v 6, .c (.func (.func 84) #[] #[])]))) K62_1) (.ret)
@[simp] def W62_2 := @C.wpe _ _ K62_2.eq_1
def B_impl_valsOk : C := .seq (.pl <| .st (.ext 2 0) <|
    .st (.act none (.px (some 1) (.mv (.c (.bool false))))) .done) K62_2
@[simp] def WB_impl_valsOk := @C.wpe _ _ B_impl_valsOk.eq_1
def R_impl_valsOk : FIR := ⟨B_impl_valsOk, 2, [(1, none)]⟩
theorem IR_impl_valsOk : cfun Try.prog H_impl_valsOk Try.f62 = some R_impl_valsOk := by kernel_rfl
theorem EN_impl_valsOk {args : List Value} {h : Heap} {k : Value → Heap → Prop} (hargs : args.length = 1) (hw : B_impl_valsOk.wp Try.prog (retQ [(1, none)] k) (env0 args 2) h) : CallE Try.prog fn_impl_valsOk args h k := enter Try.func62 rfl IR_impl_valsOk hargs hw

def H_impl_valsOk_1 : Hint := ⟨[(0, false), (2, false)], []⟩
def K84_1 : Pl := .st (.act none (.px (some 4) (.un .not (.v 3)))) <|
    .st (.act none (.px (some 1) (.mv (.v 4)))) .done
@[simp] def W84_1 := @Pl.wpe _ _ K84_1.eq_1
def K84_2 : C := .seq (.pl <| .st (.ext 2 3) <|
    .st (.act none (.px (some 2) (.mv (.v 0)))) <|
    .st (.act none (.ex (some 3) (.call fn_impl_in [.v 2, .c (.int .i64 0), .c (.int .i64 3)]))) K84_1) (.ret)
@[simp] def W84_2 := @C.wpe _ _ K84_2.eq_1
def B_impl_valsOk_1 : C := .seq (.pl <| .st (.ext 2 0) <|
    .st (.act none (.px (some 1) (.mv (.c (.bool false))))) .done) K84_2
@[simp] def WB_impl_valsOk_1 := @C.wpe _ _ B_impl_valsOk_1.eq_1
def R_impl_valsOk_1 : FIR := ⟨B_impl_valsOk_1, 2, [(1, none)]⟩
theorem IR_impl_valsOk_1 : cfun Try.prog H_impl_valsOk_1 Try.f84 = some R_impl_valsOk_1 := by kernel_rfl
theorem EN_impl_valsOk_1 {args : List Value} {h : Heap} {k : Value → Heap → Prop} (hargs : args.length = 1) (hw : B_impl_valsOk_1.wp Try.prog (retQ [(1, none)] k) (env0 args 2) h) : CallE Try.prog fn_impl_valsOk_1 args h k := enter Try.func84 rfl IR_impl_valsOk_1 hargs hw

def H_slices_Clip_S_S_int_S_int : Hint := ⟨[(0, false), (2, false)], []⟩
def K73_1 : C := .seq (.pl <| .st (.ext 2 6) <|
    .st (.act none (.px (some 2) (.mv (.v 0)))) <|
    .st (.act none (.px (some 3) (.mv (.v 0)))) <|
    .st (.act none (.px (some 4) (.lenV (.v 3)))) <|
    .st (.act none (.px (some 5) (.mv (.v 0)))) <|
    .st (.act none (.px (some 6) (.lenV (.v 5)))) <|
    .st (.act none (.px (some 7) (.sliceV 1 (.v 2) none (some (.v 4)) (some (.v 6))))) <|
    .st (.act none (.px (some 1) (.mv (.v 7)))) .done) (.ret)
@[simp] def W73_1 := @C.wpe _ _ K73_1.eq_1
def B_slices_Clip_S_S_int_S_int : C := .seq (.pl <| .st (.ext 2 0) <|
    .st (.act none (.px (some 1) (.mv (.c (.slice none 0 0))))) .done) K73_1
@[simp] def WB_slices_Clip_S_S_int_S_int := @C.wpe _ _ B_slices_Clip_S_S_int_S_int.eq_1
def R_slices_Clip_S_S_int_S_int : FIR := ⟨B_slices_Clip_S_S_int_S_int, 2, [(1, none)]⟩
theorem IR_slices_Clip_S_S_int_S_int : cfun Try.prog H_slices_Clip_S_S_int_S_int Try.f73 = some R_slices_Clip_S_S_int_S_int := by kernel_rfl
theorem EN_slices_Clip_S_S_int_S_int {args : List Value} {h : Heap} {k : Value → Heap → Prop} (hargs : args.length = 1) (hw : B_slices_Clip_S_S_int_S_int.wp Try.prog (retQ [(1, none)] k) (env0 args 2) h) : CallE Try.prog fn_slices_Clip_S_S_int_S_int args h k := enter Try.func73 rfl IR_slices_Clip_S_S_int_S_int hargs hw

def H_slices_Clip_S_impl_State_impl_State : Hint := ⟨[(0, false), (2, false)], []⟩
def K72_1 : C := .seq (.pl <| .st (.ext 2 6) <|
    .st (.act none (.px (some 2) (.mv (.v 0)))) <|
    .st (.act none (.px (some 3) (.mv (.v 0)))) <|
    .st (.act none (.px (some 4) (.lenV (.v 3)))) <|
    .st (.act none (.px (some 5) (.mv (.v 0)))) <|
    .st (.act none (.px (some 6) (.lenV (.v 5)))) <|
    .st (.act none (.px (some 7) (.sliceV 2 (.v 2) none (some (.v 4)) (some (.v 6))))) <|
    .st (.act none (.px (some 1) (.mv (.v 7)))) .done) (.ret)
@[simp] def W72_1 := @C.wpe _ _ K72_1.eq_1
def B_slices_Clip_S_impl_State_impl_State : C := .seq (.pl <| .st (.ext 2 0) <|
    .st (.act none (.px (some 1) (.mv (.c (.slice none 0 0))))) .done) K72_1
@[simp] def WB_slices_Clip_S_impl_State_impl_State := @C.wpe _ _ B_slices_Clip_S_impl_State_impl_State.eq_1
def R_slices_Clip_S_impl_State_impl_State : FIR := ⟨B_slices_Clip_S_impl_State_impl_State, 2, [(1, none)]⟩
theorem IR_slices_Clip_S_impl_State_impl_State : cfun Try.prog H_slices_Clip_S_impl_State_impl_State Try.f72 = some R_slices_Clip_S_impl_State_impl_State := by kernel_rfl
theorem EN_slices_Clip_S_impl_State_impl_State {args : List Value} {h : Heap} {k : Value → Heap → Prop} (hargs : args.length = 1) (hw : B_slices_Clip_S_impl_State_impl_State.wp Try.prog (retQ [(1, none)] k) (env0 args 2) h) : CallE Try.prog fn_slices_Clip_S_impl_State_impl_State args h k := enter Try.func72 rfl IR_slices_Clip_S_impl_State_impl_State hargs hw

def H_slices_Clip_S_impl_Step_impl_Step : Hint := ⟨[(0, false), (2, false)], []⟩
def K59_1 : C := .seq (.pl <| .st (.ext 2 6) <|
    .st (.act none (.px (some 2) (.mv (.v 0)))) <|
    .st (.act none (.px (some 3) (.mv (.v 0)))) <|
    .st (.act none (.px (some 4) (.lenV (.v 3)))) <|
    .st (.act none (.px (some 5) (.mv (.v 0)))) <|
    .st (.act none (.px (some 6) (.lenV (.v 5)))) <|
    .st (.act none (.px (some 7) (.sliceV 4 (.v 2) none (some (.v 4)) (some (.v 6))))) <|
    .st (.act none (.px (some 1) (.mv (.v 7)))) .done) (.ret)
@[simp] def W59_1 := @C.wpe _ _ K59_1.eq_1
def B_slices_Clip_S_impl_Step_impl_Step : C := .seq (.pl <| .st (.ext 2 0) <|
    .st (.act none (.px (some 1) (.mv (.c (.slice none 0 0))))) .done) K59_1
@[simp] def WB_slices_Clip_S_impl_Step_impl_Step := @C.wpe _ _ B_slices_Clip_S_impl_Step_impl_Step.eq_1
def R_slices_Clip_S_impl_Step_impl_Step : FIR := ⟨B_slices_Clip_S_impl_Step_impl_Step, 2, [(1, none)]⟩
theorem IR_slices_Clip_S_impl_Step_impl_Step : cfun Try.prog H_slices_Clip_S_impl_Step_impl_Step Try.f59 = some R_slices_Clip_S_impl_Step_impl_Step := by kernel_rfl
theorem EN_slices_Clip_S_impl_Step_impl_Step {args : List Value} {h : Heap} {k : Value → Heap → Prop} (hargs : args.length = 1) (hw : B_slices_Clip_S_impl_Step_impl_Step.wp Try.prog (retQ [(1, none)] k) (env0 args 2) h) : CallE Try.prog fn_slices_Clip_S_impl_Step_impl_Step args h k := enter Try.func59 rfl IR_slices_Clip_S_impl_Step_impl_Step hargs hw

def H_slices_Clip_S_int_int : Hint := ⟨[(0, false), (2, false)], []⟩
def K71_1 : C := .seq (.pl <| .st (.ext 2 6) <|
    .st (.act none (.px (some 2) (.mv (.v 0)))) <|
    .st (.act none (.px (some 3) (.mv (.v 0)))) <|
    .st (.act none (.px (some 4) (.lenV (.v 3)))) <|
    .st (.act none (.px (some 5) (.mv (.v 0)))) <|
    .st (.act none (.px (some 6) (.lenV (.v 5)))) <|
    .st (.act none (.px (some 7) (.sliceV 1 (.v 2) none (some (.v 4)) (some (.v 6))))) <|
    .st (.act none (.px (some 1) (.mv (.v 7)))) .done) (.ret)
@[simp] def W71_1 := @C.wpe _ _ K71_1.eq_1
def B_slices_Clip_S_int_int : C := .seq (.pl <| .st (.ext 2 0) <|
    .st (.act none (.px (some 1) (.mv (.c (.slice none 0 0))))) .done) K71_1
@[simp] def WB_slices_Clip_S_int_int := @C.wpe _ _ B_slices_Clip_S_int_int.eq_1
def R_slices_Clip_S_int_int : FIR := ⟨B_slices_Clip_S_int_int, 2, [(1, none)]⟩
theorem IR_slices_Clip_S_int_int : cfun Try.prog H_slices_Clip_S_int_int Try.f71 = some R_slices_Clip_S_int_int := by kernel_rfl
theorem EN_slices_Clip_S_int_int {args : List Value} {h : Heap} {k : Value → Heap → Prop} (hargs : args.length = 1) (hw : B_slices_Clip_S_int_int.wp Try.prog (retQ [(1, none)] k) (env0 args 2) h) : CallE Try.prog fn_slices_Clip_S_int_int args h k := enter Try.func71 rfl IR_slices_Clip_S_int_int hargs hw

def H_slices_Clone_S_int_int : Hint := ⟨[(0, false), (2, false)], []⟩
def K98_1 : Pl := .st (.act none (.px (some 1) (.mv (.v 4)))) .done
@[simp] def W98_1 := @Pl.wpe _ _ K98_1.eq_1
def K98_2 : C := .seq (.pl <| .st (.ext 2 3) <|
    .st (.act none (.psl 2 [] [])) <|
    .st (.act none (.px (some 3) (.mv (.v 0)))) <|
    .st (.act none (.ex (some 4) (.app 8 1 [.int .i64 0] (.p 0 2) (.o (.v 3))))) K98_1) (.ret)
@[simp] def W98_2 := @C.wpe _ _ K98_2.eq_1
def K98_3 : C := .seq (.pl <| .st (.ext 2 0) <|
    .st (.act none (.px (some 1) (.mv (.c (.slice none 0 0))))) .done) (.ret)
@[simp] def W98_3 := @C.wpe _ _ K98_3.eq_1
def K98_4 : C := .cond 2 (.v 3) K98_3 (.skip)
@[simp] def W98_4 := @C.wpe _ _ K98_4.eq_1
def K98_5 : C := .seq (.seq (.pl <| .st (.ext 2 2) <|
    .st (.act none (.px (some 2) (.mv (.v 0)))) <|
    .st (.act none (.px (some 3) (.isNil false (.v 2)))) .done) K98_4) K98_2
@[simp] def W98_5 := @C.wpe _ _ K98_5.eq_1
def B_slices_Clone_S_int_int : C := .seq (.pl <| .st (.ext 2 0) <|
    .st (.act none (.px (some 1) (.mv (.c (.slice none 0 0))))) .done) K98_5
@[simp] def WB_slices_Clone_S_int_int := @C.wpe _ _ B_slices_Clone_S_int_int.eq_1
def R_slices_Clone_S_int_int : FIR := ⟨B_slices_Clone_S_int_int, 2, [(1, none)]⟩
theorem IR_slices_Clone_S_int_int : cfun Try.prog H_slices_Clone_S_int_int Try.f98 = some R_slices_Clone_S_int_int := by kernel_rfl
theorem EN_slices_Clone_S_int_int {args : List Value} {h : Heap} {k : Value → Heap → Prop} (hargs : args.length = 1) (hw : B_slices_Clone_S_int_int.wp Try.prog (retQ [(1, none)] k) (env0 args 2) h) : CallE Try.prog fn_slices_Clone_S_int_int args h k := enter Try.func98 rfl IR_slices_Clone_S_int_int hargs hw

def H_slices_ContainsFunc_S_impl_Edge_impl_Edge : Hint := ⟨[(0, false), (1, false), (4, false)], []⟩
def K63_1 : Pl := .st (.act none (.px (some 6) (.bin .geq (.v 5) (.c (.int .i64 0))))) <|
    .st (.act none (.px (some 2) (.mv (.v 6)))) .done
@[simp] def W63_1 := @Pl.wpe _ _ K63_1.eq_1
def K63_2 : C := .seq (.pl <| .st (.ext 3 4) <|
    .st (.act none (.px (some 3) (.mv (.v 0)))) <|
    .st (.act none (.px (some 4) (.mv (.v 1)))) <|
    .st (.act none (.ex (some 5) (.call fn_slices_IndexFunc_S_impl_Edge_impl_Edge [.v 3, .v 4]))) K63_1) (.ret)
@[simp] def W63_2 := @C.wpe _ _ K63_2.eq_1
def B_slices_ContainsFunc_S_impl_Edge_impl_Edge : C := .seq (.pl <| .st (.ext 3 0) <|
    .st (.act none (.px (some 2) (.mv (.c (.bool false))))) .done) K63_2
@[simp] def WB_slices_ContainsFunc_S_impl_Edge_impl_Edge := @C.wpe _ _ B_slices_ContainsFunc_S_impl_Edge_impl_Edge.eq_1
def R_slices_ContainsFunc_S_impl_Edge_impl_Edge : FIR := ⟨B_slices_ContainsFunc_S_impl_Edge_impl_Edge, 3, [(2, none)]⟩
theorem IR_slices_ContainsFunc_S_impl_Edge_impl_Edge : cfun Try.prog H_slices_ContainsFunc_S_impl_Edge_impl_Edge Try.f63 = some R_slices_ContainsFunc_S_impl_Edge_impl_Edge := by kernel_rfl
theorem EN_slices_ContainsFunc_S_impl_Edge_impl_Edge {args : List Value} {h : Heap} {k : Value → Heap → Prop} (hargs : args.length = 2) (hw : B_slices_ContainsFunc_S_impl_Edge_impl_Edge.wp Try.prog (retQ [(2, none)] k) (env0 args 3) h) : CallE Try.prog fn_slices_ContainsFunc_S_impl_Edge_impl_Edge args h k := enter Try.func63 rfl IR_slices_ContainsFunc_S_impl_Edge_impl_Edge hargs hw

def H_slices_ContainsFunc_S_impl_Expr_impl_Expr : Hint := ⟨[(0, false), (1, false), (4, false)], []⟩
def K92_1 : Pl := .st (.act none (.px (some 6) (.bin .geq (.v 5) (.c (.int .i64 0))))) <|
    .st (.act none (.px (some 2) (.mv (.v 6)))) .done
@[simp] def W92_1 := @Pl.wpe _ _ K92_1.eq_1
def K92_2 : C := .seq (.pl <| .st (.ext 3 4) <|
    .st (.act none (.px (some 3) (.mv (.v 0)))) <|
    .st (.act none (.px (some 4) (.mv (.v 1)))) <|
    .st (.act none (.ex (some 5) (.call fn_slices_IndexFunc_S_impl_Expr_impl_Expr [.v 3, .v 4]))) K92_1) (.ret)
@[simp] def W92_2 := @C.wpe _ _ K92_2.eq_1
def B_slices_ContainsFunc_S_impl_Expr_impl_Expr : C := .seq (.pl <| .st (.ext 3 0) <|
    .st (.act none (.px (some 2) (.mv (.c (.bool false))))) .done) K92_2
@[simp] def WB_slices_ContainsFunc_S_impl_Expr_impl_Expr := @C.wpe _ _ B_slices_ContainsFunc_S_impl_Expr_impl_Expr.eq_1
def R_slices_ContainsFunc_S_impl_Expr_impl_Expr : FIR := ⟨B_slices_ContainsFunc_S_impl_Expr_impl_Expr, 3, [(2, none)]⟩
theorem IR_slices_ContainsFunc_S_impl_Expr_impl_Expr : cfun Try.prog H_slices_ContainsFunc_S_impl_Expr_impl_Expr Try.f92 = some R_slices_ContainsFunc_S_impl_Expr_impl_Expr := by kernel_rfl
theorem EN_slices_ContainsFunc_S_impl_Expr_impl_Expr {args : List Value} {h : Heap} {k : Value → Heap → Prop} (hargs : args.length = 2) (hw : B_slices_ContainsFunc_S_impl_Expr_impl_Expr.wp Try.prog (retQ [(2, none)] k) (env0 args 3) h) : CallE Try.prog fn_slices_ContainsFunc_S_impl_Expr_impl_Expr args h k := enter Try.func92 rfl IR_slices_ContainsFunc_S_impl_Expr_impl_Expr hargs hw

def H_slices_ContainsFunc_S_int_int : Hint := ⟨[(0, false), (1, false), (4, false)], []⟩
def K83_1 : Pl := .st (.act none (.px (some 6) (.bin .geq (.v 5) (.c (.int .i64 0))))) <|
    .st (.act none (.px (some 2) (.mv (.v 6)))) .done
@[simp] def W83_1 := @Pl.wpe _ _ K83_1.eq_1
def K83_2 : C := .seq (.pl <| .st (.ext 3 4) <|
    .st (.act none (.px (some 3) (.mv (.v 0)))) <|
    .st (.act none (.px (some 4) (.mv (.v 1)))) <|
    .st (.act none (.ex (some 5) (.call fn_slices_IndexFunc_S_int_int [.v 3, .v 4]))) K83_1) (.ret)
@[simp] def W83_2 := @C.wpe _ _ K83_2.eq_1
def B_slices_ContainsFunc_S_int_int : C := .seq (.pl <| .st (.ext 3 0) <|
    .st (.act none (.px (some 2) (.mv (.c (.bool false))))) .done) K83_2
@[simp] def WB_slices_ContainsFunc_S_int_int := @C.wpe _ _ B_slices_ContainsFunc_S_int_int.eq_1
def R_slices_ContainsFunc_S_int_int : FIR := ⟨B_slices_ContainsFunc_S_int_int, 3, [(2, none)]⟩
theorem IR_slices_ContainsFunc_S_int_int : cfun Try.prog H_slices_ContainsFunc_S_int_int Try.f83 = some R_slices_ContainsFunc_S_int_int := by kernel_rfl
theorem EN_slices_ContainsFunc_S_int_int {args : List Value} {h : Heap} {k : Value → Heap → Prop} (hargs : args.length = 2) (hw : B_slices_ContainsFunc_S_int_int.wp Try.prog (retQ [(2, none)] k) (env0 args 3) h) : CallE Try.prog fn_slices_ContainsFunc_S_int_int args h k := enter Try.func83 rfl IR_slices_ContainsFunc_S_int_int hargs hw

def H_slices_Contains_S_int_int : Hint := ⟨[(0, false), (1, false), (4, false)], []⟩
def K70_1 : Pl := .st (.act none (.px (some 6) (.bin .geq (.v 5) (.c (.int .i64 0))))) <|
    .st (.act none (.px (some 2) (.mv (.v 6)))) .done
@[simp] def W70_1 := @Pl.wpe _ _ K70_1.eq_1
def K70_2 : C := .seq (.pl <| .st (.ext 3 4) <|
    .st (.act none (.px (some 3) (.mv (.v 0)))) <|
    .st (.act none (.px (some 4) (.mv (.v 1)))) <|
    .st (.act none (.ex (some 5) (.call fn_slices_Index_S_int_int [.v 3, .v 4]))) K70_1) (.ret)
@[simp] def W70_2 := @C.wpe _ _ K70_2.eq_1
def B_slices_Contains_S_int_int : C := .seq (.pl <| .st (.ext 3 0) <|
    .st (.act none (.px (some 2) (.mv (.c (.bool false))))) .done) K70_2
@[simp] def WB_slices_Contains_S_int_int := @C.wpe _ _ B_slices_Contains_S_int_int.eq_1
def R_slices_Contains_S_int_int : FIR := ⟨B_slices_Contains_S_int_int, 3, [(2, none)]⟩
theorem IR_slices_Contains_S_int_int : cfun Try.prog H_slices_Contains_S_int_int Try.f70 = some R_slices_Contains_S_int_int := by kernel_rfl
theorem EN_slices_Contains_S_int_int {args : List Value} {h : Heap} {k : Value → Heap → Prop} (hargs : args.length = 2) (hw : B_slices_Contains_S_int_int.wp Try.prog (retQ [(2, none)] k) (env0 args 3) h) : CallE Try.prog fn_slices_Contains_S_int_int args h k := enter Try.func70 rfl IR_slices_Contains_S_int_int hargs hw


end Go.Proofs.Ytmpgkijhhocfcaa

/-
  Bodies of functions in the small language, as a program printed them, and that each is what the translation gives.
-/
namespace Go.Proofs.Ytmpgkijhhocfcaa
open Go
set_option linter.all false
set_option linter.defProp false
set_option maxRecDepth 1000000

def H_spec_l1Shape : Hint := ⟨[(0, false), (1, false), (2, true), (4, false), (5, false), (6, false), (19, false)], [[0, 3, 4, 6]]⟩
def K48_1 : C := .seq (.pl <| .st (.ext 7 0) <|
    .st (.act none (.px (some 3) (.mv (.c (.bool true))))) .done) (.ret)
@[simp] def W48_1 := @C.wpe _ _ K48_1.eq_1
def K48_2 : C := .pl <| .st (.ext 7 2) <|
    .st (.act none (.px (some 7) (.mv (.v 5)))) <|
    .st (.act none (.px (some 8) (.bin .add (.v 7) (.c (.int .i64 1))))) <|
    .st (.act none (.px (some 5) (.mv (.v 8)))) .done
@[simp] def W48_2 := @C.wpe _ _ K48_2.eq_1
def K48_3 : C := .seq (.pl <| .st (.ext 7 0) <|
    .st (.act none (.px (some 3) (.mv (.c (.bool false))))) .done) (.ret)
@[simp] def W48_3 := @C.wpe _ _ K48_3.eq_1
def K48_4 : C := .cond 7 (.v 15) K48_3 (.skip)
@[simp] def W48_4 := @C.wpe _ _ K48_4.eq_1
def K48_5 : Pl := .st (.act none (.px (some 15) (.un .not (.v 14)))) .done
@[simp] def W48_5 := @Pl.wpe _ _ K48_5.eq_1
def K48_6 : C := .seq (.block 2 (.seq (.pl <| .st (.ext 7 9) <|
    .st (.act none (.als 7 none 2)) <|
    .st (.act none (.pget (some 8) (some 7) 2 2 none)) <|
    .st (.act none (.px (some 9) (.mv (.v 5)))) <|
    .st (.act none (.px (some 10) (.ia 3 (.v 8) (.v 9)))) <|
    .st (.act none (.ld (some 11) (.v 10) (some 3))) <|
    .st (.act none (.px (some 12) (.mv (.v 1)))) <|
    .st (.act none (.px (some 13) (.bin .sub (.v 12) (.c (.int .i64 1))))) <|
    .st (.act none (.ex (some 14) (.call fn_spec_l1Shape [.v 11, .v 13]))) K48_5) K48_4)) K48_2
@[simp] def W48_6 := @C.wpe _ _ K48_6.eq_1
def K48_7 : C := .cond 7 (.v 11) (.skip) (.exit 1)
@[simp] def W48_7 := @C.wpe _ _ K48_7.eq_1
def K48_8 : C := .seq (.seq (.pl <| .st (.ext 7 5) <|
    .st (.act none (.px (some 7) (.mv (.v 5)))) <|
    .st (.act none (.als 8 none 2)) <|
    .st (.act none (.pget (some 9) (some 8) 2 2 none)) <|
    .st (.act none (.px (some 10) (.lenV (.v 9)))) <|
    .st (.act none (.px (some 11) (.bin .lss (.v 7) (.v 10)))) .done) K48_7) K48_6
@[simp] def W48_8 := @C.wpe _ _ K48_8.eq_1
def K48_9 : C := .block 1 (.loop 7 [0, 3, 4, 6] K48_8)
@[simp] def W48_9 := @C.wpe _ _ K48_9.eq_1
def K48_10 : C := .seq (.seq (.pl <| .st (.ext 7 0) <|
    .st (.act none (.px (some 5) (.mv (.c (.int .i64 0))))) .done) K48_9) K48_1
@[simp] def W48_10 := @C.wpe _ _ K48_10.eq_1
def K48_11 : C := .seq (.pl <| .st (.ext 7 0) <|
    .st (.act none (.px (some 3) (.mv (.c (.bool false))))) .done) (.ret)
@[simp] def W48_11 := @C.wpe _ _ K48_11.eq_1
def K48_12 : C := .cond 7 (.v 15) K48_11 (.skip)
@[simp] def W48_12 := @C.wpe _ _ K48_12.eq_1
def K48_13 : C := .seq (.seq (.pl <| .st (.ext 7 9) <|
    .st (.act none (.als 7 none 2)) <|
    .st (.act none (.pget (some 8) (some 7) 2 1 none)) <|
    .st (.act none (.px (some 9) (.bin .lss (.v 8) (.c (.int .i64 0))))) <|
    .st (.act none (.px (some 10) (.mv (.v 9)))) <|
    .st (.act (some (.v 10, false)) (.als 11 none 2)) <|
    .st (.act (some (.v 10, false)) (.pget (some 12) (some 11) 2 1 none)) <|
    .st (.act (some (.v 10, false)) (.px (some 13) (.mv (.v 4)))) <|
    .st (.act (some (.v 10, false)) (.px (some 14) (.bin .gtr (.v 12) (.v 13)))) <|
    .st (.act none (.px (some 15) (.pick (.v 10) (.c (.bool true)) (.v 14)))) .done) K48_12) K48_10
@[simp] def W48_13 := @C.wpe _ _ K48_13.eq_1
def K48_14 : C := .pl <| .st (.ext 7 0) <|
    .st (.act none (.px (some 4) (.mv (.c (.int .i64 3))))) .done
@[simp] def W48_14 := @C.wpe _ _ K48_14.eq_1
def K48_15 : C := .pl <| .st (.ext 7 0) <|
    .st (.act none (.px (some 4) (.mv (.c (.int .i64 2))))) .done
@[simp] def W48_15 := @C.wpe _ _ K48_15.eq_1
def K48_16 : C := .cond 7 (.v 8) K48_15 (.skip)
@[simp] def W48_16 := @C.wpe _ _ K48_16.eq_1
def K48_17 : C := .seq (.pl <| .st (.ext 7 2) <|
    .st (.act none (.px (some 7) (.bin .eql (.v 6) (.c (.int .i64 2))))) <|
    .st (.act none (.px (some 8) (.mv (.v 7)))) .done) K48_16
@[simp] def W48_17 := @C.wpe _ _ K48_17.eq_1
def K48_18 : C := .cond 7 (.v 8) K48_14 K48_17
@[simp] def W48_18 := @C.wpe _ _ K48_18.eq_1
def K48_19 : C := .block 0 (.seq (.pl <| .st (.ext 7 2) <|
    .st (.act none (.px (some 7) (.bin .eql (.v 6) (.c (.int .i64 1))))) <|
    .st (.act none (.px (some 8) (.mv (.v 7)))) .done) K48_18)
@[simp] def W48_19 := @C.wpe _ _ K48_19.eq_1
def K48_20 : C := .seq (.seq (.pl <| .st (.ext 7 1) <|
    .st (.act none (.als 7 none 2)) <|
    .st (.act none (.pget (some 6) (some 7) 2 0 none)) .done) K48_19) K48_13
@[simp] def W48_20 := @C.wpe _ _ K48_20.eq_1
def K48_21 : C := .seq (.pl <| .st (.ext 7 0) <|
    .st (.act none (.px (some 4) (.mv (.c (.int .i64 0))))) .done) K48_20
@[simp] def W48_21 := @C.wpe _ _ K48_21.eq_1
def K48_22 : C := .seq (.pl <| .st (.ext 7 0) <|
    .st (.act none (.px (some 3) (.mv (.c (.bool false))))) .done) (.ret)
@[simp] def W48_22 := @C.wpe _ _ K48_22.eq_1
def K48_23 : C := .cond 7 (.v 17) K48_22 (.skip)
@[simp] def W48_23 := @C.wpe _ _ K48_23.eq_1
def K48_24 : Pl := .st (.act (some (.v 9, false)) (.px (some 16) (.bin .neq (.v 12) (.v 15)))) <|
    .st (.act none (.px (some 17) (.pick (.v 9) (.c (.bool true)) (.v 16)))) .done
@[simp] def W48_24 := @Pl.wpe _ _ K48_24.eq_1
def K48_25 : C := .seq (.seq (.pl <| .st (.ext 7 11) <|
    .st (.act none (.px (some 7) (.mv (.v 1)))) <|
    .st (.act none (.px (some 8) (.bin .lss (.v 7) (.c (.int .i64 1))))) <|
    .st (.act none (.px (some 9) (.mv (.v 8)))) <|
    .st (.act (some (.v 9, false)) (.als 10 none 2)) <|
    .st (.act (some (.v 9, false)) (.pget (some 11) (some 10) 2 2 none)) <|
    .st (.act (some (.v 9, false)) (.px (some 12) (.lenV (.v 11)))) <|
    .st (.act (some (.v 9, false)) (.als 13 none 2)) <|
    .st (.act (some (.v 9, false)) (.pget (some 14) (some 13) 2 0 none)) <|
    .st (.act (some (.v 9, false)) (.ex (some 15) (.call fn_spec_l1Arity [.v 14]))) K48_24) K48_23) K48_21
@[simp] def W48_25 := @C.wpe _ _ K48_25.eq_1
def B_spec_l1Shape : C := .seq (.pl <| .st (.ext 7 0) <|
    .st (.act none (.pnew 2 (.v 0) [])) <|
    .st (.act none (.px (some 3) (.mv (.c (.bool false))))) .done) K48_25
@[simp] def WB_spec_l1Shape := @C.wpe _ _ B_spec_l1Shape.eq_1
def R_spec_l1Shape : FIR := ⟨B_spec_l1Shape, 7, [(3, none)]⟩
theorem IR_spec_l1Shape : cfun Try.prog H_spec_l1Shape Try.f48 = some R_spec_l1Shape := by kernel_rfl
theorem EN_spec_l1Shape {args : List Value} {h : Heap} {k : Value → Heap → Prop} (hargs : args.length = 2) (hw : B_spec_l1Shape.wp Try.prog (retQ [(3, none)] k) (env0 args 7) h) : CallE Try.prog fn_spec_l1Shape args h k := enter Try.func48 rfl IR_spec_l1Shape hargs hw

def H_spec_l1Subst : Hint := ⟨[(0, false), (1, false), (2, false), (3, true), (5, true), (6, true), (7, true), (8, false)], [[0, 2]]⟩
def K39_1 : C := .seq (.pl <| .st (.ext 8 1) <|
    .st (.act none (.pget (some 8) none 6 0 (some 3))) <|
    .st (.act none (.pset none 5 0 3 (.v 8))) .done) (.ret)
@[simp] def W39_1 := @C.wpe _ _ K39_1.eq_1
def K39_2 : C := .pl <| .st (.ext 8 2) <|
    .st (.act none (.px (some 8) (.mv (.v 7)))) <|
    .st (.act none (.px (some 9) (.bin .add (.v 8) (.c (.int .i64 1))))) <|
    .st (.act none (.px (some 7) (.mv (.v 9)))) .done
@[simp] def W39_2 := @C.wpe _ _ K39_2.eq_1
def K39_3 : Pl := .st (.act none (.als 20 none 6)) <|
    .st (.act none (.pset (some 20) 6 2 1 (.v 19))) .done
@[simp] def W39_3 := @Pl.wpe _ _ K39_3.eq_1
def K39_4 : Pl := .st (.act none (.psl 18 [.int .i64 0, .int .i64 0, .slice none 0 0] [(0, 3, .v 17)])) <|
    .st (.act none (.ex (some 19) (.app 40 3 [.int .i64 0, .int .i64 0, .slice none 0 0] (.o (.v 9)) (.p 1 18)))) K39_3
@[simp] def W39_4 := @Pl.wpe _ _ K39_4.eq_1
def K39_5 : C := .seq (.block 1 (.pl <| .st (.ext 8 13) <|
    .st (.act none (.als 8 none 6)) <|
    .st (.act none (.pget (some 9) (some 8) 6 2 none)) <|
    .st (.act none (.als 10 none 3)) <|
    .st (.act none (.pget (some 11) (some 10) 3 2 none)) <|
    .st (.act none (.px (some 12) (.mv (.v 7)))) <|
    .st (.act none (.px (some 13) (.ia 3 (.v 11) (.v 12)))) <|
    .st (.act none (.ld (some 14) (.v 13) (some 3))) <|
    .st (.act none (.px (some 15) (.mv (.v 1)))) <|
    .st (.act none (.pget (some 16) none 4 0 (some 3))) <|
    .st (.act none (.ex (some 17) (.call fn_spec_l1Subst [.v 14, .v 15, .v 16]))) K39_4)) K39_2
@[simp] def W39_5 := @C.wpe _ _ K39_5.eq_1
def K39_6 : C := .cond 8 (.v 12) (.skip) (.exit 0)
@[simp] def W39_6 := @C.wpe _ _ K39_6.eq_1
def K39_7 : C := .seq (.seq (.pl <| .st (.ext 8 5) <|
    .st (.act none (.px (some 8) (.mv (.v 7)))) <|
    .st (.act none (.als 9 none 3)) <|
    .st (.act none (.pget (some 10) (some 9) 3 2 none)) <|
    .st (.act none (.px (some 11) (.lenV (.v 10)))) <|
    .st (.act none (.px (some 12) (.bin .lss (.v 8) (.v 11)))) .done) K39_6) K39_5
@[simp] def W39_7 := @C.wpe _ _ K39_7.eq_1
def K39_8 : C := .block 0 (.loop 8 [0, 2] K39_7)
@[simp] def W39_8 := @C.wpe _ _ K39_8.eq_1
def K39_9 : C := .seq (.seq (.pl <| .st (.ext 8 0) <|
    .st (.act none (.px (some 7) (.mv (.c (.int .i64 0))))) .done) K39_8) K39_1
@[simp] def W39_9 := @C.wpe _ _ K39_9.eq_1
def K39_10 : C := .seq (.pl <| .st (.ext 8 5) <|
    .st (.act none (.als 8 none 3)) <|
    .st (.act none (.pget (some 9) (some 8) 3 0 none)) <|
    .st (.act none (.als 10 none 3)) <|
    .st (.act none (.pget (some 11) (some 10) 3 1 none)) <|
    .st (.act none (.px (some 12) (.build [.int .i64 0, .int .i64 0, .slice none 0 0] [(0, 1, .v 9), (1, 1, .v 11)]))) <|
    .st (.act none (.pnew 6 (.c (.agg #[.int .i64 0, .int .i64 0, .slice none 0 0])) [])) <|
    .st (.act none (.pset none 6 0 3 (.v 12))) .done) K39_9
@[simp] def W39_10 := @C.wpe _ _ K39_10.eq_1
def K39_11 : Pl := .st (.act none (.pset none 5 0 3 (.v 10))) .done
@[simp] def W39_11 := @Pl.wpe _ _ K39_11.eq_1
def K39_12 : C := .seq (.pl <| .st (.ext 8 3) <|
    .st (.act none (.pget (some 8) none 4 0 (some 3))) <|
    .st (.act none (.px (some 9) (.build [.int .i64 0, .int .i64 0, .slice none 0 0] []))) <|
    .st (.act none (.ex (some 10) (.call fn_spec_l1Subst [.v 8, .c (.int .i64 (-1)), .v 9]))) K39_11) (.ret)
@[simp] def W39_12 := @C.wpe _ _ K39_12.eq_1
def K39_13 : C := .cond 8 (.v 16) K39_12 (.skip)
@[simp] def W39_13 := @C.wpe _ _ K39_13.eq_1
def K39_14 : C := .seq (.seq (.pl <| .st (.ext 8 9) <|
    .st (.act none (.als 8 none 3)) <|
    .st (.act none (.pget (some 9) (some 8) 3 0 none)) <|
    .st (.act none (.px (some 10) (.bin .eql (.v 9) (.c (.int .i64 2))))) <|
    .st (.act none (.px (some 11) (.mv (.v 10)))) <|
    .st (.act (some (.v 11, true)) (.als 12 none 3)) <|
    .st (.act (some (.v 11, true)) (.pget (some 13) (some 12) 3 1 none)) <|
    .st (.act (some (.v 11, true)) (.px (some 14) (.mv (.v 1)))) <|
    .st (.act (some (.v 11, true)) (.px (some 15) (.bin .eql (.v 13) (.v 14)))) <|
    .st (.act none (.px (some 16) (.pick (.v 11) (.v 15) (.c (.bool false))))) .done) K39_13) K39_10
@[simp] def W39_14 := @C.wpe _ _ K39_14.eq_1
def B_spec_l1Subst : C := .seq (.pl <| .st (.ext 8 0) <|
    .st (.act none (.pnew 3 (.v 0) [])) <|
    .st (.act none (.pnew 4 (.v 2) [])) <|
    .st (.act none (.pnew 5 (.c (.agg #[.int .i64 0, .int .i64 0, .slice none 0 0])) [])) .done) K39_14
@[simp] def WB_spec_l1Subst := @C.wpe _ _ B_spec_l1Subst.eq_1
def R_spec_l1Subst : FIR := ⟨B_spec_l1Subst, 8, [(5, some (some 3))]⟩
theorem IR_spec_l1Subst : cfun Try.prog H_spec_l1Subst Try.f39 = some R_spec_l1Subst := by kernel_rfl
theorem EN_spec_l1Subst {args : List Value} {h : Heap} {k : Value → Heap → Prop} (hargs : args.length = 3) (hw : B_spec_l1Subst.wp Try.prog (retQ [(5, some (some 3))] k) (env0 args 8) h) : CallE Try.prog fn_spec_l1Subst args h k := enter Try.func39 rfl IR_spec_l1Subst hargs hw

def H_spec_l1Vals : Hint := ⟨[(0, false), (2, false), (3, false)], [[1]]⟩
def K47_1 : C := .seq (.pl <| .st (.ext 3 3) <|
    .st (.act none (.px (some 3) (.mv (.v 0)))) <|
    .st (.act none (.px (some 4) (.lenV (.v 3)))) <|
    .st (.act none (.px (some 5) (.bin .eql (.v 4) (.c (.int .i64 3))))) <|
    .st (.act none (.px (some 1) (.mv (.v 5)))) .done) (.ret)
@[simp] def W47_1 := @C.wpe _ _ K47_1.eq_1
def K47_2 : C := .pl <| .st (.ext 3 2) <|
    .st (.act none (.px (some 3) (.mv (.v 2)))) <|
    .st (.act none (.px (some 4) (.bin .add (.v 3) (.c (.int .i64 1))))) <|
    .st (.act none (.px (some 2) (.mv (.v 4)))) .done
@[simp] def W47_2 := @C.wpe _ _ K47_2.eq_1
def K47_3 : C := .seq (.pl <| .st (.ext 3 0) <|
    .st (.act none (.px (some 1) (.mv (.c (.bool false))))) .done) (.ret)
@[simp] def W47_3 := @C.wpe _ _ K47_3.eq_1
def K47_4 : C := .cond 3 (.v 14) K47_3 (.skip)
@[simp] def W47_4 := @C.wpe _ _ K47_4.eq_1
def K47_5 : C := .seq (.block 1 (.seq (.pl <| .st (.ext 3 12) <|
    .st (.act none (.px (some 3) (.mv (.v 0)))) <|
    .st (.act none (.px (some 4) (.mv (.v 2)))) <|
    .st (.act none (.px (some 5) (.ia 1 (.v 3) (.v 4)))) <|
    .st (.act none (.ld (some 6) (.v 5) none)) <|
    .st (.act none (.px (some 7) (.bin .lss (.v 6) (.c (.int .i64 0))))) <|
    .st (.act none (.px (some 8) (.mv (.v 7)))) <|
    .st (.act (some (.v 8, false)) (.px (some 9) (.mv (.v 0)))) <|
    .st (.act (some (.v 8, false)) (.px (some 10) (.mv (.v 2)))) <|
    .st (.act (some (.v 8, false)) (.px (some 11) (.ia 1 (.v 9) (.v 10)))) <|
    .st (.act (some (.v 8, false)) (.ld (some 12) (.v 11) none)) <|
    .st (.act (some (.v 8, false)) (.px (some 13) (.bin .gtr (.v 12) (.c (.int .i64 3))))) <|
    .st (.act none (.px (some 14) (.pick (.v 8) (.c (.bool true)) (.v 13)))) .done) K47_4)) K47_2
@[simp] def W47_5 := @C.wpe _ _ K47_5.eq_1
def K47_6 : C := .cond 3 (.v 6) (.skip) (.exit 0)
@[simp] def W47_6 := @C.wpe _ _ K47_6.eq_1
def K47_7 : C := .seq (.seq (.pl <| .st (.ext 3 4) <|
    .st (.act none (.px (some 3) (.mv (.v 2)))) <|
    .st (.act none (.px (some 4) (.mv (.v 0)))) <|
    .st (.act none (.px (some 5) (.lenV (.v 4)))) <|
    .st (.act none (.px (some 6) (.bin .lss (.v 3) (.v 5)))) .done) K47_6) K47_5
@[simp] def W47_7 := @C.wpe _ _ K47_7.eq_1
def K47_8 : C := .block 0 (.loop 3 [1] K47_7)
@[simp] def W47_8 := @C.wpe _ _ K47_8.eq_1
def K47_9 : C := .seq (.seq (.pl <| .st (.ext 3 0) <|
    .st (.act none (.px (some 2) (.mv (.c (.int .i64 0))))) .done) K47_8) K47_1
@[simp] def W47_9 := @C.wpe _ _ K47_9.eq_1
def B_spec_l1Vals : C := .seq (.pl <| .st (.ext 3 0) <|
    .st (.act none (.px (some 1) (.mv (.c (.bool false))))) .done) K47_9
@[simp] def WB_spec_l1Vals := @C.wpe _ _ B_spec_l1Vals.eq_1
def R_spec_l1Vals : FIR := ⟨B_spec_l1Vals, 3, [(1, none)]⟩
theorem IR_spec_l1Vals : cfun Try.prog H_spec_l1Vals Try.f47 = some R_spec_l1Vals := by kernel_rfl
theorem EN_spec_l1Vals {args : List Value} {h : Heap} {k : Value → Heap → Prop} (hargs : args.length = 1) (hw : B_spec_l1Vals.wp Try.prog (retQ [(1, none)] k) (env0 args 3) h) : CallE Try.prog fn_spec_l1Vals args h k := enter Try.func47 rfl IR_spec_l1Vals hargs hw

def H_spec_l2Copy : Hint := ⟨[(0, false), (1, true), (2, true), (3, true), (4, false), (5, true), (6, false), (7, true)], [[0, 5, 6, 7], [0, 7]]⟩
def K37_1 : C := .seq (.pl <| .st (.ext 8 1) <|
    .st (.act none (.pget (some 8) none 3 0 (some 2))) <|
    .st (.act none (.pset none 2 0 2 (.v 8))) .done) (.ret)
@[simp] def W37_1 := @C.wpe _ _ K37_1.eq_1
def K37_2 : C := .pl <| .st (.ext 8 2) <|
    .st (.act none (.px (some 8) (.mv (.v 4)))) <|
    .st (.act none (.px (some 9) (.bin .add (.v 8) (.c (.int .i64 1))))) <|
    .st (.act none (.px (some 4) (.mv (.v 9)))) .done
@[simp] def W37_2 := @C.wpe _ _ K37_2.eq_1
def K37_3 : Pl := .st (.act none (.als 13 none 3)) <|
    .st (.act none (.pset (some 13) 3 1 1 (.v 12))) .done
@[simp] def W37_3 := @Pl.wpe _ _ K37_3.eq_1
def K37_4 : C := .pl <| .st (.ext 8 6) <|
    .st (.act none (.als 8 none 3)) <|
    .st (.act none (.pget (some 9) (some 8) 3 1 none)) <|
    .st (.act none (.pget (some 10) none 5 0 (some 2))) <|
    .st (.act none (.psl 11 [.int .i64 0, .slice none 0 0] [(0, 2, .v 10)])) <|
    .st (.act none (.ex (some 12) (.app 32 2 [.int .i64 0, .slice none 0 0] (.o (.v 9)) (.p 1 11)))) K37_3
@[simp] def W37_4 := @C.wpe _ _ K37_4.eq_1
def K37_5 : C := .pl <| .st (.ext 8 2) <|
    .st (.act none (.px (some 8) (.mv (.v 6)))) <|
    .st (.act none (.px (some 9) (.bin .add (.v 8) (.c (.int .i64 1))))) <|
    .st (.act none (.px (some 6) (.mv (.v 9)))) .done
@[simp] def W37_5 := @C.wpe _ _ K37_5.eq_1
def K37_6 : Pl := .st (.act none (.als 13 none 5)) <|
    .st (.act none (.pset (some 13) 5 1 1 (.v 12))) .done
@[simp] def W37_6 := @Pl.wpe _ _ K37_6.eq_1
def K37_7 : C := .pl <| .st (.ext 8 6) <|
    .st (.act none (.als 8 none 5)) <|
    .st (.act none (.pget (some 9) (some 8) 5 1 none)) <|
    .st (.act none (.pget (some 10) none 7 0 (some 10))) <|
    .st (.act none (.psl 11 [.int .i64 0, .int .i64 0, .int .i64 0, .int .i64 0, .slice none 0 0, .int .i64 0, .int .i64 0, .int .i64 0, .slice none 0 0, .int .i64 0] [(0, 10, .v 10)])) <|
    .st (.act none (.ex (some 12) (.app 112 10 [.int .i64 0, .int .i64 0, .int .i64 0, .int .i64 0, .slice none 0 0, .int .i64 0, .int .i64 0, .int .i64 0, .slice none 0 0, .int .i64 0] (.o (.v 9)) (.p 1 11)))) K37_6
@[simp] def W37_7 := @C.wpe _ _ K37_7.eq_1
def K37_8 : Pl := .st (.act none (.als 12 none 7)) <|
    .st (.act none (.pset (some 12) 7 6 3 (.v 11))) .done
@[simp] def W37_8 := @Pl.wpe _ _ K37_8.eq_1
def K37_9 : C := .seq (.pl <| .st (.ext 8 5) <|
    .st (.act none (.als 8 none 7)) <|
    .st (.act none (.pget (some 9) (some 8) 7 6 (some 3))) <|
    .st (.act none (.px (some 10) (.build [.int .i64 0, .int .i64 0, .slice none 0 0] []))) <|
    .st (.act none (.ex (some 11) (.call fn_spec_l1Subst [.v 9, .c (.int .i64 (-1)), .v 10]))) K37_8) K37_7
@[simp] def W37_9 := @C.wpe _ _ K37_9.eq_1
def K37_10 : Pl := .st (.act none (.als 12 none 7)) <|
    .st (.act none (.pset (some 12) 7 2 3 (.v 11))) .done
@[simp] def W37_10 := @Pl.wpe _ _ K37_10.eq_1
def K37_11 : C := .seq (.pl <| .st (.ext 8 5) <|
    .st (.act none (.als 8 none 7)) <|
    .st (.act none (.pget (some 9) (some 8) 7 2 (some 3))) <|
    .st (.act none (.px (some 10) (.build [.int .i64 0, .int .i64 0, .slice none 0 0] []))) <|
    .st (.act none (.ex (some 11) (.call fn_spec_l1Subst [.v 9, .c (.int .i64 (-1)), .v 10]))) K37_10) K37_9
@[simp] def W37_11 := @C.wpe _ _ K37_11.eq_1
def K37_12 : C := .seq (.block 3 (.seq (.pl <| .st (.ext 8 9) <|
    .st (.act none (.als 8 none 1)) <|
    .st (.act none (.pget (some 9) (some 8) 1 1 none)) <|
    .st (.act none (.px (some 10) (.mv (.v 4)))) <|
    .st (.act none (.px (some 11) (.ia 2 (.v 9) (.v 10)))) <|
    .st (.act none (.px (some 12) (.fa 1 (.v 11)))) <|
    .st (.act none (.ld (some 13) (.v 12) none)) <|
    .st (.act none (.px (some 14) (.mv (.v 6)))) <|
    .st (.act none (.px (some 15) (.ia 10 (.v 13) (.v 14)))) <|
    .st (.act none (.ld (some 16) (.v 15) (some 10))) <|
    .st (.act none (.pnew 7 (.c (.agg #[.int .i64 0, .int .i64 0, .int .i64 0, .int .i64 0, .slice none 0 0, .int .i64 0, .int .i64 0, .int .i64 0, .slice none 0 0, .int .i64 0])) [])) <|
    .st (.act none (.pset none 7 0 10 (.v 16))) .done) K37_11)) K37_5
@[simp] def W37_12 := @C.wpe _ _ K37_12.eq_1
def K37_13 : C := .cond 8 (.v 16) (.skip) (.exit 2)
@[simp] def W37_13 := @C.wpe _ _ K37_13.eq_1
def K37_14 : C := .seq (.seq (.pl <| .st (.ext 8 9) <|
    .st (.act none (.px (some 8) (.mv (.v 6)))) <|
    .st (.act none (.als 9 none 1)) <|
    .st (.act none (.pget (some 10) (some 9) 1 1 none)) <|
    .st (.act none (.px (some 11) (.mv (.v 4)))) <|
    .st (.act none (.px (some 12) (.ia 2 (.v 10) (.v 11)))) <|
    .st (.act none (.px (some 13) (.fa 1 (.v 12)))) <|
    .st (.act none (.ld (some 14) (.v 13) none)) <|
    .st (.act none (.px (some 15) (.lenV (.v 14)))) <|
    .st (.act none (.px (some 16) (.bin .lss (.v 8) (.v 15)))) .done) K37_13) K37_12
@[simp] def W37_14 := @C.wpe _ _ K37_14.eq_1
def K37_15 : C := .block 2 (.loop 8 [0, 7] K37_14)
@[simp] def W37_15 := @C.wpe _ _ K37_15.eq_1
def K37_16 : C := .seq (.seq (.pl <| .st (.ext 8 0) <|
    .st (.act none (.px (some 6) (.mv (.c (.int .i64 0))))) .done) K37_15) K37_4
@[simp] def W37_16 := @C.wpe _ _ K37_16.eq_1
def K37_17 : C := .seq (.block 1 (.seq (.pl <| .st (.ext 8 7) <|
    .st (.act none (.als 8 none 1)) <|
    .st (.act none (.pget (some 9) (some 8) 1 1 none)) <|
    .st (.act none (.px (some 10) (.mv (.v 4)))) <|
    .st (.act none (.px (some 11) (.ia 2 (.v 9) (.v 10)))) <|
    .st (.act none (.px (some 12) (.fa 0 (.v 11)))) <|
    .st (.act none (.ld (some 13) (.v 12) none)) <|
    .st (.act none (.px (some 14) (.build [.int .i64 0, .slice none 0 0] [(0, 1, .v 13)]))) <|
    .st (.act none (.pnew 5 (.c (.agg #[.int .i64 0, .slice none 0 0])) [])) <|
    .st (.act none (.pset none 5 0 2 (.v 14))) .done) K37_16)) K37_2
@[simp] def W37_17 := @C.wpe _ _ K37_17.eq_1
def K37_18 : C := .cond 8 (.v 12) (.skip) (.exit 0)
@[simp] def W37_18 := @C.wpe _ _ K37_18.eq_1
def K37_19 : C := .seq (.seq (.pl <| .st (.ext 8 5) <|
    .st (.act none (.px (some 8) (.mv (.v 4)))) <|
    .st (.act none (.als 9 none 1)) <|
    .st (.act none (.pget (some 10) (some 9) 1 1 none)) <|
    .st (.act none (.px (some 11) (.lenV (.v 10)))) <|
    .st (.act none (.px (some 12) (.bin .lss (.v 8) (.v 11)))) .done) K37_18) K37_17
@[simp] def W37_19 := @C.wpe _ _ K37_19.eq_1
def K37_20 : C := .block 0 (.loop 8 [0, 5, 6, 7] K37_19)
@[simp] def W37_20 := @C.wpe _ _ K37_20.eq_1
def K37_21 : C := .seq (.seq (.pl <| .st (.ext 8 0) <|
    .st (.act none (.px (some 4) (.mv (.c (.int .i64 0))))) .done) K37_20) K37_1
@[simp] def W37_21 := @C.wpe _ _ K37_21.eq_1
def K37_22 : Pl := .st (.act none (.px (some 12) (.build [.slice none 0 0, .slice none 0 0] [(0, 1, .v 11)]))) <|
    .st (.act none (.pnew 3 (.c (.agg #[.slice none 0 0, .slice none 0 0])) [])) <|
    .st (.act none (.pset none 3 0 2 (.v 12))) .done
@[simp] def W37_22 := @Pl.wpe _ _ K37_22.eq_1
def K37_23 : C := .seq (.pl <| .st (.ext 8 5) <|
    .st (.act none (.psl 8 [] [])) <|
    .st (.act none (.als 9 none 1)) <|
    .st (.act none (.pget (some 10) (some 9) 1 0 none)) <|
    .st (.act none (.ex (some 11) (.app 8 1 [.int .i64 0] (.p 0 8) (.o (.v 10))))) K37_22) K37_21
@[simp] def W37_23 := @C.wpe _ _ K37_23.eq_1
def B_spec_l2Copy : C := .seq (.pl <| .st (.ext 8 0) <|
    .st (.act none (.pnew 1 (.v 0) [])) <|
    .st (.act none (.pnew 2 (.c (.agg #[.slice none 0 0, .slice none 0 0])) [])) .done) K37_23
@[simp] def WB_spec_l2Copy := @C.wpe _ _ B_spec_l2Copy.eq_1
def R_spec_l2Copy : FIR := ⟨B_spec_l2Copy, 8, [(2, some (some 2))]⟩
theorem IR_spec_l2Copy : cfun Try.prog H_spec_l2Copy Try.f37 = some R_spec_l2Copy := by kernel_rfl
theorem EN_spec_l2Copy {args : List Value} {h : Heap} {k : Value → Heap → Prop} (hargs : args.length = 1) (hw : B_spec_l2Copy.wp Try.prog (retQ [(2, some (some 2))] k) (env0 args 8) h) : CallE Try.prog fn_spec_l2Copy args h k := enter Try.func37 rfl IR_spec_l2Copy hargs hw

def H_spec_l2DrawEdge : Hint := ⟨[(0, false), (1, false), (4, true), (5, true), (6, true), (7, true), (29, false)], []⟩
def K38_1 : C := .seq (.pl <| .st (.ext 7 1) <|
    .st (.act none (.pget (some 7) none 3 0 (some 10))) <|
    .st (.act none (.pset none 2 0 10 (.v 7))) .done) (.ret)
@[simp] def W38_1 := @C.wpe _ _ K38_1.eq_1
def K38_2 : Pl := .st (.act none (.als 10 none 3)) <|
    .st (.act none (.pset (some 10) 3 9 1 (.v 9))) .done
@[simp] def W38_2 := @Pl.wpe _ _ K38_2.eq_1
def K38_3 : Pl := .st (.act none (.ex (some 9) (.call fn_spec_l16Rd_num [.v 7, .v 8]))) K38_2
@[simp] def W38_3 := @Pl.wpe _ _ K38_3.eq_1
def K38_4 : C := .pl <| .st (.ext 7 4) <|
    .st (.act none (.px (some 7) (.mv (.v 0)))) <|
    .st (.act none (.ex (some 8) (.bls 1 6 [.int .i64 0] [(0, 1, .c (.int .i64 1)), (1, 1, .c (.int .i64 (-1))), (2, 1, .c (.int .i64 1)), (3, 1, .c (.int .i64 (-1))), (4, 1, .c (.int .i64 2)), (5, 1, .c (.int .i64 (-2)))]))) K38_3
@[simp] def W38_4 := @C.wpe _ _ K38_4.eq_1
def K38_5 : C := .cond 7 (.v 9) K38_4 (.skip)
@[simp] def W38_5 := @C.wpe _ _ K38_5.eq_1
def K38_6 : Pl := .st (.act none (.px (some 9) (.bin .eql (.v 8) (.c (.int .i64 0))))) .done
@[simp] def W38_6 := @Pl.wpe _ _ K38_6.eq_1
def K38_7 : C := .seq (.seq (.pl <| .st (.ext 7 3) <|
    .st (.act none (.px (some 7) (.mv (.v 0)))) <|
    .st (.act none (.ex (some 8) (.call fn_spec_l16Rd_pick [.v 7, .c (.int .i64 4)]))) K38_6) K38_5) K38_1
@[simp] def W38_7 := @C.wpe _ _ K38_7.eq_1
def K38_8 : Pl := .st (.act none (.px (some 9) (.build [.int .i64 0, .int .i64 0, .slice none 0 0] [(0, 1, .c (.int .i64 1)), (1, 1, .v 8)]))) <|
    .st (.act none (.als 10 none 3)) <|
    .st (.act none (.pset (some 10) 3 6 3 (.v 9))) .done
@[simp] def W38_8 := @Pl.wpe _ _ K38_8.eq_1
def K38_9 : C := .pl <| .st (.ext 7 4) <|
    .st (.act none (.px (some 7) (.mv (.v 0)))) <|
    .st (.act none (.ex (some 8) (.call fn_spec_l16Rd_pick [.v 7, .c (.int .i64 3)]))) K38_8
@[simp] def W38_9 := @C.wpe _ _ K38_9.eq_1
def K38_10 : Pl := .st (.act none (.px (some 10) (.build [.int .i64 0, .int .i64 0, .slice none 0 0] [(0, 1, .c (.int .i64 8)), (2, 1, .v 9)]))) <|
    .st (.act none (.als 11 none 3)) <|
    .st (.act none (.pset (some 11) 3 6 3 (.v 10))) .done
@[simp] def W38_10 := @Pl.wpe _ _ K38_10.eq_1
def K38_11 : C := .pl <| .st (.ext 7 5) <|
    .st (.act none (.pget (some 7) none 4 0 (some 3))) <|
    .st (.act none (.pget (some 8) none 5 0 (some 3))) <|
    .st (.act none (.ex (some 9) (.bls 3 2 [.int .i64 0, .int .i64 0, .slice none 0 0] [(0, 3, .v 7), (3, 3, .v 8)]))) K38_10
@[simp] def W38_11 := @C.wpe _ _ K38_11.eq_1
def K38_12 : Pl := .st (.act none (.px (some 10) (.build [.int .i64 0, .int .i64 0, .slice none 0 0] [(0, 1, .c (.int .i64 9)), (2, 1, .v 9)]))) <|
    .st (.act none (.als 11 none 3)) <|
    .st (.act none (.pset (some 11) 3 6 3 (.v 10))) .done
@[simp] def W38_12 := @Pl.wpe _ _ K38_12.eq_1
def K38_13 : C := .pl <| .st (.ext 7 5) <|
    .st (.act none (.pget (some 7) none 5 0 (some 3))) <|
    .st (.act none (.pget (some 8) none 4 0 (some 3))) <|
    .st (.act none (.ex (some 9) (.bls 3 2 [.int .i64 0, .int .i64 0, .slice none 0 0] [(0, 3, .v 7), (3, 3, .v 8)]))) K38_12
@[simp] def W38_13 := @C.wpe _ _ K38_13.eq_1
def K38_14 : Pl := .st (.act none (.als 9 none 3)) <|
    .st (.act none (.pset (some 9) 3 6 3 (.v 8))) .done
@[simp] def W38_14 := @Pl.wpe _ _ K38_14.eq_1
def K38_15 : C := .pl <| .st (.ext 7 3) <|
    .st (.act none (.px (some 7) (.mv (.v 0)))) <|
    .st (.act none (.ex (some 8) (.call fn_spec_l1Expr [.v 7]))) K38_14
@[simp] def W38_15 := @C.wpe _ _ K38_15.eq_1
def K38_16 : C := .cond 7 (.v 8) K38_13 K38_15
@[simp] def W38_16 := @C.wpe _ _ K38_16.eq_1
def K38_17 : C := .seq (.pl <| .st (.ext 7 2) <|
    .st (.act none (.px (some 7) (.bin .eql (.v 6) (.c (.int .i64 2))))) <|
    .st (.act none (.px (some 8) (.mv (.v 7)))) .done) K38_16
@[simp] def W38_17 := @C.wpe _ _ K38_17.eq_1
def K38_18 : C := .cond 7 (.v 8) K38_11 K38_17
@[simp] def W38_18 := @C.wpe _ _ K38_18.eq_1
def K38_19 : C := .seq (.pl <| .st (.ext 7 2) <|
    .st (.act none (.px (some 7) (.bin .eql (.v 6) (.c (.int .i64 1))))) <|
    .st (.act none (.px (some 8) (.mv (.v 7)))) .done) K38_18
@[simp] def W38_19 := @C.wpe _ _ K38_19.eq_1
def K38_20 : C := .cond 7 (.v 8) K38_9 K38_19
@[simp] def W38_20 := @C.wpe _ _ K38_20.eq_1
def K38_21 : C := .block 0 (.seq (.pl <| .st (.ext 7 2) <|
    .st (.act none (.px (some 7) (.bin .eql (.v 6) (.c (.int .i64 0))))) <|
    .st (.act none (.px (some 8) (.mv (.v 7)))) .done) K38_20)
@[simp] def W38_21 := @C.wpe _ _ K38_21.eq_1
def K38_22 : C := .seq (.pl <| .st (.ext 7 1) <|
    .st (.act none (.px (some 7) (.mv (.v 0)))) <|
    .st (.act none (.ex (some 6) (.call fn_spec_l16Rd_pick [.v 7, .c (.int .i64 4)]))) .done) K38_21
@[simp] def W38_22 := @C.wpe _ _ K38_22.eq_1
def K38_23 : C := .seq (.pl <| .st (.ext 7 1) <|
    .st (.act none (.px (some 7) (.build [.int .i64 0, .int .i64 0, .slice none 0 0] [(0, 1, .c (.int .i64 1)), (1, 1, .c (.int .i64 1))]))) <|
    .st (.act none (.pnew 5 (.c (.agg #[.int .i64 0, .int .i64 0, .slice none 0 0])) [])) <|
    .st (.act none (.pset none 5 0 3 (.v 7))) .done) K38_22
@[simp] def W38_23 := @C.wpe _ _ K38_23.eq_1
def K38_24 : C := .seq (.pl <| .st (.ext 7 3) <|
    .st (.act none (.als 7 none 3)) <|
    .st (.act none (.pget (some 8) (some 7) 3 5 none)) <|
    .st (.act none (.px (some 9) (.build [.int .i64 0, .int .i64 0, .slice none 0 0] [(0, 1, .c (.int .i64 2)), (1, 1, .v 8)]))) <|
    .st (.act none (.pnew 4 (.c (.agg #[.int .i64 0, .int .i64 0, .slice none 0 0])) [])) <|
    .st (.act none (.pset none 4 0 3 (.v 9))) .done) K38_23
@[simp] def W38_24 := @C.wpe _ _ K38_24.eq_1
def K38_25 : Pl := .st (.act none (.als 10 none 3)) <|
    .st (.act none (.pset (some 10) 3 5 1 (.v 9))) .done
@[simp] def W38_25 := @Pl.wpe _ _ K38_25.eq_1
def K38_26 : Pl := .st (.act none (.ex (some 9) (.call fn_spec_l16Rd_num [.v 7, .v 8]))) K38_25
@[simp] def W38_26 := @Pl.wpe _ _ K38_26.eq_1
def K38_27 : C := .seq (.pl <| .st (.ext 7 4) <|
    .st (.act none (.px (some 7) (.mv (.v 0)))) <|
    .st (.act none (.ex (some 8) (.bls 1 4 [.int .i64 0] [(0, 1, .c (.int .i64 0)), (1, 1, .c (.int .i64 1)), (2, 1, .c (.int .i64 0)), (3, 1, .c (.int .i64 2))]))) K38_26) K38_24
@[simp] def W38_27 := @C.wpe _ _ K38_27.eq_1
def K38_28 : C := .cond 7 (.v 9) K38_27 (.skip)
@[simp] def W38_28 := @C.wpe _ _ K38_28.eq_1
def K38_29 : Pl := .st (.act none (.px (some 9) (.bin .gtr (.v 8) (.c (.int .i64 0))))) .done
@[simp] def W38_29 := @Pl.wpe _ _ K38_29.eq_1
def K38_30 : C := .seq (.seq (.pl <| .st (.ext 7 3) <|
    .st (.act none (.px (some 7) (.mv (.v 0)))) <|
    .st (.act none (.ex (some 8) (.call fn_spec_l16Rd_pick [.v 7, .c (.int .i64 3)]))) K38_29) K38_28) K38_7
@[simp] def W38_30 := @C.wpe _ _ K38_30.eq_1
def K38_31 : Pl := .st (.act none (.px (some 15) (.build [.int .i64 0, .int .i64 0, .int .i64 0, .int .i64 0, .slice none 0 0, .int .i64 0, .int .i64 0, .int .i64 0, .slice none 0 0, .int .i64 0] [(0, 1, .v 9), (1, 1, .v 12), (2, 3, .v 14), (5, 1, .c (.int .i64 (-1)))]))) <|
    .st (.act none (.pnew 3 (.c (.agg #[.int .i64 0, .int .i64 0, .int .i64 0, .int .i64 0, .slice none 0 0, .int .i64 0, .int .i64 0, .int .i64 0, .slice none 0 0, .int .i64 0])) [])) <|
    .st (.act none (.pset none 3 0 10 (.v 15))) .done
@[simp] def W38_31 := @Pl.wpe _ _ K38_31.eq_1
def K38_32 : Pl := .st (.act none (.px (some 13) (.mv (.v 0)))) <|
    .st (.act none (.ex (some 14) (.call fn_spec_l2Guard [.v 13]))) K38_31
@[simp] def W38_32 := @Pl.wpe _ _ K38_32.eq_1
def K38_33 : Pl := .st (.act none (.px (some 10) (.mv (.v 0)))) <|
    .st (.act none (.px (some 11) (.mv (.v 1)))) <|
    .st (.act none (.ex (some 12) (.call fn_spec_l16Rd_pick [.v 10, .v 11]))) K38_32
@[simp] def W38_33 := @Pl.wpe _ _ K38_33.eq_1
def K38_34 : C := .seq (.pl <| .st (.ext 7 9) <|
    .st (.act none (.px (some 7) (.mv (.v 0)))) <|
    .st (.act none (.px (some 8) (.mv (.v 1)))) <|
    .st (.act none (.ex (some 9) (.call fn_spec_l16Rd_pick [.v 7, .v 8]))) K38_33) K38_30
@[simp] def W38_34 := @C.wpe _ _ K38_34.eq_1
def B_spec_l2DrawEdge : C := .seq (.pl <| .st (.ext 7 0) <|
    .st (.act none (.pnew 2 (.c (.agg #[.int .i64 0, .int .i64 0, .int .i64 0, .int .i64 0, .slice none 0 0, .int .i64 0, .int .i64 0, .int .i64 0, .slice none 0 0, .int .i64 0])) [])) .done) K38_34
@[simp] def WB_spec_l2DrawEdge := @C.wpe _ _ B_spec_l2DrawEdge.eq_1
def R_spec_l2DrawEdge : FIR := ⟨B_spec_l2DrawEdge, 7, [(2, some (some 10))]⟩
theorem IR_spec_l2DrawEdge : cfun Try.prog H_spec_l2DrawEdge Try.f38 = some R_spec_l2DrawEdge := by kernel_rfl
theorem EN_spec_l2DrawEdge {args : List Value} {h : Heap} {k : Value → Heap → Prop} (hargs : args.length = 2) (hw : B_spec_l2DrawEdge.wp Try.prog (retQ [(2, some (some 10))] k) (env0 args 7) h) : CallE Try.prog fn_spec_l2DrawEdge args h k := enter Try.func38 rfl IR_spec_l2DrawEdge hargs hw

def H_spec_l2Guard : Hint := ⟨[(0, false), (2, true), (3, true), (4, true), (5, true)], []⟩
def K19_1 : C := .seq (.pl <| .st (.ext 5 1) <|
    .st (.act none (.pget (some 5) none 4 0 (some 3))) <|
    .st (.act none (.pset none 1 0 3 (.v 5))) .done) (.ret)
@[simp] def W19_1 := @C.wpe _ _ K19_1.eq_1
def K19_2 : Pl := .st (.act none (.px (some 7) (.build [.int .i64 0, .int .i64 0, .slice none 0 0] [(0, 1, .c (.int .i64 3)), (2, 1, .v 6)]))) <|
    .st (.act none (.pset none 1 0 3 (.v 7))) .done
@[simp] def W19_2 := @Pl.wpe _ _ K19_2.eq_1
def K19_3 : C := .seq (.pl <| .st (.ext 5 3) <|
    .st (.act none (.pget (some 5) none 4 0 (some 3))) <|
    .st (.act none (.ex (some 6) (.bls 3 1 [.int .i64 0, .int .i64 0, .slice none 0 0] [(0, 3, .v 5)]))) K19_2) (.ret)
@[simp] def W19_3 := @C.wpe _ _ K19_3.eq_1
def K19_4 : C := .cond 5 (.v 7) K19_3 (.skip)
@[simp] def W19_4 := @C.wpe _ _ K19_4.eq_1
def K19_5 : Pl := .st (.act none (.px (some 7) (.bin .eql (.v 6) (.c (.int .i64 0))))) .done
@[simp] def W19_5 := @Pl.wpe _ _ K19_5.eq_1
def K19_6 : C := .seq (.seq (.pl <| .st (.ext 5 3) <|
    .st (.act none (.px (some 5) (.mv (.v 0)))) <|
    .st (.act none (.ex (some 6) (.call fn_spec_l16Rd_pick [.v 5, .c (.int .i64 5)]))) K19_5) K19_4) K19_1
@[simp] def W19_6 := @C.wpe _ _ K19_6.eq_1
def K19_7 : Pl := .st (.act none (.px (some 11) (.build [.int .i64 0, .int .i64 0, .slice none 0 0] [(0, 1, .v 7), (2, 1, .v 10)]))) <|
    .st (.act none (.pset none 4 0 3 (.v 11))) .done
@[simp] def W19_7 := @Pl.wpe _ _ K19_7.eq_1
def K19_8 : Pl := .st (.act none (.ex (some 10) (.bls 3 2 [.int .i64 0, .int .i64 0, .slice none 0 0] [(0, 3, .v 8), (3, 3, .v 9)]))) K19_7
@[simp] def W19_8 := @Pl.wpe _ _ K19_8.eq_1
def K19_9 : Pl := .st (.act none (.ex (some 7) (.call fn_spec_l16Rd_num [.v 5, .v 6]))) K19_8
@[simp] def W19_9 := @Pl.wpe _ _ K19_9.eq_1
def K19_10 : Pl := .st (.act none (.px (some 11) (.build [.int .i64 0, .int .i64 0, .slice none 0 0] [(0, 1, .v 7), (2, 1, .v 10)]))) <|
    .st (.act none (.pset none 4 0 3 (.v 11))) .done
@[simp] def W19_10 := @Pl.wpe _ _ K19_10.eq_1
def K19_11 : Pl := .st (.act none (.ex (some 7) (.call fn_spec_l16Rd_num [.v 5, .v 6]))) K19_10
@[simp] def W19_11 := @Pl.wpe _ _ K19_11.eq_1
def K19_12 : Pl := .st (.act none (.ex (some 10) (.bls 3 2 [.int .i64 0, .int .i64 0, .slice none 0 0] [(0, 3, .v 8), (3, 3, .v 9)]))) K19_11
@[simp] def W19_12 := @Pl.wpe _ _ K19_12.eq_1
def K19_13 : Pl := .both K19_9 K19_12
@[simp] def W19_13 := @Pl.wpe _ _ K19_13.eq_1
def K19_14 : Pl := .st (.act none (.ex (some 6) (.bls 1 3 [.int .i64 0] [(0, 1, .c (.int .i64 6)), (1, 1, .c (.int .i64 7)), (2, 1, .c (.int .i64 6))]))) K19_13
@[simp] def W19_14 := @Pl.wpe _ _ K19_14.eq_1
def K19_15 : Pl := .st (.act none (.px (some 11) (.build [.int .i64 0, .int .i64 0, .slice none 0 0] [(0, 1, .v 7), (2, 1, .v 10)]))) <|
    .st (.act none (.pset none 4 0 3 (.v 11))) .done
@[simp] def W19_15 := @Pl.wpe _ _ K19_15.eq_1
def K19_16 : Pl := .st (.act none (.ex (some 7) (.call fn_spec_l16Rd_num [.v 5, .v 6]))) K19_15
@[simp] def W19_16 := @Pl.wpe _ _ K19_16.eq_1
def K19_17 : Pl := .st (.act none (.ex (some 6) (.bls 1 3 [.int .i64 0] [(0, 1, .c (.int .i64 6)), (1, 1, .c (.int .i64 7)), (2, 1, .c (.int .i64 6))]))) K19_16
@[simp] def W19_17 := @Pl.wpe _ _ K19_17.eq_1
def K19_18 : Pl := .st (.act none (.ex (some 10) (.bls 3 2 [.int .i64 0, .int .i64 0, .slice none 0 0] [(0, 3, .v 8), (3, 3, .v 9)]))) K19_17
@[simp] def W19_18 := @Pl.wpe _ _ K19_18.eq_1
def K19_19 : C := .seq (.pl <| .st (.ext 5 7) <|
    .st (.act none (.px (some 5) (.mv (.v 0)))) <|
    .st (.act none (.pget (some 8) none 2 0 (some 3))) <|
    .st (.act none (.pget (some 9) none 3 0 (some 3))) <|
    .st (.act none (.pnew 4 (.c (.agg #[.int .i64 0, .int .i64 0, .slice none 0 0])) [])) <|
    .both K19_14 K19_18) K19_6
@[simp] def W19_19 := @C.wpe _ _ K19_19.eq_1
def K19_20 : Pl := .st (.act none (.px (some 7) (.build [.int .i64 0, .int .i64 0, .slice none 0 0] [(0, 1, .c (.int .i64 1)), (1, 1, .v 6)]))) <|
    .st (.act none (.pnew 3 (.c (.agg #[.int .i64 0, .int .i64 0, .slice none 0 0])) [])) <|
    .st (.act none (.pset none 3 0 3 (.v 7))) .done
@[simp] def W19_20 := @Pl.wpe _ _ K19_20.eq_1
def K19_21 : C := .seq (.pl <| .st (.ext 5 3) <|
    .st (.act none (.px (some 5) (.mv (.v 0)))) <|
    .st (.act none (.ex (some 6) (.call fn_spec_l16Rd_pick [.v 5, .c (.int .i64 3)]))) K19_20) K19_19
@[simp] def W19_21 := @C.wpe _ _ K19_21.eq_1
def K19_22 : Pl := .st (.act none (.px (some 8) (.build [.int .i64 0, .int .i64 0, .slice none 0 0] [(0, 1, .c (.int .i64 2)), (1, 1, .v 7)]))) <|
    .st (.act none (.pnew 2 (.c (.agg #[.int .i64 0, .int .i64 0, .slice none 0 0])) [])) <|
    .st (.act none (.pset none 2 0 3 (.v 8))) .done
@[simp] def W19_22 := @Pl.wpe _ _ K19_22.eq_1
def K19_23 : Pl := .st (.act none (.ex (some 7) (.call fn_spec_l16Rd_num [.v 5, .v 6]))) K19_22
@[simp] def W19_23 := @Pl.wpe _ _ K19_23.eq_1
def K19_24 : C := .seq (.pl <| .st (.ext 5 4) <|
    .st (.act none (.px (some 5) (.mv (.v 0)))) <|
    .st (.act none (.ex (some 6) (.bls 1 4 [.int .i64 0] [(0, 1, .c (.int .i64 0)), (1, 1, .c (.int .i64 1)), (2, 1, .c (.int .i64 0)), (3, 1, .c (.int .i64 2))]))) K19_23) K19_21
@[simp] def W19_24 := @C.wpe _ _ K19_24.eq_1
def K19_25 : C := .seq (.pl <| .st (.ext 5 1) <|
    .st (.act none (.px (some 5) (.build [.int .i64 0, .int .i64 0, .slice none 0 0] [(0, 1, .c (.int .i64 1)), (1, 1, .c (.int .i64 1))]))) <|
    .st (.act none (.pset none 1 0 3 (.v 5))) .done) (.ret)
@[simp] def W19_25 := @C.wpe _ _ K19_25.eq_1
def K19_26 : C := .cond 5 (.v 7) K19_25 (.skip)
@[simp] def W19_26 := @C.wpe _ _ K19_26.eq_1
def K19_27 : Pl := .st (.act none (.px (some 7) (.bin .eql (.v 6) (.c (.int .i64 0))))) .done
@[simp] def W19_27 := @Pl.wpe _ _ K19_27.eq_1
def K19_28 : C := .seq (.seq (.pl <| .st (.ext 5 3) <|
    .st (.act none (.px (some 5) (.mv (.v 0)))) <|
    .st (.act none (.ex (some 6) (.call fn_spec_l16Rd_pick [.v 5, .c (.int .i64 3)]))) K19_27) K19_26) K19_24
@[simp] def W19_28 := @C.wpe _ _ K19_28.eq_1
def B_spec_l2Guard : C := .seq (.pl <| .st (.ext 5 0) <|
    .st (.act none (.pnew 1 (.c (.agg #[.int .i64 0, .int .i64 0, .slice none 0 0])) [])) .done) K19_28
@[simp] def WB_spec_l2Guard := @C.wpe _ _ B_spec_l2Guard.eq_1
def R_spec_l2Guard : FIR := ⟨B_spec_l2Guard, 5, [(1, some (some 3))]⟩
theorem IR_spec_l2Guard : cfun Try.prog H_spec_l2Guard Try.f19 = some R_spec_l2Guard := by kernel_rfl
theorem EN_spec_l2Guard {args : List Value} {h : Heap} {k : Value → Heap → Prop} (hargs : args.length = 1) (hw : B_spec_l2Guard.wp Try.prog (retQ [(1, some (some 3))] k) (env0 args 5) h) : CallE Try.prog fn_spec_l2Guard args h k := enter Try.func19 rfl IR_spec_l2Guard hargs hw

def H_spec_l2Ints : Hint := ⟨[(0, false), (1, false), (4, false), (5, false)], [[2]]⟩
def K95_1 : C := .seq (.pl <| .st (.ext 4 0) <|
    .st (.act none (.px (some 2) (.mv (.c (.bool true))))) .done) (.ret)
@[simp] def W95_1 := @C.wpe _ _ K95_1.eq_1
def K95_2 : C := .pl <| .st (.ext 4 2) <|
    .st (.act none (.px (some 4) (.mv (.v 3)))) <|
    .st (.act none (.px (some 5) (.bin .add (.v 4) (.c (.int .i64 1))))) <|
    .st (.act none (.px (some 3) (.mv (.v 5)))) .done
@[simp] def W95_2 := @C.wpe _ _ K95_2.eq_1
def K95_3 : C := .seq (.pl <| .st (.ext 4 0) <|
    .st (.act none (.px (some 2) (.mv (.c (.bool false))))) .done) (.ret)
@[simp] def W95_3 := @C.wpe _ _ K95_3.eq_1
def K95_4 : C := .cond 4 (.v 12) K95_3 (.skip)
@[simp] def W95_4 := @C.wpe _ _ K95_4.eq_1
def K95_5 : C := .seq (.block 1 (.seq (.pl <| .st (.ext 4 9) <|
    .st (.act none (.px (some 4) (.mv (.v 0)))) <|
    .st (.act none (.px (some 5) (.mv (.v 3)))) <|
    .st (.act none (.px (some 6) (.ia 1 (.v 4) (.v 5)))) <|
    .st (.act none (.ld (some 7) (.v 6) none)) <|
    .st (.act none (.px (some 8) (.mv (.v 1)))) <|
    .st (.act none (.px (some 9) (.mv (.v 3)))) <|
    .st (.act none (.px (some 10) (.ia 1 (.v 8) (.v 9)))) <|
    .st (.act none (.ld (some 11) (.v 10) none)) <|
    .st (.act none (.px (some 12) (.bin .neq (.v 7) (.v 11)))) .done) K95_4)) K95_2
@[simp] def W95_5 := @C.wpe _ _ K95_5.eq_1
def K95_6 : C := .cond 4 (.v 7) (.skip) (.exit 0)
@[simp] def W95_6 := @C.wpe _ _ K95_6.eq_1
def K95_7 : C := .seq (.seq (.pl <| .st (.ext 4 4) <|
    .st (.act none (.px (some 4) (.mv (.v 3)))) <|
    .st (.act none (.px (some 5) (.mv (.v 0)))) <|
    .st (.act none (.px (some 6) (.lenV (.v 5)))) <|
    .st (.act none (.px (some 7) (.bin .lss (.v 4) (.v 6)))) .done) K95_6) K95_5
@[simp] def W95_7 := @C.wpe _ _ K95_7.eq_1
def K95_8 : C := .block 0 (.loop 4 [2] K95_7)
@[simp] def W95_8 := @C.wpe _ _ K95_8.eq_1
def K95_9 : C := .seq (.seq (.pl <| .st (.ext 4 0) <|
    .st (.act none (.px (some 3) (.mv (.c (.int .i64 0))))) .done) K95_8) K95_1
@[simp] def W95_9 := @C.wpe _ _ K95_9.eq_1
def K95_10 : C := .seq (.pl <| .st (.ext 4 0) <|
    .st (.act none (.px (some 2) (.mv (.c (.bool false))))) .done) (.ret)
@[simp] def W95_10 := @C.wpe _ _ K95_10.eq_1
def K95_11 : C := .cond 4 (.v 8) K95_10 (.skip)
@[simp] def W95_11 := @C.wpe _ _ K95_11.eq_1
def K95_12 : C := .seq (.seq (.pl <| .st (.ext 4 5) <|
    .st (.act none (.px (some 4) (.mv (.v 0)))) <|
    .st (.act none (.px (some 5) (.lenV (.v 4)))) <|
    .st (.act none (.px (some 6) (.mv (.v 1)))) <|
    .st (.act none (.px (some 7) (.lenV (.v 6)))) <|
    .st (.act none (.px (some 8) (.bin .neq (.v 5) (.v 7)))) .done) K95_11) K95_9
@[simp] def W95_12 := @C.wpe _ _ K95_12.eq_1
def B_spec_l2Ints : C := .seq (.pl <| .st (.ext 4 0) <|
    .st (.act none (.px (some 2) (.mv (.c (.bool false))))) .done) K95_12
@[simp] def WB_spec_l2Ints := @C.wpe _ _ B_spec_l2Ints.eq_1
def R_spec_l2Ints : FIR := ⟨B_spec_l2Ints, 4, [(2, none)]⟩
theorem IR_spec_l2Ints : cfun Try.prog H_spec_l2Ints Try.f95 = some R_spec_l2Ints := by kernel_rfl
theorem EN_spec_l2Ints {args : List Value} {h : Heap} {k : Value → Heap → Prop} (hargs : args.length = 2) (hw : B_spec_l2Ints.wp Try.prog (retQ [(2, none)] k) (env0 args 4) h) : CallE Try.prog fn_spec_l2Ints args h k := enter Try.func95 rfl IR_spec_l2Ints hargs hw

def H_spec_l2Mutate : Hint := ⟨[(0, false), (1, false), (3, true), (4, true), (5, true), (6, false), (31, false)], []⟩
def K15_1 : C := .seq (.pl <| .st (.ext 7 1) <|
    .st (.act none (.pget (some 7) none 4 0 (some 2))) <|
    .st (.act none (.pset none 3 0 2 (.v 7))) .done) (.ret)
@[simp] def W15_1 := @C.wpe _ _ K15_1.eq_1
def K15_2 : Pl := .st (.act none (.als 11 none 4)) <|
    .st (.act none (.pset (some 11) 4 0 1 (.v 10))) .done
@[simp] def W15_2 := @Pl.wpe _ _ K15_2.eq_1
def K15_3 : C := .pl <| .st (.ext 7 5) <|
    .st (.act none (.als 7 none 4)) <|
    .st (.act none (.pget (some 8) (some 7) 4 0 none)) <|
    .st (.act none (.psl 9 [.int .i64 0] [(0, 1, .c (.int .i64 0))])) <|
    .st (.act none (.ex (some 10) (.app 8 1 [.int .i64 0] (.o (.v 8)) (.p 1 9)))) K15_2
@[simp] def W15_3 := @C.wpe _ _ K15_3.eq_1
def K15_4 : Pl := .st (.act none (.als 15 none 4)) <|
    .st (.act none (.pset (some 15) 4 1 1 (.v 14))) .done
@[simp] def W15_4 := @Pl.wpe _ _ K15_4.eq_1
def K15_5 : Pl := .st (.act none (.px (some 12) (.build [.int .i64 0, .slice none 0 0] [(0, 1, .v 11)]))) <|
    .st (.act none (.psl 13 [.int .i64 0, .slice none 0 0] [(0, 2, .v 12)])) <|
    .st (.act none (.ex (some 14) (.app 32 2 [.int .i64 0, .slice none 0 0] (.o (.v 8)) (.p 1 13)))) K15_4
@[simp] def W15_5 := @Pl.wpe _ _ K15_5.eq_1
def K15_6 : Pl := .st (.act none (.ex (some 11) (.call fn_spec_l16Rd_num [.v 9, .v 10]))) K15_5
@[simp] def W15_6 := @Pl.wpe _ _ K15_6.eq_1
def K15_7 : C := .pl <| .st (.ext 7 9) <|
    .st (.act none (.als 7 none 4)) <|
    .st (.act none (.pget (some 8) (some 7) 4 1 none)) <|
    .st (.act none (.px (some 9) (.mv (.v 0)))) <|
    .st (.act none (.ex (some 10) (.bls 1 4 [.int .i64 0] [(0, 1, .c (.int .i64 0)), (1, 1, .c (.int .i64 1)), (2, 1, .c (.int .i64 4)), (3, 1, .c (.int .i64 5))]))) K15_6
@[simp] def W15_7 := @C.wpe _ _ K15_7.eq_1
def K15_8 : Pl := .st (.re 12 (.v 11) none none) <|
    .st (.act none (.px (some 17) (.ia 10 (.v 12) (.c (.int .i64 0))))) <|
    .st (.act none (.px (some 18) (.fa 2 (.v 17)))) <|
    .st (.act none (.ex none (.store 3 (.v 18) (.v 16)))) .done
@[simp] def W15_8 := @Pl.wpe _ _ K15_8.eq_1
def K15_9 : Pl := .st (.re 12 (.v 11) none none) <|
    .st (.act none (.ex (some 16) (.call fn_spec_l1Mutate [.v 13, .v 15]))) K15_8
@[simp] def W15_9 := @Pl.wpe _ _ K15_9.eq_1
def K15_10 : C := .pl <| .st (.ext 7 12) <|
    .st (.act none (.als 7 none 4)) <|
    .st (.act none (.pget (some 8) (some 7) 4 1 none)) <|
    .st (.act none (.px (some 9) (.mv (.v 5)))) <|
    .st (.act none (.px (some 10) (.ia 2 (.v 8) (.v 9)))) <|
    .st (.act none (.px (some 11) (.fa 1 (.v 10)))) <|
    .st (.act none (.ld (some 12) (.v 11) none)) <|
    .st (.act none (.px (some 13) (.mv (.v 0)))) <|
    .st (.act none (.px (some 14) (.mv (.v 0)))) <|
    .st (.act none (.ex (some 15) (.call fn_spec_l1Expr [.v 14]))) K15_9
@[simp] def W15_10 := @C.wpe _ _ K15_10.eq_1
def K15_11 : C := .cond 7 (.v 8) K15_10 (.skip)
@[simp] def W15_11 := @C.wpe _ _ K15_11.eq_1
def K15_12 : C := .seq (.pl <| .st (.ext 7 2) <|
    .st (.act none (.px (some 7) (.mv (.v 5)))) <|
    .st (.act none (.px (some 8) (.bin .geq (.v 7) (.c (.int .i64 0))))) .done) K15_11
@[simp] def W15_12 := @C.wpe _ _ K15_12.eq_1
def K15_13 : Pl := .st (.re 12 (.v 11) none none) <|
    .st (.act none (.px (some 16) (.ia 10 (.v 12) (.c (.int .i64 0))))) <|
    .st (.act none (.px (some 17) (.fa 5 (.v 16)))) <|
    .st (.act none (.ex none (.store 1 (.v 17) (.v 15)))) .done
@[simp] def W15_13 := @Pl.wpe _ _ K15_13.eq_1
def K15_14 : Pl := .st (.re 12 (.v 11) none none) <|
    .st (.act none (.ex (some 15) (.call fn_spec_l16Rd_num [.v 13, .v 14]))) K15_13
@[simp] def W15_14 := @Pl.wpe _ _ K15_14.eq_1
def K15_15 : C := .pl <| .st (.ext 7 11) <|
    .st (.act none (.als 7 none 4)) <|
    .st (.act none (.pget (some 8) (some 7) 4 1 none)) <|
    .st (.act none (.px (some 9) (.mv (.v 5)))) <|
    .st (.act none (.px (some 10) (.ia 2 (.v 8) (.v 9)))) <|
    .st (.act none (.px (some 11) (.fa 1 (.v 10)))) <|
    .st (.act none (.ld (some 12) (.v 11) none)) <|
    .st (.act none (.px (some 13) (.mv (.v 0)))) <|
    .st (.act none (.ex (some 14) (.bls 1 4 [.int .i64 0] [(0, 1, .c (.int .i64 (-1))), (1, 1, .c (.int .i64 3)), (2, 1, .c (.int .i64 0)), (3, 1, .c (.int .i64 (-2)))]))) K15_14
@[simp] def W15_15 := @C.wpe _ _ K15_15.eq_1
def K15_16 : C := .cond 7 (.v 8) K15_15 (.skip)
@[simp] def W15_16 := @C.wpe _ _ K15_16.eq_1
def K15_17 : C := .seq (.pl <| .st (.ext 7 2) <|
    .st (.act none (.px (some 7) (.mv (.v 5)))) <|
    .st (.act none (.px (some 8) (.bin .geq (.v 7) (.c (.int .i64 0))))) .done) K15_16
@[simp] def W15_17 := @C.wpe _ _ K15_17.eq_1
def K15_18 : Pl := .st (.re 12 (.v 11) none none) <|
    .st (.act none (.px (some 16) (.ia 10 (.v 12) (.c (.int .i64 0))))) <|
    .st (.act none (.px (some 17) (.fa 9 (.v 16)))) <|
    .st (.act none (.ex none (.store 1 (.v 17) (.v 15)))) .done
@[simp] def W15_18 := @Pl.wpe _ _ K15_18.eq_1
def K15_19 : Pl := .st (.re 12 (.v 11) none none) <|
    .st (.act none (.ex (some 15) (.call fn_spec_l16Rd_num [.v 13, .v 14]))) K15_18
@[simp] def W15_19 := @Pl.wpe _ _ K15_19.eq_1
def K15_20 : C := .pl <| .st (.ext 7 11) <|
    .st (.act none (.als 7 none 4)) <|
    .st (.act none (.pget (some 8) (some 7) 4 1 none)) <|
    .st (.act none (.px (some 9) (.mv (.v 5)))) <|
    .st (.act none (.px (some 10) (.ia 2 (.v 8) (.v 9)))) <|
    .st (.act none (.px (some 11) (.fa 1 (.v 10)))) <|
    .st (.act none (.ld (some 12) (.v 11) none)) <|
    .st (.act none (.px (some 13) (.mv (.v 0)))) <|
    .st (.act none (.ex (some 14) (.bls 1 4 [.int .i64 0] [(0, 1, .c (.int .i64 3)), (1, 1, .c (.int .i64 (-3))), (2, 1, .c (.int .i64 2)), (3, 1, .c (.int .i64 (-9223372036854775808)))]))) K15_19
@[simp] def W15_20 := @C.wpe _ _ K15_20.eq_1
def K15_21 : C := .cond 7 (.v 8) K15_20 (.skip)
@[simp] def W15_21 := @C.wpe _ _ K15_21.eq_1
def K15_22 : C := .seq (.pl <| .st (.ext 7 2) <|
    .st (.act none (.px (some 7) (.mv (.v 5)))) <|
    .st (.act none (.px (some 8) (.bin .geq (.v 7) (.c (.int .i64 0))))) .done) K15_21
@[simp] def W15_22 := @C.wpe _ _ K15_22.eq_1
def K15_23 : Pl := .st (.re 12 (.v 11) none none) <|
    .st (.act none (.px (some 16) (.ia 10 (.v 12) (.c (.int .i64 0))))) <|
    .st (.act none (.px (some 17) (.fa 1 (.v 16)))) <|
    .st (.act none (.ex none (.store 1 (.v 17) (.v 15)))) .done
@[simp] def W15_23 := @Pl.wpe _ _ K15_23.eq_1
def K15_24 : Pl := .st (.re 12 (.v 11) none none) <|
    .st (.act none (.ex (some 15) (.call fn_spec_l16Rd_num [.v 13, .v 14]))) K15_23
@[simp] def W15_24 := @Pl.wpe _ _ K15_24.eq_1
def K15_25 : C := .pl <| .st (.ext 7 11) <|
    .st (.act none (.als 7 none 4)) <|
    .st (.act none (.pget (some 8) (some 7) 4 1 none)) <|
    .st (.act none (.px (some 9) (.mv (.v 5)))) <|
    .st (.act none (.px (some 10) (.ia 2 (.v 8) (.v 9)))) <|
    .st (.act none (.px (some 11) (.fa 1 (.v 10)))) <|
    .st (.act none (.ld (some 12) (.v 11) none)) <|
    .st (.act none (.px (some 13) (.mv (.v 0)))) <|
    .st (.act none (.ex (some 14) (.bls 1 4 [.int .i64 0] [(0, 1, .c (.int .i64 (-1))), (1, 1, .c (.int .i64 4)), (2, 1, .c (.int .i64 0)), (3, 1, .c (.int .i64 9223372036854775807))]))) K15_24
@[simp] def W15_25 := @C.wpe _ _ K15_25.eq_1
def K15_26 : C := .cond 7 (.v 8) K15_25 (.skip)
@[simp] def W15_26 := @C.wpe _ _ K15_26.eq_1
def K15_27 : C := .seq (.pl <| .st (.ext 7 2) <|
    .st (.act none (.px (some 7) (.mv (.v 5)))) <|
    .st (.act none (.px (some 8) (.bin .geq (.v 7) (.c (.int .i64 0))))) .done) K15_26
@[simp] def W15_27 := @C.wpe _ _ K15_27.eq_1
def K15_28 : C := .seq (.pl <| .st (.ext 7 1) <|
    .st (.act none (.px (some 7) (.build [.slice none 0 0, .slice none 0 0] []))) <|
    .st (.act none (.pset none 3 0 2 (.v 7))) .done) (.ret)
@[simp] def W15_28 := @C.wpe _ _ K15_28.eq_1
def K15_29 : C := .cond 7 (.v 8) K15_28 (.skip)
@[simp] def W15_29 := @C.wpe _ _ K15_29.eq_1
def K15_30 : C := .seq (.pl <| .st (.ext 7 2) <|
    .st (.act none (.px (some 7) (.bin .eql (.v 6) (.c (.int .i64 6))))) <|
    .st (.act none (.px (some 8) (.mv (.v 7)))) .done) K15_29
@[simp] def W15_30 := @C.wpe _ _ K15_30.eq_1
def K15_31 : C := .cond 7 (.v 8) K15_27 K15_30
@[simp] def W15_31 := @C.wpe _ _ K15_31.eq_1
def K15_32 : C := .seq (.pl <| .st (.ext 7 2) <|
    .st (.act none (.px (some 7) (.bin .eql (.v 6) (.c (.int .i64 5))))) <|
    .st (.act none (.px (some 8) (.mv (.v 7)))) .done) K15_31
@[simp] def W15_32 := @C.wpe _ _ K15_32.eq_1
def K15_33 : C := .cond 7 (.v 8) K15_22 K15_32
@[simp] def W15_33 := @C.wpe _ _ K15_33.eq_1
def K15_34 : C := .seq (.pl <| .st (.ext 7 2) <|
    .st (.act none (.px (some 7) (.bin .eql (.v 6) (.c (.int .i64 4))))) <|
    .st (.act none (.px (some 8) (.mv (.v 7)))) .done) K15_33
@[simp] def W15_34 := @C.wpe _ _ K15_34.eq_1
def K15_35 : C := .cond 7 (.v 8) K15_17 K15_34
@[simp] def W15_35 := @C.wpe _ _ K15_35.eq_1
def K15_36 : C := .seq (.pl <| .st (.ext 7 2) <|
    .st (.act none (.px (some 7) (.bin .eql (.v 6) (.c (.int .i64 3))))) <|
    .st (.act none (.px (some 8) (.mv (.v 7)))) .done) K15_35
@[simp] def W15_36 := @C.wpe _ _ K15_36.eq_1
def K15_37 : C := .cond 7 (.v 8) K15_12 K15_36
@[simp] def W15_37 := @C.wpe _ _ K15_37.eq_1
def K15_38 : C := .seq (.pl <| .st (.ext 7 2) <|
    .st (.act none (.px (some 7) (.bin .eql (.v 6) (.c (.int .i64 2))))) <|
    .st (.act none (.px (some 8) (.mv (.v 7)))) .done) K15_37
@[simp] def W15_38 := @C.wpe _ _ K15_38.eq_1
def K15_39 : C := .cond 7 (.v 8) K15_7 K15_38
@[simp] def W15_39 := @C.wpe _ _ K15_39.eq_1
def K15_40 : C := .seq (.pl <| .st (.ext 7 2) <|
    .st (.act none (.px (some 7) (.bin .eql (.v 6) (.c (.int .i64 1))))) <|
    .st (.act none (.px (some 8) (.mv (.v 7)))) .done) K15_39
@[simp] def W15_40 := @C.wpe _ _ K15_40.eq_1
def K15_41 : C := .cond 7 (.v 8) K15_3 K15_40
@[simp] def W15_41 := @C.wpe _ _ K15_41.eq_1
def K15_42 : C := .block 0 (.seq (.pl <| .st (.ext 7 2) <|
    .st (.act none (.px (some 7) (.bin .eql (.v 6) (.c (.int .i64 0))))) <|
    .st (.act none (.px (some 8) (.mv (.v 7)))) .done) K15_41)
@[simp] def W15_42 := @C.wpe _ _ K15_42.eq_1
def K15_43 : C := .seq (.seq (.pl <| .st (.ext 7 1) <|
    .st (.act none (.px (some 7) (.mv (.v 0)))) <|
    .st (.act none (.ex (some 6) (.call fn_spec_l16Rd_pick [.v 7, .c (.int .i64 50)]))) .done) K15_42) K15_1
@[simp] def W15_43 := @C.wpe _ _ K15_43.eq_1
def K15_44 : C := .pl <| .st (.ext 7 0) <|
    .st (.act none (.px (some 5) (.mv (.c (.int .i64 (-1)))))) .done
@[simp] def W15_44 := @C.wpe _ _ K15_44.eq_1
def K15_45 : C := .cond 7 (.v 21) K15_44 (.skip)
@[simp] def W15_45 := @C.wpe _ _ K15_45.eq_1
def K15_46 : C := .seq (.seq (.pl <| .st (.ext 7 15) <|
    .st (.act none (.px (some 7) (.mv (.v 5)))) <|
    .st (.act none (.als 8 none 2)) <|
    .st (.act none (.pget (some 9) (some 8) 2 1 none)) <|
    .st (.act none (.px (some 10) (.lenV (.v 9)))) <|
    .st (.act none (.px (some 11) (.bin .eql (.v 7) (.v 10)))) <|
    .st (.act none (.px (some 12) (.mv (.v 11)))) <|
    .st (.act (some (.v 12, false)) (.als 13 none 4)) <|
    .st (.act (some (.v 12, false)) (.pget (some 14) (some 13) 4 1 none)) <|
    .st (.act (some (.v 12, false)) (.px (some 15) (.mv (.v 5)))) <|
    .st (.act (some (.v 12, false)) (.px (some 16) (.ia 2 (.v 14) (.v 15)))) <|
    .st (.act (some (.v 12, false)) (.px (some 17) (.fa 1 (.v 16)))) <|
    .st (.act (some (.v 12, false)) (.ld (some 18) (.v 17) none)) <|
    .st (.act (some (.v 12, false)) (.px (some 19) (.lenV (.v 18)))) <|
    .st (.act (some (.v 12, false)) (.px (some 20) (.bin .eql (.v 19) (.c (.int .i64 0))))) <|
    .st (.act none (.px (some 21) (.pick (.v 12) (.c (.bool true)) (.v 20)))) .done) K15_45) K15_43
@[simp] def W15_46 := @C.wpe _ _ K15_46.eq_1
def K15_47 : Pl := .st (.act none (.px (some 5) (.mv (.v 12)))) .done
@[simp] def W15_47 := @Pl.wpe _ _ K15_47.eq_1
def K15_48 : C := .seq (.pl <| .st (.ext 7 6) <|
    .st (.act none (.px (some 7) (.mv (.v 0)))) <|
    .st (.act none (.als 8 none 2)) <|
    .st (.act none (.pget (some 9) (some 8) 2 1 none)) <|
    .st (.act none (.px (some 10) (.lenV (.v 9)))) <|
    .st (.act none (.px (some 11) (.bin .add (.v 10) (.c (.int .i64 1))))) <|
    .st (.act none (.ex (some 12) (.call fn_spec_l16Rd_pick [.v 7, .v 11]))) K15_47) K15_46
@[simp] def W15_48 := @C.wpe _ _ K15_48.eq_1
def K15_49 : Pl := .st (.act none (.pnew 4 (.c (.agg #[.slice none 0 0, .slice none 0 0])) [])) <|
    .st (.act none (.pset none 4 0 2 (.v 8))) .done
@[simp] def W15_49 := @Pl.wpe _ _ K15_49.eq_1
def K15_50 : C := .seq (.pl <| .st (.ext 7 2) <|
    .st (.act none (.pget (some 7) none 2 0 (some 2))) <|
    .st (.act none (.ex (some 8) (.call fn_spec_l2Copy [.v 7]))) K15_49) K15_48
@[simp] def W15_50 := @C.wpe _ _ K15_50.eq_1
def B_spec_l2Mutate : C := .seq (.pl <| .st (.ext 7 0) <|
    .st (.act none (.pnew 2 (.v 1) [])) <|
    .st (.act none (.pnew 3 (.c (.agg #[.slice none 0 0, .slice none 0 0])) [])) .done) K15_50
@[simp] def WB_spec_l2Mutate := @C.wpe _ _ B_spec_l2Mutate.eq_1
def R_spec_l2Mutate : FIR := ⟨B_spec_l2Mutate, 7, [(3, some (some 2))]⟩
theorem IR_spec_l2Mutate : cfun Try.prog H_spec_l2Mutate Try.f15 = some R_spec_l2Mutate := by kernel_rfl
theorem EN_spec_l2Mutate {args : List Value} {h : Heap} {k : Value → Heap → Prop} (hargs : args.length = 2) (hw : B_spec_l2Mutate.wp Try.prog (retQ [(3, some (some 2))] k) (env0 args 7) h) : CallE Try.prog fn_spec_l2Mutate args h k := enter Try.func15 rfl IR_spec_l2Mutate hargs hw

def H_spec_l2None : Hint := ⟨[(0, false), (1, true), (2, false)], []⟩
def K94_1 : C := .seq (.pl <| .st (.ext 3 14) <|
    .st (.act none (.als 3 none 1)) <|
    .st (.act none (.pget (some 4) (some 3) 1 0 none)) <|
    .st (.act none (.px (some 5) (.bin .eql (.v 4) (.c (.int .i64 0))))) <|
    .st (.act none (.px (some 6) (.mv (.v 5)))) <|
    .st (.act (some (.v 6, true)) (.als 7 none 1)) <|
    .st (.act (some (.v 6, true)) (.pget (some 8) (some 7) 1 1 none)) <|
    .st (.act (some (.v 6, true)) (.px (some 9) (.bin .eql (.v 8) (.c (.int .i64 0))))) <|
    .st (.act none (.px (some 10) (.pick (.v 6) (.v 9) (.c (.bool false))))) <|
    .st (.act none (.px (some 11) (.mv (.v 10)))) <|
    .st (.act (some (.v 11, true)) (.als 12 none 1)) <|
    .st (.act (some (.v 11, true)) (.pget (some 13) (some 12) 1 2 none)) <|
    .st (.act (some (.v 11, true)) (.px (some 14) (.lenV (.v 13)))) <|
    .st (.act (some (.v 11, true)) (.px (some 15) (.bin .eql (.v 14) (.c (.int .i64 0))))) <|
    .st (.act none (.px (some 16) (.pick (.v 11) (.v 15) (.c (.bool false))))) <|
    .st (.act none (.px (some 2) (.mv (.v 16)))) .done) (.ret)
@[simp] def W94_1 := @C.wpe _ _ K94_1.eq_1
def B_spec_l2None : C := .seq (.pl <| .st (.ext 3 0) <|
    .st (.act none (.pnew 1 (.v 0) [])) <|
    .st (.act none (.px (some 2) (.mv (.c (.bool false))))) .done) K94_1
@[simp] def WB_spec_l2None := @C.wpe _ _ B_spec_l2None.eq_1
def R_spec_l2None : FIR := ⟨B_spec_l2None, 3, [(2, none)]⟩
theorem IR_spec_l2None : cfun Try.prog H_spec_l2None Try.f94 = some R_spec_l2None := by kernel_rfl
theorem EN_spec_l2None {args : List Value} {h : Heap} {k : Value → Heap → Prop} (hargs : args.length = 1) (hw : B_spec_l2None.wp Try.prog (retQ [(2, none)] k) (env0 args 3) h) : CallE Try.prog fn_spec_l2None args h k := enter Try.func94 rfl IR_spec_l2None hargs hw

def H_spec_l2Process : Hint := ⟨[(0, false), (1, true), (2, false), (3, false)], [[0, 2]]⟩
def K46_1 : C := .seq (.pl <| .st (.ext 4 14) <|
    .st (.act none (.als 4 none 1)) <|
    .st (.act none (.pget (some 5) (some 4) 1 0 none)) <|
    .st (.act none (.px (some 6) (.bin .geq (.v 5) (.c (.int .i64 1))))) <|
    .st (.act none (.px (some 7) (.mv (.v 6)))) <|
    .st (.act (some (.v 7, true)) (.als 8 none 1)) <|
    .st (.act (some (.v 7, true)) (.pget (some 9) (some 8) 1 0 none)) <|
    .st (.act (some (.v 7, true)) (.px (some 10) (.bin .leq (.v 9) (.c (.int .i64 4))))) <|
    .st (.act none (.px (some 11) (.pick (.v 7) (.v 10) (.c (.bool false))))) <|
    .st (.act none (.px (some 12) (.mv (.v 11)))) <|
    .st (.act (some (.v 12, true)) (.als 13 none 1)) <|
    .st (.act (some (.v 12, true)) (.pget (some 14) (some 13) 1 1 none)) <|
    .st (.act (some (.v 12, true)) (.px (some 15) (.lenV (.v 14)))) <|
    .st (.act (some (.v 12, true)) (.px (some 16) (.bin .leq (.v 15) (.c (.int .i64 6))))) <|
    .st (.act none (.px (some 17) (.pick (.v 12) (.v 16) (.c (.bool false))))) <|
    .st (.act none (.px (some 2) (.mv (.v 17)))) .done) (.ret)
@[simp] def W46_1 := @C.wpe _ _ K46_1.eq_1
def K46_2 : C := .pl <| .st (.ext 4 2) <|
    .st (.act none (.px (some 4) (.mv (.v 3)))) <|
    .st (.act none (.px (some 5) (.bin .add (.v 4) (.c (.int .i64 1))))) <|
    .st (.act none (.px (some 3) (.mv (.v 5)))) .done
@[simp] def W46_2 := @C.wpe _ _ K46_2.eq_1
def K46_3 : C := .seq (.pl <| .st (.ext 4 0) <|
    .st (.act none (.px (some 2) (.mv (.c (.bool false))))) .done) (.ret)
@[simp] def W46_3 := @C.wpe _ _ K46_3.eq_1
def K46_4 : C := .cond 4 (.v 12) K46_3 (.skip)
@[simp] def W46_4 := @C.wpe _ _ K46_4.eq_1
def K46_5 : Pl := .st (.act none (.px (some 12) (.un .not (.v 11)))) .done
@[simp] def W46_5 := @Pl.wpe _ _ K46_5.eq_1
def K46_6 : C := .seq (.block 1 (.seq (.pl <| .st (.ext 4 9) <|
    .st (.act none (.als 4 none 1)) <|
    .st (.act none (.pget (some 5) (some 4) 1 1 none)) <|
    .st (.act none (.px (some 6) (.mv (.v 3)))) <|
    .st (.act none (.px (some 7) (.ia 10 (.v 5) (.v 6)))) <|
    .st (.act none (.ld (some 8) (.v 7) (some 10))) <|
    .st (.act none (.als 9 none 1)) <|
    .st (.act none (.pget (some 10) (some 9) 1 0 none)) <|
    .st (.act none (.ex (some 11) (.call fn_spec_EdgeValid [.v 8, .v 10]))) K46_5) K46_4)) K46_2
@[simp] def W46_6 := @C.wpe _ _ K46_6.eq_1
def K46_7 : C := .cond 4 (.v 8) (.skip) (.exit 0)
@[simp] def W46_7 := @C.wpe _ _ K46_7.eq_1
def K46_8 : C := .seq (.seq (.pl <| .st (.ext 4 5) <|
    .st (.act none (.px (some 4) (.mv (.v 3)))) <|
    .st (.act none (.als 5 none 1)) <|
    .st (.act none (.pget (some 6) (some 5) 1 1 none)) <|
    .st (.act none (.px (some 7) (.lenV (.v 6)))) <|
    .st (.act none (.px (some 8) (.bin .lss (.v 4) (.v 7)))) .done) K46_7) K46_6
@[simp] def W46_8 := @C.wpe _ _ K46_8.eq_1
def K46_9 : C := .block 0 (.loop 4 [0, 2] K46_8)
@[simp] def W46_9 := @C.wpe _ _ K46_9.eq_1
def K46_10 : C := .seq (.seq (.pl <| .st (.ext 4 0) <|
    .st (.act none (.px (some 3) (.mv (.c (.int .i64 0))))) .done) K46_9) K46_1
@[simp] def W46_10 := @C.wpe _ _ K46_10.eq_1
def B_spec_l2Process : C := .seq (.pl <| .st (.ext 4 0) <|
    .st (.act none (.pnew 1 (.v 0) [])) <|
    .st (.act none (.px (some 2) (.mv (.c (.bool false))))) .done) K46_10
@[simp] def WB_spec_l2Process := @C.wpe _ _ B_spec_l2Process.eq_1
def R_spec_l2Process : FIR := ⟨B_spec_l2Process, 4, [(2, none)]⟩
theorem IR_spec_l2Process : cfun Try.prog H_spec_l2Process Try.f46 = some R_spec_l2Process := by kernel_rfl
theorem EN_spec_l2Process {args : List Value} {h : Heap} {k : Value → Heap → Prop} (hargs : args.length = 1) (hw : B_spec_l2Process.wp Try.prog (retQ [(2, none)] k) (env0 args 4) h) : CallE Try.prog fn_spec_l2Process args h k := enter Try.func46 rfl IR_spec_l2Process hargs hw

def H_spec_l2System : Hint := ⟨[(0, false), (2, true), (3, true), (4, false), (5, true), (6, false)], [[4, 5], []]⟩
def K16_1 : C := .seq (.pl <| .st (.ext 6 1) <|
    .st (.act none (.pget (some 6) none 2 0 (some 2))) <|
    .st (.act none (.pset none 1 0 2 (.v 6))) .done) (.ret)
@[simp] def W16_1 := @C.wpe _ _ K16_1.eq_1
def K16_2 : C := .pl <| .st (.ext 6 2) <|
    .st (.act none (.px (some 6) (.mv (.v 3)))) <|
    .st (.act none (.px (some 7) (.bin .sub (.v 6) (.c (.int .i64 1))))) <|
    .st (.act none (.px (some 3) (.mv (.v 7)))) .done
@[simp] def W16_2 := @C.wpe _ _ K16_2.eq_1
def K16_3 : Pl := .st (.act none (.als 11 none 2)) <|
    .st (.act none (.pset (some 11) 2 1 1 (.v 10))) .done
@[simp] def W16_3 := @Pl.wpe _ _ K16_3.eq_1
def K16_4 : C := .pl <| .st (.ext 6 6) <|
    .st (.act none (.als 6 none 2)) <|
    .st (.act none (.pget (some 7) (some 6) 2 1 none)) <|
    .st (.act none (.pget (some 8) none 4 0 (some 2))) <|
    .st (.act none (.psl 9 [.int .i64 0, .slice none 0 0] [(0, 2, .v 8)])) <|
    .st (.act none (.ex (some 10) (.app 32 2 [.int .i64 0, .slice none 0 0] (.o (.v 7)) (.p 1 9)))) K16_3
@[simp] def W16_4 := @C.wpe _ _ K16_4.eq_1
def K16_5 : C := .pl <| .st (.ext 6 2) <|
    .st (.act none (.px (some 6) (.mv (.v 5)))) <|
    .st (.act none (.px (some 7) (.bin .sub (.v 6) (.c (.int .i64 1))))) <|
    .st (.act none (.px (some 5) (.mv (.v 7)))) .done
@[simp] def W16_5 := @C.wpe _ _ K16_5.eq_1
def K16_6 : Pl := .st (.act none (.als 14 none 4)) <|
    .st (.act none (.pset (some 14) 4 1 1 (.v 13))) .done
@[simp] def W16_6 := @Pl.wpe _ _ K16_6.eq_1
def K16_7 : Pl := .st (.act none (.psl 12 [.int .i64 0, .int .i64 0, .int .i64 0, .int .i64 0, .slice none 0 0, .int .i64 0, .int .i64 0, .int .i64 0, .slice none 0 0, .int .i64 0] [(0, 10, .v 11)])) <|
    .st (.act none (.ex (some 13) (.app 112 10 [.int .i64 0, .int .i64 0, .int .i64 0, .int .i64 0, .slice none 0 0, .int .i64 0, .int .i64 0, .int .i64 0, .slice none 0 0, .int .i64 0] (.o (.v 7)) (.p 1 12)))) K16_6
@[simp] def W16_7 := @Pl.wpe _ _ K16_7.eq_1
def K16_8 : C := .seq (.block 3 (.pl <| .st (.ext 6 9) <|
    .st (.act none (.als 6 none 4)) <|
    .st (.act none (.pget (some 7) (some 6) 4 1 none)) <|
    .st (.act none (.px (some 8) (.mv (.v 0)))) <|
    .st (.act none (.als 9 none 4)) <|
    .st (.act none (.pget (some 10) (some 9) 4 0 none)) <|
    .st (.act none (.ex (some 11) (.call fn_spec_l2DrawEdge [.v 8, .v 10]))) K16_7)) K16_5
@[simp] def W16_8 := @C.wpe _ _ K16_8.eq_1
def K16_9 : C := .cond 6 (.v 7) (.skip) (.exit 2)
@[simp] def W16_9 := @C.wpe _ _ K16_9.eq_1
def K16_10 : C := .seq (.seq (.pl <| .st (.ext 6 2) <|
    .st (.act none (.px (some 6) (.mv (.v 5)))) <|
    .st (.act none (.px (some 7) (.bin .gtr (.v 6) (.c (.int .i64 0))))) .done) K16_9) K16_8
@[simp] def W16_10 := @C.wpe _ _ K16_10.eq_1
def K16_11 : C := .block 2 (.loop 6 [] K16_10)
@[simp] def W16_11 := @C.wpe _ _ K16_11.eq_1
def K16_12 : Pl := .st (.act none (.px (some 5) (.mv (.v 8)))) .done
@[simp] def W16_12 := @Pl.wpe _ _ K16_12.eq_1
def K16_13 : Pl := .st (.act none (.ex (some 8) (.call fn_spec_l16Rd_num [.v 6, .v 7]))) K16_12
@[simp] def W16_13 := @Pl.wpe _ _ K16_13.eq_1
def K16_14 : C := .seq (.seq (.pl <| .st (.ext 6 3) <|
    .st (.act none (.px (some 6) (.mv (.v 0)))) <|
    .st (.act none (.ex (some 7) (.bls 1 5 [.int .i64 0] [(0, 1, .c (.int .i64 3)), (1, 1, .c (.int .i64 4)), (2, 1, .c (.int .i64 2)), (3, 1, .c (.int .i64 5)), (4, 1, .c (.int .i64 1))]))) K16_13) K16_11) K16_4
@[simp] def W16_14 := @C.wpe _ _ K16_14.eq_1
def K16_15 : Pl := .st (.act none (.px (some 9) (.build [.int .i64 0, .slice none 0 0] [(0, 1, .v 8)]))) <|
    .st (.act none (.pnew 4 (.c (.agg #[.int .i64 0, .slice none 0 0])) [])) <|
    .st (.act none (.pset none 4 0 2 (.v 9))) .done
@[simp] def W16_15 := @Pl.wpe _ _ K16_15.eq_1
def K16_16 : Pl := .st (.act none (.ex (some 8) (.call fn_spec_l16Rd_num [.v 6, .v 7]))) K16_15
@[simp] def W16_16 := @Pl.wpe _ _ K16_16.eq_1
def K16_17 : C := .seq (.block 1 (.seq (.pl <| .st (.ext 6 4) <|
    .st (.act none (.px (some 6) (.mv (.v 0)))) <|
    .st (.act none (.ex (some 7) (.bls 1 4 [.int .i64 0] [(0, 1, .c (.int .i64 2)), (1, 1, .c (.int .i64 3)), (2, 1, .c (.int .i64 1)), (3, 1, .c (.int .i64 2))]))) K16_16) K16_14)) K16_2
@[simp] def W16_17 := @C.wpe _ _ K16_17.eq_1
def K16_18 : C := .cond 6 (.v 7) (.skip) (.exit 0)
@[simp] def W16_18 := @C.wpe _ _ K16_18.eq_1
def K16_19 : C := .seq (.seq (.pl <| .st (.ext 6 2) <|
    .st (.act none (.px (some 6) (.mv (.v 3)))) <|
    .st (.act none (.px (some 7) (.bin .gtr (.v 6) (.c (.int .i64 0))))) .done) K16_18) K16_17
@[simp] def W16_19 := @C.wpe _ _ K16_19.eq_1
def K16_20 : C := .block 0 (.loop 6 [4, 5] K16_19)
@[simp] def W16_20 := @C.wpe _ _ K16_20.eq_1
def K16_21 : Pl := .st (.act none (.px (some 3) (.mv (.v 8)))) .done
@[simp] def W16_21 := @Pl.wpe _ _ K16_21.eq_1
def K16_22 : Pl := .st (.act none (.ex (some 8) (.call fn_spec_l16Rd_num [.v 6, .v 7]))) K16_21
@[simp] def W16_22 := @Pl.wpe _ _ K16_22.eq_1
def K16_23 : C := .seq (.seq (.pl <| .st (.ext 6 3) <|
    .st (.act none (.px (some 6) (.mv (.v 0)))) <|
    .st (.act none (.ex (some 7) (.bls 1 4 [.int .i64 0] [(0, 1, .c (.int .i64 2)), (1, 1, .c (.int .i64 1)), (2, 1, .c (.int .i64 2)), (3, 1, .c (.int .i64 3))]))) K16_22) K16_20) K16_1
@[simp] def W16_23 := @C.wpe _ _ K16_23.eq_1
def K16_24 : Pl := .st (.act none (.px (some 12) (.build [.slice none 0 0, .slice none 0 0] [(0, 1, .v 11)]))) <|
    .st (.act none (.pnew 2 (.c (.agg #[.slice none 0 0, .slice none 0 0])) [])) <|
    .st (.act none (.pset none 2 0 2 (.v 12))) .done
@[simp] def W16_24 := @Pl.wpe _ _ K16_24.eq_1
def K16_25 : Pl := .st (.act none (.ex (some 11) (.bls 1 3 [.int .i64 0] [(0, 1, .v 7), (1, 1, .v 10), (2, 1, .c (.int .i64 0))]))) K16_24
@[simp] def W16_25 := @Pl.wpe _ _ K16_25.eq_1
def K16_26 : Pl := .st (.act none (.ex (some 10) (.call fn_spec_l16Rd_num [.v 8, .v 9]))) K16_25
@[simp] def W16_26 := @Pl.wpe _ _ K16_26.eq_1
def K16_27 : Pl := .st (.act none (.px (some 8) (.mv (.v 0)))) <|
    .st (.act none (.ex (some 9) (.bls 1 4 [.int .i64 0] [(0, 1, .c (.int .i64 0)), (1, 1, .c (.int .i64 0)), (2, 1, .c (.int .i64 1)), (3, 1, .c (.int .i64 3))]))) K16_26
@[simp] def W16_27 := @Pl.wpe _ _ K16_27.eq_1
def K16_28 : C := .seq (.pl <| .st (.ext 6 7) <|
    .st (.act none (.px (some 6) (.mv (.v 0)))) <|
    .st (.act none (.ex (some 7) (.call fn_spec_l16Rd_pick [.v 6, .c (.int .i64 2)]))) K16_27) K16_23
@[simp] def W16_28 := @C.wpe _ _ K16_28.eq_1
def B_spec_l2System : C := .seq (.pl <| .st (.ext 6 0) <|
    .st (.act none (.pnew 1 (.c (.agg #[.slice none 0 0, .slice none 0 0])) [])) .done) K16_28
@[simp] def WB_spec_l2System := @C.wpe _ _ B_spec_l2System.eq_1
def R_spec_l2System : FIR := ⟨B_spec_l2System, 6, [(1, some (some 2))]⟩
theorem IR_spec_l2System : cfun Try.prog H_spec_l2System Try.f16 = some R_spec_l2System := by kernel_rfl
theorem EN_spec_l2System {args : List Value} {h : Heap} {k : Value → Heap → Prop} (hargs : args.length = 1) (hw : B_spec_l2System.wp Try.prog (retQ [(1, some (some 2))] k) (env0 args 6) h) : CallE Try.prog fn_spec_l2System args h k := enter Try.func16 rfl IR_spec_l2System hargs hw

def H_spec_l3Apply : Hint := ⟨[(0, false), (1, false), (2, false), (3, true), (4, true), (5, true), (6, true), (7, true)], []⟩
def K51_1 : C := .seq (.pl <| .st (.ext 8 1) <|
    .st (.act none (.pget (some 8) none 7 0 (some 2))) <|
    .st (.act none (.pset none 6 0 2 (.v 8))) .done) (.ret)
@[simp] def W51_1 := @C.wpe _ _ K51_1.eq_1
def K51_2 : Pl := .st (.act none (.pset none 7 0 2 (.v 22))) .done
@[simp] def W51_2 := @Pl.wpe _ _ K51_2.eq_1
def K51_3 : C := .pl <| .st (.ext 8 15) <|
    .st (.act none (.pget (some 8) none 7 0 (some 2))) <|
    .st (.act none (.als 9 none 5)) <|
    .st (.act none (.pget (some 10) (some 9) 5 2 none)) <|
    .st (.act none (.als 11 none 3)) <|
    .st (.act none (.pget (some 12) (some 11) 3 1 none)) <|
    .st (.act none (.als 13 none 5)) <|
    .st (.act none (.pget (some 14) (some 13) 5 2 none)) <|
    .st (.act none (.px (some 15) (.ia 2 (.v 12) (.v 14)))) <|
    .st (.act none (.px (some 16) (.fa 1 (.v 15)))) <|
    .st (.act none (.ld (some 17) (.v 16) none)) <|
    .st (.act none (.als 18 none 5)) <|
    .st (.act none (.pget (some 19) (some 18) 5 3 none)) <|
    .st (.act none (.px (some 20) (.ia 10 (.v 17) (.v 19)))) <|
    .st (.act none (.ld (some 21) (.v 20) (some 10))) <|
    .st (.act none (.ex (some 22) (.call fn_spec_l3Take [.v 8, .v 10, .v 21]))) K51_2
@[simp] def W51_3 := @C.wpe _ _ K51_3.eq_1
def K51_4 : C := .cond 8 (.v 10) K51_3 (.skip)
@[simp] def W51_4 := @C.wpe _ _ K51_4.eq_1
def K51_5 : C := .seq (.seq (.pl <| .st (.ext 8 3) <|
    .st (.act none (.als 8 none 5)) <|
    .st (.act none (.pget (some 9) (some 8) 5 2 none)) <|
    .st (.act none (.px (some 10) (.bin .geq (.v 9) (.c (.int .i64 0))))) .done) K51_4) K51_1
@[simp] def W51_5 := @C.wpe _ _ K51_5.eq_1
def K51_6 : Pl := .st (.act none (.pset none 7 0 2 (.v 22))) .done
@[simp] def W51_6 := @Pl.wpe _ _ K51_6.eq_1
def K51_7 : C := .seq (.pl <| .st (.ext 8 15) <|
    .st (.act none (.pget (some 8) none 7 0 (some 2))) <|
    .st (.act none (.als 9 none 5)) <|
    .st (.act none (.pget (some 10) (some 9) 5 0 none)) <|
    .st (.act none (.als 11 none 3)) <|
    .st (.act none (.pget (some 12) (some 11) 3 1 none)) <|
    .st (.act none (.als 13 none 5)) <|
    .st (.act none (.pget (some 14) (some 13) 5 0 none)) <|
    .st (.act none (.px (some 15) (.ia 2 (.v 12) (.v 14)))) <|
    .st (.act none (.px (some 16) (.fa 1 (.v 15)))) <|
    .st (.act none (.ld (some 17) (.v 16) none)) <|
    .st (.act none (.als 18 none 5)) <|
    .st (.act none (.pget (some 19) (some 18) 5 1 none)) <|
    .st (.act none (.px (some 20) (.ia 10 (.v 17) (.v 19)))) <|
    .st (.act none (.ld (some 21) (.v 20) (some 10))) <|
    .st (.act none (.ex (some 22) (.call fn_spec_l3Take [.v 8, .v 10, .v 21]))) K51_6) K51_5
@[simp] def W51_7 := @C.wpe _ _ K51_7.eq_1
def K51_8 : Pl := .st (.act none (.px (some 16) (.build [.slice none 0 0, .slice none 0 0] [(0, 1, .v 11), (1, 1, .v 15)]))) <|
    .st (.act none (.pset none 7 0 2 (.v 16))) .done
@[simp] def W51_8 := @Pl.wpe _ _ K51_8.eq_1
def K51_9 : Pl := .st (.act none (.ex (some 15) (.app 8 1 [.int .i64 0] (.p 0 12) (.o (.v 14))))) K51_8
@[simp] def W51_9 := @Pl.wpe _ _ K51_9.eq_1
def K51_10 : C := .seq (.pl <| .st (.ext 8 9) <|
    .st (.act none (.psl 8 [] [])) <|
    .st (.act none (.als 9 none 4)) <|
    .st (.act none (.pget (some 10) (some 9) 4 0 none)) <|
    .st (.act none (.psl 12 [] [])) <|
    .st (.act none (.als 13 none 4)) <|
    .st (.act none (.pget (some 14) (some 13) 4 1 none)) <|
    .st (.act none (.pnew 7 (.c (.agg #[.slice none 0 0, .slice none 0 0])) [])) <|
    .st (.act none (.ex (some 11) (.app 8 1 [.int .i64 0] (.p 0 8) (.o (.v 10))))) K51_9) K51_7
@[simp] def W51_10 := @C.wpe _ _ K51_10.eq_1
def B_spec_l3Apply : C := .seq (.pl <| .st (.ext 8 0) <|
    .st (.act none (.pnew 3 (.v 0) [])) <|
    .st (.act none (.pnew 4 (.v 1) [])) <|
    .st (.act none (.pnew 5 (.v 2) [])) <|
    .st (.act none (.pnew 6 (.c (.agg #[.slice none 0 0, .slice none 0 0])) [])) .done) K51_10
@[simp] def WB_spec_l3Apply := @C.wpe _ _ B_spec_l3Apply.eq_1
def R_spec_l3Apply : FIR := ⟨B_spec_l3Apply, 8, [(6, some (some 2))]⟩
theorem IR_spec_l3Apply : cfun Try.prog H_spec_l3Apply Try.f51 = some R_spec_l3Apply := by kernel_rfl
theorem EN_spec_l3Apply {args : List Value} {h : Heap} {k : Value → Heap → Prop} (hargs : args.length = 3) (hw : B_spec_l3Apply.wp Try.prog (retQ [(6, some (some 2))] k) (env0 args 8) h) : CallE Try.prog fn_spec_l3Apply args h k := enter Try.func51 rfl IR_spec_l3Apply hargs hw

def H_spec_l3Partners : Hint := ⟨[(0, false), (1, false), (2, false), (3, false), (4, true), (5, true), (8, false), (9, false), (10, false), (11, false), (12, false)], [[0, 1, 6, 10], [0, 1, 6]]⟩
def K61_1 : C := .seq (.pl <| .st (.ext 11 1) <|
    .st (.act none (.px (some 11) (.mv (.v 7)))) <|
    .st (.act none (.px (some 6) (.mv (.v 11)))) .done) (.ret)
@[simp] def W61_1 := @C.wpe _ _ K61_1.eq_1
def K61_2 : C := .pl <| .st (.ext 11 2) <|
    .st (.act none (.px (some 11) (.mv (.v 9)))) <|
    .st (.act none (.px (some 12) (.bin .add (.v 11) (.c (.int .i64 1))))) <|
    .st (.act none (.px (some 9) (.mv (.v 12)))) .done
@[simp] def W61_2 := @C.wpe _ _ K61_2.eq_1
def K61_3 : C := .pl <| .st (.ext 11 2) <|
    .st (.act none (.px (some 11) (.mv (.v 10)))) <|
    .st (.act none (.px (some 12) (.bin .add (.v 11) (.c (.int .i64 1))))) <|
    .st (.act none (.px (some 10) (.mv (.v 12)))) .done
@[simp] def W61_3 := @C.wpe _ _ K61_3.eq_1
def K61_4 : Pl := .st (.act none (.px (some 7) (.mv (.v 18)))) .done
@[simp] def W61_4 := @Pl.wpe _ _ K61_4.eq_1
def K61_5 : C := .pl <| .st (.ext 11 8) <|
    .st (.act none (.px (some 11) (.mv (.v 7)))) <|
    .st (.act none (.px (some 12) (.mv (.v 2)))) <|
    .st (.act none (.px (some 13) (.mv (.v 3)))) <|
    .st (.act none (.px (some 14) (.mv (.v 9)))) <|
    .st (.act none (.px (some 15) (.mv (.v 10)))) <|
    .st (.act none (.px (some 16) (.build [.int .i64 0, .int .i64 0, .int .i64 0, .int .i64 0] [(0, 1, .v 12), (1, 1, .v 13), (2, 1, .v 14), (3, 1, .v 15)]))) <|
    .st (.act none (.psl 17 [.int .i64 0, .int .i64 0, .int .i64 0, .int .i64 0] [(0, 4, .v 16)])) <|
    .st (.act none (.ex (some 18) (.app 32 4 [.int .i64 0, .int .i64 0, .int .i64 0, .int .i64 0] (.o (.v 11)) (.p 1 17)))) K61_4
@[simp] def W61_5 := @C.wpe _ _ K61_5.eq_1
def K61_6 : C := .cond 11 (.v 35) K61_5 (.skip)
@[simp] def W61_6 := @C.wpe _ _ K61_6.eq_1
def K61_7 : Pl := .st (.act none (.px (some 35) (.pick (.v 29) (.v 34) (.c (.bool false))))) .done
@[simp] def W61_7 := @Pl.wpe _ _ K61_7.eq_1
def K61_8 : C := .seq (.block 3 (.seq (.pl <| .st (.ext 11 25) <|
    .st (.act none (.px (some 11) (.mv (.v 9)))) <|
    .st (.act none (.px (some 12) (.mv (.v 2)))) <|
    .st (.act none (.px (some 13) (.bin .neq (.v 11) (.v 12)))) <|
    .st (.act none (.px (some 14) (.mv (.v 13)))) <|
    .st (.act (some (.v 14, true)) (.als 15 none 4)) <|
    .st (.act (some (.v 14, true)) (.pget (some 16) (some 15) 4 1 none)) <|
    .st (.act (some (.v 14, true)) (.px (some 17) (.mv (.v 9)))) <|
    .st (.act (some (.v 14, true)) (.px (some 18) (.ia 2 (.v 16) (.v 17)))) <|
    .st (.act (some (.v 14, true)) (.px (some 19) (.fa 1 (.v 18)))) <|
    .st (.act (some (.v 14, true)) (.ld (some 20) (.v 19) none)) <|
    .st (.act (some (.v 14, true)) (.px (some 21) (.mv (.v 10)))) <|
    .st (.act (some (.v 14, true)) (.px (some 22) (.ia 10 (.v 20) (.v 21)))) <|
    .st (.act (some (.v 14, true)) (.px (some 23) (.fa 9 (.v 22)))) <|
    .st (.act (some (.v 14, true)) (.ld (some 24) (.v 23) none)) <|
    .st (.act (some (.v 14, true)) (.px (some 25) (.mv (.v 8)))) <|
    .st (.act (some (.v 14, true)) (.px (some 26) (.un .neg (.v 25)))) <|
    .st (.act (some (.v 14, true)) (.px (some 27) (.bin .eql (.v 24) (.v 26)))) <|
    .st (.act none (.px (some 28) (.pick (.v 14) (.v 27) (.c (.bool false))))) <|
    .st (.act none (.px (some 29) (.mv (.v 28)))) <|
    .st (.act (some (.v 29, true)) (.pget (some 30) none 4 0 (some 2))) <|
    .st (.act (some (.v 29, true)) (.pget (some 31) none 5 0 (some 2))) <|
    .st (.act (some (.v 29, true)) (.px (some 32) (.mv (.v 9)))) <|
    .st (.act (some (.v 29, true)) (.px (some 33) (.mv (.v 10)))) <|
    .st (.act (some (.v 29, true)) (.ex (some 34) (.call fn_spec_l3Ready [.v 30, .v 31, .v 32, .v 33]))) K61_7) K61_6)) K61_3
@[simp] def W61_8 := @C.wpe _ _ K61_8.eq_1
def K61_9 : C := .cond 11 (.v 19) (.skip) (.exit 2)
@[simp] def W61_9 := @C.wpe _ _ K61_9.eq_1
def K61_10 : C := .seq (.seq (.pl <| .st (.ext 11 9) <|
    .st (.act none (.px (some 11) (.mv (.v 10)))) <|
    .st (.act none (.als 12 none 4)) <|
    .st (.act none (.pget (some 13) (some 12) 4 1 none)) <|
    .st (.act none (.px (some 14) (.mv (.v 9)))) <|
    .st (.act none (.px (some 15) (.ia 2 (.v 13) (.v 14)))) <|
    .st (.act none (.px (some 16) (.fa 1 (.v 15)))) <|
    .st (.act none (.ld (some 17) (.v 16) none)) <|
    .st (.act none (.px (some 18) (.lenV (.v 17)))) <|
    .st (.act none (.px (some 19) (.bin .lss (.v 11) (.v 18)))) .done) K61_9) K61_8
@[simp] def W61_10 := @C.wpe _ _ K61_10.eq_1
def K61_11 : C := .block 2 (.loop 11 [0, 1, 6] K61_10)
@[simp] def W61_11 := @C.wpe _ _ K61_11.eq_1
def K61_12 : C := .seq (.block 1 (.seq (.pl <| .st (.ext 11 0) <|
    .st (.act none (.px (some 10) (.mv (.c (.int .i64 0))))) .done) K61_11)) K61_2
@[simp] def W61_12 := @C.wpe _ _ K61_12.eq_1
def K61_13 : C := .cond 11 (.v 15) (.skip) (.exit 0)
@[simp] def W61_13 := @C.wpe _ _ K61_13.eq_1
def K61_14 : C := .seq (.seq (.pl <| .st (.ext 11 5) <|
    .st (.act none (.px (some 11) (.mv (.v 9)))) <|
    .st (.act none (.als 12 none 4)) <|
    .st (.act none (.pget (some 13) (some 12) 4 1 none)) <|
    .st (.act none (.px (some 14) (.lenV (.v 13)))) <|
    .st (.act none (.px (some 15) (.bin .lss (.v 11) (.v 14)))) .done) K61_13) K61_12
@[simp] def W61_14 := @C.wpe _ _ K61_14.eq_1
def K61_15 : C := .block 0 (.loop 11 [0, 1, 6, 10] K61_14)
@[simp] def W61_15 := @C.wpe _ _ K61_15.eq_1
def K61_16 : C := .seq (.seq (.pl <| .st (.ext 11 0) <|
    .st (.act none (.px (some 9) (.mv (.c (.int .i64 0))))) .done) K61_15) K61_1
@[simp] def W61_16 := @C.wpe _ _ K61_16.eq_1
def K61_17 : C := .seq (.pl <| .st (.ext 11 10) <|
    .st (.act none (.als 11 none 4)) <|
    .st (.act none (.pget (some 12) (some 11) 4 1 none)) <|
    .st (.act none (.px (some 13) (.mv (.v 2)))) <|
    .st (.act none (.px (some 14) (.ia 2 (.v 12) (.v 13)))) <|
    .st (.act none (.px (some 15) (.fa 1 (.v 14)))) <|
    .st (.act none (.ld (some 16) (.v 15) none)) <|
    .st (.act none (.px (some 17) (.mv (.v 3)))) <|
    .st (.act none (.px (some 18) (.ia 10 (.v 16) (.v 17)))) <|
    .st (.act none (.px (some 19) (.fa 9 (.v 18)))) <|
    .st (.act none (.ld (some 20) (.v 19) none)) <|
    .st (.act none (.px (some 8) (.mv (.v 20)))) .done) K61_16
@[simp] def W61_17 := @C.wpe _ _ K61_17.eq_1
def K61_18 : Pl := .st (.act none (.px (some 7) (.mv (.v 11)))) .done
@[simp] def W61_18 := @Pl.wpe _ _ K61_18.eq_1
def K61_19 : C := .seq (.pl <| .st (.ext 11 1) <|
    .st (.act none (.ex (some 11) (.bls 4 0 [.int .i64 0, .int .i64 0, .int .i64 0, .int .i64 0] []))) K61_18) K61_17
@[simp] def W61_19 := @C.wpe _ _ K61_19.eq_1
def B_spec_l3Partners : C := .seq (.pl <| .st (.ext 11 0) <|
    .st (.act none (.pnew 4 (.v 0) [])) <|
    .st (.act none (.pnew 5 (.v 1) [])) <|
    .st (.act none (.px (some 6) (.mv (.c (.slice none 0 0))))) .done) K61_19
@[simp] def WB_spec_l3Partners := @C.wpe _ _ B_spec_l3Partners.eq_1
def R_spec_l3Partners : FIR := ⟨B_spec_l3Partners, 11, [(6, none)]⟩
theorem IR_spec_l3Partners : cfun Try.prog H_spec_l3Partners Try.f61 = some R_spec_l3Partners := by kernel_rfl
theorem EN_spec_l3Partners {args : List Value} {h : Heap} {k : Value → Heap → Prop} (hargs : args.length = 4) (hw : B_spec_l3Partners.wp Try.prog (retQ [(6, none)] k) (env0 args 11) h) : CallE Try.prog fn_spec_l3Partners args h k := enter Try.func61 rfl IR_spec_l3Partners hargs hw

def H_spec_l3Ready : Hint := ⟨[(0, false), (1, false), (2, false), (3, false), (4, true), (5, true), (8, false), (9, true)], []⟩
def K60_1 : Pl := .st (.act (some (.v 16, true)) (.px (some 22) (.bin .neq (.v 21) (.c (.int .i64 0))))) <|
    .st (.act none (.px (some 23) (.pick (.v 16) (.v 22) (.c (.bool false))))) <|
    .st (.act none (.px (some 6) (.mv (.v 23)))) .done
@[simp] def W60_1 := @Pl.wpe _ _ K60_1.eq_1
def K60_2 : C := .seq (.pl <| .st (.ext 8 16) <|
    .st (.act none (.als 8 none 7)) <|
    .st (.act none (.pget (some 9) (some 8) 7 0 none)) <|
    .st (.act none (.als 10 none 5)) <|
    .st (.act none (.pget (some 11) (some 10) 5 0 none)) <|
    .st (.act none (.px (some 12) (.mv (.v 2)))) <|
    .st (.act none (.px (some 13) (.ia 1 (.v 11) (.v 12)))) <|
    .st (.act none (.ld (some 14) (.v 13) none)) <|
    .st (.act none (.px (some 15) (.bin .eql (.v 9) (.v 14)))) <|
    .st (.act none (.px (some 16) (.mv (.v 15)))) <|
    .st (.act (some (.v 16, true)) (.als 17 none 7)) <|
    .st (.act (some (.v 16, true)) (.pget (some 18) (some 17) 7 2 (some 3))) <|
    .st (.act (some (.v 16, true)) (.als 19 none 5)) <|
    .st (.act (some (.v 16, true)) (.pget (some 20) (some 19) 5 1 none)) <|
    .st (.act (some (.v 16, true)) (.ex (some 21) (.call fn_spec_l1Eval [.v 18, .v 20]))) K60_1) (.ret)
@[simp] def W60_2 := @C.wpe _ _ K60_2.eq_1
def K60_3 : C := .seq (.pl <| .st (.ext 8 9) <|
    .st (.act none (.als 8 none 4)) <|
    .st (.act none (.pget (some 9) (some 8) 4 1 none)) <|
    .st (.act none (.px (some 10) (.mv (.v 2)))) <|
    .st (.act none (.px (some 11) (.ia 2 (.v 9) (.v 10)))) <|
    .st (.act none (.px (some 12) (.fa 1 (.v 11)))) <|
    .st (.act none (.ld (some 13) (.v 12) none)) <|
    .st (.act none (.px (some 14) (.mv (.v 3)))) <|
    .st (.act none (.px (some 15) (.ia 10 (.v 13) (.v 14)))) <|
    .st (.act none (.ld (some 16) (.v 15) (some 10))) <|
    .st (.act none (.pnew 7 (.c (.agg #[.int .i64 0, .int .i64 0, .int .i64 0, .int .i64 0, .slice none 0 0, .int .i64 0, .int .i64 0, .int .i64 0, .slice none 0 0, .int .i64 0])) [])) <|
    .st (.act none (.pset none 7 0 10 (.v 16))) .done) K60_2
@[simp] def W60_3 := @C.wpe _ _ K60_3.eq_1
def B_spec_l3Ready : C := .seq (.pl <| .st (.ext 8 0) <|
    .st (.act none (.pnew 4 (.v 0) [])) <|
    .st (.act none (.pnew 5 (.v 1) [])) <|
    .st (.act none (.px (some 6) (.mv (.c (.bool false))))) .done) K60_3
@[simp] def WB_spec_l3Ready := @C.wpe _ _ B_spec_l3Ready.eq_1
def R_spec_l3Ready : FIR := ⟨B_spec_l3Ready, 8, [(6, none)]⟩
theorem IR_spec_l3Ready : cfun Try.prog H_spec_l3Ready Try.f60 = some R_spec_l3Ready := by kernel_rfl
theorem EN_spec_l3Ready {args : List Value} {h : Heap} {k : Value → Heap → Prop} (hargs : args.length = 4) (hw : B_spec_l3Ready.wp Try.prog (retQ [(6, none)] k) (env0 args 8) h) : CallE Try.prog fn_spec_l3Ready args h k := enter Try.func60 rfl IR_spec_l3Ready hargs hw

def H_spec_l3Steps : Hint := ⟨[(0, false), (1, false), (2, true), (3, true), (4, false), (5, false), (6, false), (7, false), (8, false)], [[0, 1, 4, 7, 8], [0, 1, 4, 8]]⟩
def K33_1 : C := .seq (.pl <| .st (.ext 9 1) <|
    .st (.act none (.px (some 9) (.mv (.v 5)))) <|
    .st (.act none (.px (some 4) (.mv (.v 9)))) .done) (.ret)
@[simp] def W33_1 := @C.wpe _ _ K33_1.eq_1
def K33_2 : C := .pl <| .st (.ext 9 2) <|
    .st (.act none (.px (some 9) (.mv (.v 6)))) <|
    .st (.act none (.px (some 10) (.bin .add (.v 9) (.c (.int .i64 1))))) <|
    .st (.act none (.px (some 6) (.mv (.v 10)))) .done
@[simp] def W33_2 := @C.wpe _ _ K33_2.eq_1
def K33_3 : C := .pl <| .st (.ext 9 2) <|
    .st (.act none (.px (some 9) (.mv (.v 7)))) <|
    .st (.act none (.px (some 10) (.bin .add (.v 9) (.c (.int .i64 1))))) <|
    .st (.act none (.px (some 7) (.mv (.v 10)))) .done
@[simp] def W33_3 := @C.wpe _ _ K33_3.eq_1
def K33_4 : Pl := .st (.act none (.px (some 5) (.mv (.v 14)))) .done
@[simp] def W33_4 := @Pl.wpe _ _ K33_4.eq_1
def K33_5 : C := .pl <| .st (.ext 9 6) <|
    .st (.act none (.px (some 9) (.mv (.v 5)))) <|
    .st (.act none (.px (some 10) (.mv (.v 6)))) <|
    .st (.act none (.px (some 11) (.mv (.v 7)))) <|
    .st (.act none (.px (some 12) (.build [.int .i64 0, .int .i64 0, .int .i64 0, .int .i64 0] [(0, 1, .v 10), (1, 1, .v 11), (2, 1, .c (.int .i64 (-1))), (3, 1, .c (.int .i64 (-1)))]))) <|
    .st (.act none (.psl 13 [.int .i64 0, .int .i64 0, .int .i64 0, .int .i64 0] [(0, 4, .v 12)])) <|
    .st (.act none (.ex (some 14) (.app 32 4 [.int .i64 0, .int .i64 0, .int .i64 0, .int .i64 0] (.o (.v 9)) (.p 1 13)))) K33_4
@[simp] def W33_5 := @C.wpe _ _ K33_5.eq_1
def K33_6 : Pl := .st (.act none (.px (some 5) (.mv (.v 15)))) .done
@[simp] def W33_6 := @Pl.wpe _ _ K33_6.eq_1
def K33_7 : Pl := .st (.act none (.ex (some 15) (.app 32 4 [.int .i64 0, .int .i64 0, .int .i64 0, .int .i64 0] (.o (.v 9)) (.o (.v 14))))) K33_6
@[simp] def W33_7 := @Pl.wpe _ _ K33_7.eq_1
def K33_8 : C := .pl <| .st (.ext 9 7) <|
    .st (.act none (.px (some 9) (.mv (.v 5)))) <|
    .st (.act none (.pget (some 10) none 2 0 (some 2))) <|
    .st (.act none (.pget (some 11) none 3 0 (some 2))) <|
    .st (.act none (.px (some 12) (.mv (.v 6)))) <|
    .st (.act none (.px (some 13) (.mv (.v 7)))) <|
    .st (.act none (.ex (some 14) (.call fn_spec_l3Partners [.v 10, .v 11, .v 12, .v 13]))) K33_7
@[simp] def W33_8 := @C.wpe _ _ K33_8.eq_1
def K33_9 : C := .cond 9 (.v 10) K33_5 K33_8
@[simp] def W33_9 := @C.wpe _ _ K33_9.eq_1
def K33_10 : C := .seq (.pl <| .st (.ext 9 2) <|
    .st (.act none (.px (some 9) (.mv (.v 8)))) <|
    .st (.act none (.px (some 10) (.bin .eql (.v 9) (.c (.int .i64 0))))) .done) K33_9
@[simp] def W33_10 := @C.wpe _ _ K33_10.eq_1
def K33_11 : C := .cond 9 (.v 18) (.exit 3) (.skip)
@[simp] def W33_11 := @C.wpe _ _ K33_11.eq_1
def K33_12 : Pl := .st (.act (some (.v 11, false)) (.px (some 17) (.un .not (.v 16)))) <|
    .st (.act none (.px (some 18) (.pick (.v 11) (.c (.bool true)) (.v 17)))) .done
@[simp] def W33_12 := @Pl.wpe _ _ K33_12.eq_1
def K33_13 : C := .seq (.seq (.pl <| .st (.ext 9 10) <|
    .st (.act none (.px (some 9) (.mv (.v 8)))) <|
    .st (.act none (.px (some 10) (.bin .lss (.v 9) (.c (.int .i64 0))))) <|
    .st (.act none (.px (some 11) (.mv (.v 10)))) <|
    .st (.act (some (.v 11, false)) (.pget (some 12) none 2 0 (some 2))) <|
    .st (.act (some (.v 11, false)) (.pget (some 13) none 3 0 (some 2))) <|
    .st (.act (some (.v 11, false)) (.px (some 14) (.mv (.v 6)))) <|
    .st (.act (some (.v 11, false)) (.px (some 15) (.mv (.v 7)))) <|
    .st (.act (some (.v 11, false)) (.ex (some 16) (.call fn_spec_l3Ready [.v 12, .v 13, .v 14, .v 15]))) K33_12) K33_11) K33_10
@[simp] def W33_13 := @C.wpe _ _ K33_13.eq_1
def K33_14 : C := .seq (.block 3 (.seq (.pl <| .st (.ext 9 10) <|
    .st (.act none (.als 9 none 2)) <|
    .st (.act none (.pget (some 10) (some 9) 2 1 none)) <|
    .st (.act none (.px (some 11) (.mv (.v 6)))) <|
    .st (.act none (.px (some 12) (.ia 2 (.v 10) (.v 11)))) <|
    .st (.act none (.px (some 13) (.fa 1 (.v 12)))) <|
    .st (.act none (.ld (some 14) (.v 13) none)) <|
    .st (.act none (.px (some 15) (.mv (.v 7)))) <|
    .st (.act none (.px (some 16) (.ia 10 (.v 14) (.v 15)))) <|
    .st (.act none (.px (some 17) (.fa 9 (.v 16)))) <|
    .st (.act none (.ld (some 18) (.v 17) none)) <|
    .st (.act none (.px (some 8) (.mv (.v 18)))) .done) K33_13)) K33_3
@[simp] def W33_14 := @C.wpe _ _ K33_14.eq_1
def K33_15 : C := .cond 9 (.v 17) (.skip) (.exit 2)
@[simp] def W33_15 := @C.wpe _ _ K33_15.eq_1
def K33_16 : C := .seq (.seq (.pl <| .st (.ext 9 9) <|
    .st (.act none (.px (some 9) (.mv (.v 7)))) <|
    .st (.act none (.als 10 none 2)) <|
    .st (.act none (.pget (some 11) (some 10) 2 1 none)) <|
    .st (.act none (.px (some 12) (.mv (.v 6)))) <|
    .st (.act none (.px (some 13) (.ia 2 (.v 11) (.v 12)))) <|
    .st (.act none (.px (some 14) (.fa 1 (.v 13)))) <|
    .st (.act none (.ld (some 15) (.v 14) none)) <|
    .st (.act none (.px (some 16) (.lenV (.v 15)))) <|
    .st (.act none (.px (some 17) (.bin .lss (.v 9) (.v 16)))) .done) K33_15) K33_14
@[simp] def W33_16 := @C.wpe _ _ K33_16.eq_1
def K33_17 : C := .block 2 (.loop 9 [0, 1, 4, 8] K33_16)
@[simp] def W33_17 := @C.wpe _ _ K33_17.eq_1
def K33_18 : C := .seq (.block 1 (.seq (.pl <| .st (.ext 9 0) <|
    .st (.act none (.px (some 7) (.mv (.c (.int .i64 0))))) .done) K33_17)) K33_2
@[simp] def W33_18 := @C.wpe _ _ K33_18.eq_1
def K33_19 : C := .cond 9 (.v 13) (.skip) (.exit 0)
@[simp] def W33_19 := @C.wpe _ _ K33_19.eq_1
def K33_20 : C := .seq (.seq (.pl <| .st (.ext 9 5) <|
    .st (.act none (.px (some 9) (.mv (.v 6)))) <|
    .st (.act none (.als 10 none 2)) <|
    .st (.act none (.pget (some 11) (some 10) 2 1 none)) <|
    .st (.act none (.px (some 12) (.lenV (.v 11)))) <|
    .st (.act none (.px (some 13) (.bin .lss (.v 9) (.v 12)))) .done) K33_19) K33_18
@[simp] def W33_20 := @C.wpe _ _ K33_20.eq_1
def K33_21 : C := .block 0 (.loop 9 [0, 1, 4, 7, 8] K33_20)
@[simp] def W33_21 := @C.wpe _ _ K33_21.eq_1
def K33_22 : C := .seq (.seq (.pl <| .st (.ext 9 0) <|
    .st (.act none (.px (some 6) (.mv (.c (.int .i64 0))))) .done) K33_21) K33_1
@[simp] def W33_22 := @C.wpe _ _ K33_22.eq_1
def K33_23 : Pl := .st (.act none (.px (some 5) (.mv (.v 9)))) .done
@[simp] def W33_23 := @Pl.wpe _ _ K33_23.eq_1
def K33_24 : C := .seq (.pl <| .st (.ext 9 1) <|
    .st (.act none (.ex (some 9) (.bls 4 0 [.int .i64 0, .int .i64 0, .int .i64 0, .int .i64 0] []))) K33_23) K33_22
@[simp] def W33_24 := @C.wpe _ _ K33_24.eq_1
def B_spec_l3Steps : C := .seq (.pl <| .st (.ext 9 0) <|
    .st (.act none (.pnew 2 (.v 0) [])) <|
    .st (.act none (.pnew 3 (.v 1) [])) <|
    .st (.act none (.px (some 4) (.mv (.c (.slice none 0 0))))) .done) K33_24
@[simp] def WB_spec_l3Steps := @C.wpe _ _ B_spec_l3Steps.eq_1
def R_spec_l3Steps : FIR := ⟨B_spec_l3Steps, 9, [(4, none)]⟩
theorem IR_spec_l3Steps : cfun Try.prog H_spec_l3Steps Try.f33 = some R_spec_l3Steps := by kernel_rfl
theorem EN_spec_l3Steps {args : List Value} {h : Heap} {k : Value → Heap → Prop} (hargs : args.length = 2) (hw : B_spec_l3Steps.wp Try.prog (retQ [(4, none)] k) (env0 args 9) h) : CallE Try.prog fn_spec_l3Steps args h k := enter Try.func33 rfl IR_spec_l3Steps hargs hw

def H_spec_l3Take : Hint := ⟨[(0, false), (1, false), (2, false), (3, true), (5, true), (6, true)], []⟩
def K81_1 : C := .seq (.pl <| .st (.ext 6 1) <|
    .st (.act none (.pget (some 6) none 3 0 (some 2))) <|
    .st (.act none (.pset none 5 0 2 (.v 6))) .done) (.ret)
@[simp] def W81_1 := @C.wpe _ _ K81_1.eq_1
def K81_2 : Pl := .st (.act none (.px (some 15) (.ia 1 (.v 7) (.v 9)))) <|
    .st (.act none (.ex none (.store 1 (.v 15) (.v 14)))) .done
@[simp] def W81_2 := @Pl.wpe _ _ K81_2.eq_1
def K81_3 : C := .pl <| .st (.ext 6 10) <|
    .st (.act none (.als 6 none 3)) <|
    .st (.act none (.pget (some 7) (some 6) 3 1 none)) <|
    .st (.act none (.als 8 none 4)) <|
    .st (.act none (.pget (some 9) (some 8) 4 5 none)) <|
    .st (.act none (.als 10 none 4)) <|
    .st (.act none (.pget (some 11) (some 10) 4 6 (some 3))) <|
    .st (.act none (.als 12 none 3)) <|
    .st (.act none (.pget (some 13) (some 12) 3 1 none)) <|
    .st (.act none (.ex (some 14) (.call fn_spec_l1Eval [.v 11, .v 13]))) K81_2
@[simp] def W81_3 := @C.wpe _ _ K81_3.eq_1
def K81_4 : C := .cond 6 (.v 8) K81_3 (.skip)
@[simp] def W81_4 := @C.wpe _ _ K81_4.eq_1
def K81_5 : C := .seq (.seq (.pl <| .st (.ext 6 3) <|
    .st (.act none (.als 6 none 4)) <|
    .st (.act none (.pget (some 7) (some 6) 4 5 none)) <|
    .st (.act none (.px (some 8) (.bin .geq (.v 7) (.c (.int .i64 0))))) .done) K81_4) K81_1
@[simp] def W81_5 := @C.wpe _ _ K81_5.eq_1
def K81_6 : C := .seq (.pl <| .st (.ext 6 6) <|
    .st (.act none (.als 6 none 3)) <|
    .st (.act none (.pget (some 7) (some 6) 3 0 none)) <|
    .st (.act none (.px (some 8) (.mv (.v 1)))) <|
    .st (.act none (.als 9 none 4)) <|
    .st (.act none (.pget (some 10) (some 9) 4 1 none)) <|
    .st (.act none (.px (some 11) (.ia 1 (.v 7) (.v 8)))) <|
    .st (.act none (.ex none (.store 1 (.v 11) (.v 10)))) .done) K81_5
@[simp] def W81_6 := @C.wpe _ _ K81_6.eq_1
def B_spec_l3Take : C := .seq (.pl <| .st (.ext 6 0) <|
    .st (.act none (.pnew 3 (.v 0) [])) <|
    .st (.act none (.pnew 4 (.v 2) [])) <|
    .st (.act none (.pnew 5 (.c (.agg #[.slice none 0 0, .slice none 0 0])) [])) .done) K81_6
@[simp] def WB_spec_l3Take := @C.wpe _ _ B_spec_l3Take.eq_1
def R_spec_l3Take : FIR := ⟨B_spec_l3Take, 6, [(5, some (some 2))]⟩
theorem IR_spec_l3Take : cfun Try.prog H_spec_l3Take Try.f81 = some R_spec_l3Take := by kernel_rfl
theorem EN_spec_l3Take {args : List Value} {h : Heap} {k : Value → Heap → Prop} (hargs : args.length = 3) (hw : B_spec_l3Take.wp Try.prog (retQ [(5, some (some 2))] k) (env0 args 6) h) : CallE Try.prog fn_spec_l3Take args h k := enter Try.func81 rfl IR_spec_l3Take hargs hw

def H_spec_l4Find : Hint := ⟨[(0, false), (1, false), (3, true), (4, false), (5, false)], [[1, 3]]⟩
def K52_1 : C := .seq (.pl <| .st (.ext 5 0) <|
    .st (.act none (.px (some 3) (.mv (.c (.int .i64 (-1)))))) .done) (.ret)
@[simp] def W52_1 := @C.wpe _ _ K52_1.eq_1
def K52_2 : C := .pl <| .st (.ext 5 2) <|
    .st (.act none (.px (some 5) (.mv (.v 4)))) <|
    .st (.act none (.px (some 6) (.bin .add (.v 5) (.c (.int .i64 1))))) <|
    .st (.act none (.px (some 4) (.mv (.v 6)))) .done
@[simp] def W52_2 := @C.wpe _ _ K52_2.eq_1
def K52_3 : C := .seq (.pl <| .st (.ext 5 1) <|
    .st (.act none (.px (some 5) (.mv (.v 4)))) <|
    .st (.act none (.px (some 3) (.mv (.v 5)))) .done) (.ret)
@[simp] def W52_3 := @C.wpe _ _ K52_3.eq_1
def K52_4 : C := .cond 5 (.v 10) K52_3 (.skip)
@[simp] def W52_4 := @C.wpe _ _ K52_4.eq_1
def K52_5 : C := .seq (.block 1 (.seq (.pl <| .st (.ext 5 6) <|
    .st (.act none (.px (some 5) (.mv (.v 0)))) <|
    .st (.act none (.px (some 6) (.mv (.v 4)))) <|
    .st (.act none (.px (some 7) (.ia 2 (.v 5) (.v 6)))) <|
    .st (.act none (.ld (some 8) (.v 7) (some 2))) <|
    .st (.act none (.pget (some 9) none 2 0 (some 2))) <|
    .st (.act none (.ex (some 10) (.call fn_spec_StateSame [.v 8, .v 9]))) .done) K52_4)) K52_2
@[simp] def W52_5 := @C.wpe _ _ K52_5.eq_1
def K52_6 : C := .cond 5 (.v 8) (.skip) (.exit 0)
@[simp] def W52_6 := @C.wpe _ _ K52_6.eq_1
def K52_7 : C := .seq (.seq (.pl <| .st (.ext 5 4) <|
    .st (.act none (.px (some 5) (.mv (.v 4)))) <|
    .st (.act none (.px (some 6) (.mv (.v 0)))) <|
    .st (.act none (.px (some 7) (.lenV (.v 6)))) <|
    .st (.act none (.px (some 8) (.bin .lss (.v 5) (.v 7)))) .done) K52_6) K52_5
@[simp] def W52_7 := @C.wpe _ _ K52_7.eq_1
def K52_8 : C := .block 0 (.loop 5 [1, 3] K52_7)
@[simp] def W52_8 := @C.wpe _ _ K52_8.eq_1
def K52_9 : C := .seq (.seq (.pl <| .st (.ext 5 0) <|
    .st (.act none (.px (some 4) (.mv (.c (.int .i64 0))))) .done) K52_8) K52_1
@[simp] def W52_9 := @C.wpe _ _ K52_9.eq_1
def B_spec_l4Find : C := .seq (.pl <| .st (.ext 5 0) <|
    .st (.act none (.pnew 2 (.v 1) [])) <|
    .st (.act none (.px (some 3) (.mv (.c (.int .i64 0))))) .done) K52_9
@[simp] def WB_spec_l4Find := @C.wpe _ _ B_spec_l4Find.eq_1
def R_spec_l4Find : FIR := ⟨B_spec_l4Find, 5, [(3, none)]⟩
theorem IR_spec_l4Find : cfun Try.prog H_spec_l4Find Try.f52 = some R_spec_l4Find := by kernel_rfl
theorem EN_spec_l4Find {args : List Value} {h : Heap} {k : Value → Heap → Prop} (hargs : args.length = 2) (hw : B_spec_l4Find.wp Try.prog (retQ [(3, none)] k) (env0 args 5) h) : CallE Try.prog fn_spec_l4Find args h k := enter Try.func52 rfl IR_spec_l4Find hargs hw

def H_spec_l4In : Hint := ⟨[(0, false), (1, false), (4, false), (5, false)], [[2]]⟩
def K53_1 : C := .seq (.pl <| .st (.ext 4 0) <|
    .st (.act none (.px (some 2) (.mv (.c (.bool false))))) .done) (.ret)
@[simp] def W53_1 := @C.wpe _ _ K53_1.eq_1
def K53_2 : C := .pl <| .st (.ext 4 2) <|
    .st (.act none (.px (some 4) (.mv (.v 3)))) <|
    .st (.act none (.px (some 5) (.bin .add (.v 4) (.c (.int .i64 1))))) <|
    .st (.act none (.px (some 3) (.mv (.v 5)))) .done
@[simp] def W53_2 := @C.wpe _ _ K53_2.eq_1
def K53_3 : C := .seq (.pl <| .st (.ext 4 0) <|
    .st (.act none (.px (some 2) (.mv (.c (.bool true))))) .done) (.ret)
@[simp] def W53_3 := @C.wpe _ _ K53_3.eq_1
def K53_4 : C := .cond 4 (.v 9) K53_3 (.skip)
@[simp] def W53_4 := @C.wpe _ _ K53_4.eq_1
def K53_5 : C := .seq (.block 1 (.seq (.pl <| .st (.ext 4 6) <|
    .st (.act none (.px (some 4) (.mv (.v 0)))) <|
    .st (.act none (.px (some 5) (.mv (.v 3)))) <|
    .st (.act none (.px (some 6) (.ia 1 (.v 4) (.v 5)))) <|
    .st (.act none (.ld (some 7) (.v 6) none)) <|
    .st (.act none (.px (some 8) (.mv (.v 1)))) <|
    .st (.act none (.px (some 9) (.bin .eql (.v 7) (.v 8)))) .done) K53_4)) K53_2
@[simp] def W53_5 := @C.wpe _ _ K53_5.eq_1
def K53_6 : C := .cond 4 (.v 7) (.skip) (.exit 0)
@[simp] def W53_6 := @C.wpe _ _ K53_6.eq_1
def K53_7 : C := .seq (.seq (.pl <| .st (.ext 4 4) <|
    .st (.act none (.px (some 4) (.mv (.v 3)))) <|
    .st (.act none (.px (some 5) (.mv (.v 0)))) <|
    .st (.act none (.px (some 6) (.lenV (.v 5)))) <|
    .st (.act none (.px (some 7) (.bin .lss (.v 4) (.v 6)))) .done) K53_6) K53_5
@[simp] def W53_7 := @C.wpe _ _ K53_7.eq_1
def K53_8 : C := .block 0 (.loop 4 [2] K53_7)
@[simp] def W53_8 := @C.wpe _ _ K53_8.eq_1
def K53_9 : C := .seq (.seq (.pl <| .st (.ext 4 0) <|
    .st (.act none (.px (some 3) (.mv (.c (.int .i64 0))))) .done) K53_8) K53_1
@[simp] def W53_9 := @C.wpe _ _ K53_9.eq_1
def B_spec_l4In : C := .seq (.pl <| .st (.ext 4 0) <|
    .st (.act none (.px (some 2) (.mv (.c (.bool false))))) .done) K53_9
@[simp] def WB_spec_l4In := @C.wpe _ _ B_spec_l4In.eq_1
def R_spec_l4In : FIR := ⟨B_spec_l4In, 4, [(2, none)]⟩
theorem IR_spec_l4In : cfun Try.prog H_spec_l4In Try.f53 = some R_spec_l4In := by kernel_rfl
theorem EN_spec_l4In {args : List Value} {h : Heap} {k : Value → Heap → Prop} (hargs : args.length = 2) (hw : B_spec_l4In.wp Try.prog (retQ [(2, none)] k) (env0 args 4) h) : CallE Try.prog fn_spec_l4In args h k := enter Try.func53 rfl IR_spec_l4In hargs hw


end Go.Proofs.Ytmpgkijhhocfcaa

/-
  Facts for the simplifier; loops; structures; marks; words as sets.
-/
namespace Go.Proofs.Ytmpgkijhhocfcaa
open Go
set_option linter.all false
set_option linter.unusedVariables false
set_option linter.unusedSimpArgs false
set_option linter.defProp false
set_option maxRecDepth 1000000
universe u

section
variable {α : Type} [Ty α] {h : Heap} {v : Value}
/-- the places of a slice's elements, and its length -/
theorem Rep.X {l : List α} (hr : Rep h v l) {n : Nat} (hn : n = Ty.sz α) : (∀ (kd : IntKind) (i : Nat), i < l.length → iaV n v (.int kd i) = some (elp n v i)) ∧ (∀ (kd : IntKind) (i : Int), 0 ≤ i → i < l.length → iaV n v (.int kd i) = some (elp n v i.toNat)) ∧ lenVV v = some (.int .i64 l.length) :=
  ⟨fun _ _ h1 => hr.ian hn h1, fun _ _ h0 h1 => hr.ia' hn h0 h1, hr.len⟩
end
section
variable {h : Heap} {v : Value}
theorem Rep.I {l : List Int} (hr : Rep h v l) : ((∀ (kd : IntKind) (i : Nat), i < l.length → iaV 1 v (.int kd i) = some (elp 1 v i)) ∧ (∀ (kd : IntKind) (i : Int), 0 ≤ i → i < l.length → iaV 1 v (.int kd i) = some (elp 1 v i.toNat)) ∧ lenVV v = some (.int .i64 l.length)) ∧
    ∀ (i : Nat) (hi : i < l.length), hload h (some (elp 1 v i)) none = some (.int .i64 l[i]) := ⟨hr.X rfl, fun _ hi => hr.ldI hi⟩
theorem Rep.B {l : List Bool} (hr : Rep h v l) : ((∀ (kd : IntKind) (i : Nat), i < l.length → iaV 1 v (.int kd i) = some (elp 1 v i)) ∧ (∀ (kd : IntKind) (i : Int), 0 ≤ i → i < l.length → iaV 1 v (.int kd i) = some (elp 1 v i.toNat)) ∧ lenVV v = some (.int .i64 l.length)) ∧
    ∀ (i : Nat) (hi : i < l.length), hload h (some (elp 1 v i)) none = some (.bool l[i]) := ⟨hr.X rfl, fun _ hi => hr.ldB hi⟩
theorem Rep.S {l : List ByteArray} (hr : Rep h v l) : ((∀ (kd : IntKind) (i : Nat), i < l.length → iaV 1 v (.int kd i) = some (elp 1 v i)) ∧ (∀ (kd : IntKind) (i : Int), 0 ≤ i → i < l.length → iaV 1 v (.int kd i) = some (elp 1 v i.toNat)) ∧ lenVV v = some (.int .i64 l.length)) ∧
    ∀ (i : Nat) (hi : i < l.length), hload h (some (elp 1 v i)) none = some (.string l[i]) := ⟨hr.X rfl, fun _ hi => hr.ldS hi⟩
/-- a list of lists: where an element's header lies -/
theorem Rep.ldL {α : Type} [Ty α] {l : List (List α)} (hr : Rep h v l) {i : Nat} (hi : i < l.length) : ∃ u, hload h (some (elp 1 v i)) none = some u ∧ Rep h u l[i] := hr.ld hi
end

theorem IteW.mkr {p A B : Prop} (h2 : ¬ p → B) (h1 : p → A) : IteW p A B := ⟨h1, h2⟩

/-- THE LOOP over a state of plain data: 'Enc s' says how the state lies in the environment and the memory; 'm' goes down -/
theorem wp_while {P : Program} {Q : Ex → Env → Heap → Prop} {e : Env} {h : Heap} {n : Nat} {fg : List Nat} {a : C} {σ : Type} (Enc : σ → Env → Heap → Prop) (m : σ → Nat) (s0 : σ) (h0 : Enc s0 (efgt (e.take n) fg) h)
    (hs : ∀ (J : Env → Heap → Prop) s e h, (∀ s' e h, m s' < m s → Enc s' e h → J e h) → Enc s e h → a.wp P (loopQ n fg J Q) e h) : (C.loop n fg a).wp P Q e h := by
  refine wp_loop (fun k e h => ∃ s, m s = k ∧ Enc s e h) ⟨_, s0, rfl, h0⟩ ?_
  rintro I' k e h hI ⟨s, rfl, hE⟩
  exact hs I' s e h (fun s' e h hlt hE => hI (m s') e h hlt ⟨s', rfl, hE⟩) hE

theorem own1 {α : Type} [Ty α] (ha : Ty.agg α = false) {r : Heap} {cs : List Value} {x : α} : Ty.own r cs x ↔ ∃ v, cs = [v] ∧ Own r v x := by
  constructor
  · intro ho
    have hl := Ty.len (Ty.own_rep ho)
    rw [Ty.one ha] at hl
    match cs, hl with
    | [v], _ => exact ⟨v, rfl, [v], by simp [valC, ha], ho⟩
  · rintro ⟨v, rfl, c, h1, h2⟩
    have hl := Ty.len (Ty.own_rep h2)
    rw [Ty.one ha] at hl
    match c, hl with
    | [u], _ => simp [valC, ha] at h1; subst h1; exact h2
theorem rep1 {α : Type} [Ty α] (ha : Ty.agg α = false) {r : Heap} {cs : List Value} {x : α} : Ty.rep r cs x ↔ ∃ v, cs = [v] ∧ Rep r v x := by
  constructor
  · intro ho
    have hl := Ty.len ho
    rw [Ty.one ha] at hl
    match cs, hl with
    | [v], _ => exact ⟨v, rfl, [v], by simp [valC, ha], ho⟩
  · rintro ⟨v, rfl, c, h1, h2⟩
    have hl := Ty.len h2
    rw [Ty.one ha] at hl
    match c, hl with
    | [u], _ => simp [valC, ha] at h1; subst h1; exact h2

section
variable {α : Type} [Ty α] {h : Heap} {v : Value} {l : List α} {i : Nat}
/-- one cell of an element -/
theorem Rep.fld [Flat α] (hr : Rep h v l) (hi : i < l.length) {n j : Nat} (hn : n = Ty.sz α) {u : Value} (hj : (Flat.enc l[i])[j]? = some u) : hload h (some (elpo n v i j)) none = some u := by
  subst hn
  obtain ⟨p, cap, rfl, hc, hp, hl⟩ := Rep_list.1 hr
  obtain ⟨b, off, vs, rfl, h1, h2⟩ := hl i hi
  rw [← (Flat.rep_iff.1 h2).1] at hj
  have := (hcells_get h1).2 j u hj
  simp [elpo, add_none, hload, this]
end

/-- a value of many cells, as it is put into a box and taken out -/
theorem Rep.A {α : Type} [Ty α] {h : Heap} {v : Value} {x : α} (hr : Rep h v x) (ha : Ty.agg α = true) {n : Nat} (hn : n = Ty.sz α) : pgetV (some v) 0 (some n) = some v ∧ v.cells.size = n ∧ allOne v.cells.toList = true ∧ Value.agg v.cells = v := by
  obtain ⟨cs, rfl, h1⟩ := hr
  have h2 := Ty.len h1
  have h3 := Ty.cell h1
  subst hn
  simp only [valC, ha, if_true]
  refine ⟨?_, by simpa using h2, ?_, rfl⟩
  · simp [h2]
  · rw [← allOne_eq]; simpa using h3

/-- owned, at its cells -/
def owC {α : Type} [Ty α] (cs : List Value) (x : α) : HP := fun r => Ty.own r cs x

section
variable {g h : Heap} {Γ : List HP}
theorem HS.join2 {p p1 p2 : HP} (H : HS g (p1 :: p2 :: Γ) h) (hp : ∀ r1 r2, Dj r1 r2 → p1 r1 → p2 r2 → p (r1.add r2)) : HS g (p :: Γ) h := by
  obtain ⟨g1, r1, rfl, d1, h1, g', r2, rfl, d2, h2, H⟩ := H
  obtain ⟨d3, d4⟩ := add_Dj.1 d1
  refine ⟨g', r1.add r2, ?_, Dj_add.2 ⟨d3, d2⟩, hp r1 r2 d4.symm h1 h2, H⟩
  rw [add_assoc, d4.comm]
theorem HS.unvia {α β : Type} [Ty β] (f : α → β) {v : Value} {x : α} (H : HS g (@ow α (Ty.via f) v x :: Γ) h) : ∃ cs : List Value, v = .agg cs.toArray ∧ HS g (owC cs (f x) :: Γ) h := by
  obtain ⟨g', r, rfl, d, ⟨cs, rfl, ho⟩, H⟩ := H
  exact ⟨cs, rfl, g', r, rfl, d, ho, H⟩
theorem HS.via {α β : Type} [Ty β] (f : α → β) {cs : List Value} {x : α} (H : HS g (owC cs (f x) :: Γ) h) : HS g (@ow α (Ty.via f) (.agg cs.toArray) x :: Γ) h :=
  H.imp fun _ ho => ⟨cs, rfl, ho⟩
theorem HS.unprod {α β : Type} [Ty α] [Ty β] {cs : List Value} {x : α} {y : β} (H : HS g (owC cs (x, y) :: Γ) h) : ∃ c1 c2, cs = c1 ++ c2 ∧ HS g (owC c1 x :: owC c2 y :: Γ) h := by
  obtain ⟨g', r, rfl, d, ⟨c1, c2, r1, r2, rfl, rfl, d2, h1, h2⟩, H⟩ := H
  obtain ⟨d3, d4⟩ := Dj_add.1 d
  exact ⟨c1, c2, rfl, g'.add r2, r1, by rw [add_assoc, d2.comm], add_Dj.2 ⟨d3, d2.symm⟩, h1, g', r2, rfl, d4, h2, H⟩
theorem HS.unone {α : Type} [Ty α] (ha : Ty.agg α = false) {cs : List Value} {x : α} (H : HS g (owC cs x :: Γ) h) : ∃ v, cs = [v] ∧ HS g (ow v x :: Γ) h := by
  obtain ⟨g', r, rfl, d, ho, H⟩ := H
  have ho2 : Ty.own r cs x := ho
  obtain ⟨v, rfl, h3⟩ := (own1 ha).1 ho2
  exact ⟨v, rfl, g', r, rfl, d, h3, H⟩
theorem HS.one {α : Type} [Ty α] (ha : Ty.agg α = false) {v : Value} {x : α} (H : HS g (ow v x :: Γ) h) : HS g (owC [v] x :: Γ) h := H.imp fun _ ho => (own1 ha).2 ⟨v, rfl, ho⟩
theorem HS.prod {α β : Type} [Ty α] [Ty β] (ha : Ty.agg α = false) {v : Value} {cs : List Value} {x : α} {y : β} (H : HS g (ow v x :: owC cs y :: Γ) h) : HS g (owC (v :: cs) (x, y) :: Γ) h :=
  H.join2 fun r1 r2 d h1 h2 => ⟨[v], cs, r1, r2, rfl, rfl, d, (own1 ha).2 ⟨v, rfl, h1⟩, h2⟩
end

/-- HOW MUCH a piece of data holds: the lengths of all its lists, added up -/
class Sz (α : Type) where
  sz : α → Nat
instance : Sz Int := ⟨fun _ => 0⟩
instance : Sz Bool := ⟨fun _ => 0⟩
def szL {α : Type} [Sz α] : List α → Nat
  | [] => 0
  | x :: l => Sz.sz x + szL l
instance instSzList {α : Type} [Sz α] : Sz (List α) := ⟨fun l => l.length + szL l⟩
/-- 'cnt': how many places are written; 'wr k': the piece of data with the places written over, from k on -/
class Mk (α : Type) where
  cnt : α → Nat
  wr : Int → α → α
  cnt_wr : ∀ k x, cnt (wr k x) = cnt x
  wr_wr : ∀ k j x, wr k (wr j x) = wr k x

def cntL {α : Type} [Mk α] : List α → Nat
  | [] => 0
  | x :: l => Mk.cnt x + cntL l
def mkL {α : Type} [Mk α] : Int → List α → List α
  | _, [] => []
  | k, x :: l => Mk.wr k x :: mkL (k + Mk.cnt x) l

section
variable {α : Type} [Mk α]
theorem cntL_mk : ∀ (k : Int) (l : List α), cntL (mkL k l) = cntL l
  | _, [] => rfl
  | k, x :: l => by simp [cntL, mkL, Mk.cnt_wr, cntL_mk (k + Mk.cnt x) l]
theorem mkL_mk : ∀ (k j : Int) (l : List α), mkL k (mkL j l) = mkL k l
  | _, _, [] => rfl
  | k, j, x :: l => by simp [mkL, Mk.cnt_wr, Mk.wr_wr, mkL_mk (k + Mk.cnt x) (j + Mk.cnt x) l]
@[simp] theorem mkL_length : ∀ (k : Int) (l : List α), (mkL k l).length = l.length
  | _, [] => rfl
  | k, x :: l => by simp [mkL, mkL_length (k + Mk.cnt x) l]
theorem mkL_get : ∀ (k : Int) (l : List α) (i : Nat) (hi : i < l.length), (mkL k l)[i]'(by simpa using hi) = Mk.wr (k + cntL (l.take i)) l[i]
  | _, [], i, hi => by simp at hi
  | k, x :: l, 0, _ => by simp [mkL, cntL]
  | k, x :: l, i + 1, hi => by
    simp only [mkL, List.getElem_cons_succ, List.take_succ_cons, cntL]
    rw [mkL_get (k + Mk.cnt x) l i (by simpa using hi)]
    congr 1
    push_cast
    omega
instance instMkList : Mk (List α) := ⟨cntL, mkL, cntL_mk, mkL_mk⟩
end

instance instMkInt : Mk Int := ⟨fun _ => 1, fun k _ => k, fun _ _ => rfl, fun _ _ _ => rfl⟩
instance instMkBool : Mk Bool := ⟨fun _ => 1, fun k _ => decide (k.tmod 3 = 0), fun _ _ => rfl, fun _ _ _ => rfl⟩
/-- how far the writing has come -/
structure Mkd {α : Type} [Mk α] (k : Int) (x y : List α) (i : Nat) : Prop where
  len : y.length = x.length
  done : y.take i = (mkL k x).take i
  rest : y.drop i = x.drop i

section
variable {α : Type} [Mk α] {k : Int} {x y : List α} {i : Nat}
theorem Mkd.zero : Mkd k x x 0 := ⟨rfl, rfl, rfl⟩
theorem Mkd.get (h : Mkd k x y i) (hi : i < x.length) : y[i]'(by rw [h.len]; exact hi) = x[i] := by
  have := congrArg (fun l => l[0]?) h.rest
  simp [List.getElem?_drop, hi, h.len] at this
  exact this
theorem Mkd.step (h : Mkd k x y i) (hi : i < x.length) : Mkd k x (y.set i (Mk.wr (k + cntL (x.take i)) x[i])) (i + 1) := by
  refine ⟨by simp [h.len], ?_, ?_⟩
  · have := take_set_succ (x := mkL k x) h.done (by simpa using hi) (by simpa using h.len)
    rwa [mkL_get k x i hi] at this
  · rw [List.drop_set_of_lt (by omega)]
    have := congrArg (List.drop 1) h.rest
    simpa [List.drop_drop] using this
theorem Mkd.all (h : Mkd k x y i) (hi : x.length ≤ i) : y = mkL k x := eq_of_take h.done (by simpa using hi) (by simpa using h.len)
end
theorem take_step {α : Type} {x y : List α} {i : Nat} (h : x.take i = y.take i) (h1 : i < x.length) (h2 : i < y.length) (he : x[i] = y[i]) : x.take (i + 1) = y.take (i + 1) := by
  rw [List.take_add_one, List.take_add_one, h, List.getElem?_eq_getElem h1, List.getElem?_eq_getElem h2, he]
/-- an amount to shift by is not negative -/
@[simp] theorem ite_lt_zero {α : Type} {b : Int} {x y : α} (h : 0 ≤ b) : (if b < 0 then x else y) = y := if_neg (by omega)

/- bits -/
def setB (a : BitVec 64) (j : Nat) : BitVec 64 := a ||| (1#64 <<< j)
def clrB (a : BitVec 64) (j : Nat) : BitVec 64 := a &&& ~~~(1#64 <<< j)
/-- eight words -/
structure W8 where
  l : List (BitVec 64)
  len : l.length = 8
def W8.zero : W8 := ⟨List.replicate 8 0, rfl⟩
def W8.put (w : W8) (j : Nat) (x : BitVec 64) : W8 := ⟨w.l.set j x, by simp [w.len]⟩
def W8.at (w : W8) (j : Nat) : BitVec 64 := w.l.getD j 0
def W8.enc (w : W8) : List Value := w.l.map fun b => .int .u64 b.toNat
instance instTyW8 : Ty W8 where
  agg := true
  sz := 8
  rep := fun _ cs x => cs = x.enc
  own := fun r cs x => r = Heap.nil ∧ cs = x.enc
  one := fun h => by simp at h
  len := by rintro h cs x rfl; simp [W8.enc, x.len]
  cell := by
    rintro h cs x rfl v hv
    simp only [W8.enc, List.mem_map] at hv
    obtain ⟨b, _, rfl⟩ := hv
    rfl
  mono := fun _ hr => hr
  own_rep := fun ho => ho.2
instance instFlatW8 : Flat W8 := ⟨W8.enc, fun _ => True, by simp [Ty.rep], by simp [Ty.own]⟩
theorem W8.enc_at (w : W8) {j : Nat} (hj : j < 8) : w.enc[j]? = some (.int .u64 (w.at j).toNat) := by
  have : j < w.l.length := by rw [w.len]; exact hj
  simp [W8.enc, W8.at, this]
section
variable {α : Type} [Ty α] {h : Heap} {v : Value} {l : List α} {i : Nat}
theorem Rep.iaA (hr : Rep h v l) (hi : i < l.length) {n m : Nat} {kd : IntKind} {j : Nat} (hj : j < m) : iaAV m 1 (elp n v i) (.int kd j) = some (elpo n v i j) := by
  obtain ⟨p, cap, rfl, hc, hp, hl⟩ := Rep_list.1 hr
  obtain ⟨b, off, vs, rfl, _⟩ := hl i hi
  have : (j : Int) < m := by omega
  simp [iaAV, elp, elpo, this]
/-- rows of words -/
theorem Rep.W {l : List W8} (hr : Rep h v l) : ((∀ (kd : IntKind) (i : Nat), i < l.length → iaV 8 v (.int kd i) = some (elp 8 v i)) ∧ (∀ (kd : IntKind) (i : Int), 0 ≤ i → i < l.length → iaV 8 v (.int kd i) = some (elp 8 v i.toNat)) ∧ lenVV v = some (.int .i64 l.length)) ∧
    (∀ (kd : IntKind) (i j : Nat), i < l.length → j < 8 → iaAV 8 1 (elp 8 v i) (.int kd j) = some (elpo 8 v i j)) ∧
    ∀ (i j : Nat) (hi : i < l.length), j < 8 → hload h (some (elpo 8 v i j)) none = some (.int .u64 (l[i].at j).toNat) :=
  ⟨hr.X rfl, fun _ _ _ hi hj => hr.iaA hi hj, fun _ _ hi hj => hr.fld hi rfl (W8.enc_at _ hj)⟩
end

theorem Rep.isNil {α : Type} [Ty α] {h : Heap} {v : Value} {l : List α} (hr : Rep h v l) : ∃ b, isNilV false v = some (.bool b) ∧ (b = true → l = []) := by
  obtain ⟨p, cap, rfl, h1, h2, h3⟩ := Rep_list.1 hr
  refine ⟨p.isNone, rfl, fun hp => ?_⟩
  cases l with
  | nil => rfl
  | cons x l => obtain ⟨b, off, vs, h4, _⟩ := h3 0 (by simp); subst h4; simp at hp

theorem Own.clip {α : Type} [Ty α] {r : Heap} {v : Value} {l : List α} (O : Own r v l) {esz : Nat} {k : IntKind} :
    ∃ v', sliceVV esz v none (some (some (.int k l.length))) (some (some (.int k l.length))) = some v' ∧ Own r v' l := by
  rcases Own_list.1 O with ⟨p, rfl, rfl, rfl, hp⟩ | ⟨b, off, cap, cells, el, r', rfl, ⟨h1, hM⟩, h2, rfl, h4, h5⟩
  · refine ⟨.slice p 0 0, ?_, Own_list.2 (.inl ⟨p, rfl, rfl, rfl, hp⟩)⟩
    simp [sliceVV, bndV]
  · refine ⟨.slice (some ⟨b, off, none⟩) l.length l.length, ?_, Own_list.2 (.inr ⟨b, off, l.length, cells, el, r', rfl, ⟨Nat.le_refl _, hM⟩, ?_, rfl, h4, h5⟩)⟩
    · simp [sliceVV, bndV, add_none, h1]
    · have : l.length * Ty.sz α ≤ cap * Ty.sz α := Nat.mul_le_mul_right _ h1
      omega
theorem HS.clip {α : Type} [Ty α] {g h : Heap} {Γ : List HP} {v : Value} {l : List α} (H : HS g (ow v l :: Γ) h) {esz : Nat} {k : IntKind} :
    ∃ v', sliceVV esz v none (some (some (.int k l.length))) (some (some (.int k l.length))) = some v' ∧ HS g (ow v' l :: Γ) h := by
  obtain ⟨g', r, rfl, d, O, H⟩ := H
  obtain ⟨v', h1, O'⟩ := O.clip (esz := esz) (k := k)
  exact ⟨v', h1, g', r, rfl, d, O', H⟩
/-- a slice that is written out, without elements -/
theorem HS.bls0 {P : Program} {k : Env → Heap → Prop} {e : Env} {g h : Heap} {Γ : List HP} (H : HS g Γ h) (α : Type) [Ty α] {esz : Nat} {zero : List Value} {dst : Nat}
    (K : ∀ v' h', HS g (ow v' ([] : List α) :: Γ) h' → k (eset e dst (some v')) h') : (A.ex (some dst) (.bls esz 0 zero [])).wp P k e h := by
  refine ⟨[], rfl, fun b el hb => Fgt.keep ?_⟩
  rw [set_new hb]
  exact K _ _ ⟨h, _, rfl, Dj_one.2 hb, Own_list.2 (.inr ⟨b, 0, 0, [], el, Heap.nil, rfl, ⟨Nat.le_refl _, by simp⟩, by simp, by simp, rfl, rfl⟩), H⟩
@[simp] theorem faV_ptr {b o off : Nat} : faV off (.pointer (some ⟨b, o, none⟩)) = some (.pointer (some ⟨b, o + off, none⟩)) := by simp [faV, add_none]
attribute [simp] Option.bind_some

end Go.Proofs.Ytmpgkijhhocfcaa

/-
  Maps as pieces of the memory; pieces that are only read become part of what is read.
-/
namespace Go.Proofs.Ytmpgkijhhocfcaa
open Go
set_option linter.all false
set_option linter.unusedVariables false
set_option linter.unusedSimpArgs false
set_option linter.defProp false
set_option maxRecDepth 1000000

section
variable {g h : Heap} {Γ : List HP}
/-- the later pieces become part of what is only read -/
theorem HS.rebase : ∀ {Δ Γ : List HP} {h : Heap}, HS g (Δ ++ Γ) h → ∃ g1, HS g Γ g1 ∧ HS g1 Δ h
  | [], _, h, H => ⟨h, H, HS.init⟩
  | _ :: _, _, _, ⟨g', r, e, d, hp, H⟩ => by
    obtain ⟨g1, h1, h2⟩ := H.rebase
    exact ⟨g1, h1, g', r, e, d, hp, h2⟩
end

/- MAPS -/
/-- a map of its own: its entries as pairs, in the order in which they came -/
def mpo {κ ν : Type} (kf : κ → Value) (vf : ν → Value) (b : Nat) (l : List (κ × ν)) : HP := fun r => ∃ es clock, r = Heap.one b (.map es clock) ∧ es.toList.map (fun e => (e.key, e.val)) = l.map fun p => (kf p.1, vf p.2)
/-- what a key leads to -/
def mlk {κ ν : Type} [DecidableEq κ] (l : List (κ × ν)) (a : κ) : Option ν := (l.find? fun p => decide (p.1 = a)).map (·.2)
theorem mfind_spec {κ ν : Type} [DecidableEq κ] {kf : κ → Value} {vf : ν → Value} {kt : KT} (hkt : ∀ a b, keyEq kt (kf a) (kf b) = some (decide (a = b))) {a : κ} : ∀ {es : List MapEntry} {l : List (κ × ν)} {i0 : Nat}, es.map (fun e => (e.key, e.val)) = l.map (fun p => (kf p.1, vf p.2)) →
    ∃ i, mfind kt (kf a) es i0 = some ((mlk l a).map fun y => (i, vf y))
  | [], [], _, _ => ⟨0, rfl⟩
  | [], _ :: _, _, h => by simp at h
  | _ :: _, [], _, h => by simp at h
  | x :: es, p :: l, i0, h => by
    simp only [List.map_cons, List.cons.injEq, Prod.mk.injEq] at h
    obtain ⟨⟨h1, h2⟩, h3⟩ := h
    obtain ⟨i, hi⟩ := mfind_spec hkt (a := a) (i0 := i0 + 1) h3
    unfold mfind
    rw [h1, hkt, h2]
    by_cases he : a = p.1
    · subst he
      refine ⟨i0, ?_⟩
      simp [mlk]
    · refine ⟨i, ?_⟩
      simp only [he, decide_false]
      rw [hi]
      simp [mlk, List.find?_cons, Ne.symm he, show ¬ p.1 = a from fun e => he e.symm]
section
variable {P : Program} {k : Env → Heap → Prop} {e : Env} {g h : Heap} {Γ : List HP} {κ ν : Type} [DecidableEq κ] {kf : κ → Value} {vf : ν → Value} {b : Nat} {l : List (κ × ν)} {kt : KT}
theorem HS.mkm (H : HS g Γ h) (kf : κ → Value) (vf : ν → Value) {dst : Nat} (K : ∀ b h', HS g (mpo kf vf b [] :: Γ) h' → k (eset e dst (some (.map (some b)))) h') : (A.ex (some dst) .mkm).wp P k e h := by
  intro b hb
  refine Fgt.keep ?_
  rw [set_new hb]
  exact K _ _ ⟨h, _, rfl, Dj_one.2 hb, ⟨_, _, rfl, rfl⟩, H⟩
theorem HS.mget (H : HS g (mpo kf vf b l :: Γ) h) {zero : Value} {ok : Bool} {m x : O} {a : κ} {dst : Nat} (hm : m.get e = some (.map (some b))) (hx : x.get e = some (kf a)) (hkt : ∀ a b, keyEq kt (kf a) (kf b) = some (decide (a = b)))
    (K : k (eset e dst (some (if ok then .tuple #[((mlk l a).map vf).getD zero, .bool (mlk l a).isSome] else ((mlk l a).map vf).getD zero))) h) : (A.ex (some dst) (.mget kt zero ok m x)).wp P k e h := by
  obtain ⟨g', r, rfl, d, ⟨es, clock, rfl, hes⟩, H⟩ := H
  obtain ⟨i, hi⟩ := mfind_spec hkt (a := a) (i0 := 0) hes
  refine ⟨b, es, clock, kf a, _, hm, le_add' d _ _ (by simp [Heap.one]), hx, by rw [hkt]; rfl, hi, Fgt.keep ?_⟩
  cases hl : mlk l a with
  | none => rw [hl] at K; cases ok <;> exact K
  | some y => rw [hl] at K; cases ok <;> exact K
theorem HS.mput (H : HS g (mpo kf vf b l :: Γ) h) {m x y : O} {a : κ} {v : ν} (hm : m.get e = some (.map (some b))) (hx : x.get e = some (kf a)) (hy : y.get e = some (vf v)) (hkt : ∀ a b, keyEq kt (kf a) (kf b) = some (decide (a = b))) (hn : mlk l a = none)
    (K : ∀ h', HS g (mpo kf vf b (l ++ [(a, v)]) :: Γ) h' → k e h') : (A.ex none (.mput kt m x y)).wp P k e h := by
  obtain ⟨g', r, rfl, d, ⟨es, clock, rfl, hes⟩, H⟩ := H
  obtain ⟨i, hi⟩ := mfind_spec hkt (a := a) (i0 := 0) hes
  rw [hn] at hi
  refine ⟨b, es, clock, kf a, vf v, none, hm, le_add' d _ _ (by simp [Heap.one]), hx, hy, by rw [hkt]; rfl, hi, Fgt.keep ?_⟩
  refine K _ ⟨g', Heap.one b (.map (es.push { key := kf a, val := vf v, born := clock }) (clock + 1)), ?_, ?_, ⟨_, _, rfl, ?_⟩, H⟩
  · have hb := Dj_one.1 d
    rw [← set_new hb]
    rw [← set_new hb]
    funext z
    simp only [Heap.set]
    split <;> rfl
  · exact Dj_one.2 (Dj_one.1 d)
  · simp [hes]
theorem HS.mlen (H : HS g (mpo kf vf b l :: Γ) h) {m : O} {dst : Nat} (hm : m.get e = some (.map (some b))) (K : k (eset e dst (some (.int .i64 l.length))) h) : (A.ex (some dst) (.mlen m)).wp P k e h := by
  obtain ⟨g', r, rfl, d, ⟨es, clock, rfl, hes⟩, H⟩ := H
  have hl : es.size = l.length := by
    have := congrArg List.length hes
    simpa using this
  refine ⟨b, es, clock, hm, le_add' d _ _ (by simp [Heap.one]), Fgt.keep ?_⟩
  rw [hl]
  exact K
end
end Go.Proofs.Ytmpgkijhhocfcaa
