/-
  Bodies of functions in the small language, as a program printed them, and that each is what the translation gives.
-/
import Derived.Test.YthgimpheeemooaaI1
namespace Go.Proofs.Ythgimpheeemooaa
open Go
set_option linter.all false
set_option linter.defProp false
set_option maxRecDepth 1000000

def H_impl_ExprNodes : Hint := ⟨[(0, false), (1, true), (2, false), (3, false)], []⟩
def K158_1 : C := .seq (.pl <| .st (.ext 4 1) <|
    .st (.act none (.ld (some 4) (.v 3) none)) <|
    .st (.act none (.px (some 2) (.mv (.v 4)))) .done) (.ret)
@[simp] def W158_1 := @C.wpe _ _ K158_1.eq_1
def K158_2 : C := .seq (.pl <| .st (.ext 4 0) <|
    .st (.act none (.px (some 2) (.mv (.c (.int .i64 0))))) .done) (.ret)
@[simp] def W158_2 := @C.wpe _ _ K158_2.eq_1
def K158_3 : C := .cond 4 (.v 6) K158_2 (.skip)
@[simp] def W158_3 := @C.wpe _ _ K158_3.eq_1
def K158_4 : Pl := .st (.act none (.px (some 6) (.un .not (.v 5)))) .done
@[simp] def W158_4 := @Pl.wpe _ _ K158_4.eq_1
def K158_5 : C := .seq (.seq (.pl <| .st (.ext 4 3) <|
    .st (.act none (.pget (some 4) none 1 0 (some 3))) <|
    .st (.act none (.ex (some 5) (.call fn_impl_Expr_walk [.v 4, .c (.int .i64 1), .v 3]))) K158_4) K158_3) K158_1
@[simp] def W158_5 := @C.wpe _ _ K158_5.eq_1
def K158_6 : Pl := .st (.act none (.ex none (.store 1 (.v 3) (.c (.int .i64 0))))) .done
@[simp] def W158_6 := @Pl.wpe _ _ K158_6.eq_1
def K158_7 : C := .seq (.pl <| .st (.ext 4 0) <|
    .st (.act none (.ex (some 3) (.alloc (.c (.int .i64 0))))) K158_6) K158_5
@[simp] def W158_7 := @C.wpe _ _ K158_7.eq_1
def B_impl_ExprNodes : C := .seq (.pl <| .st (.ext 4 0) <|
    .st (.act none (.pnew 1 (.v 0) [])) <|
    .st (.act none (.px (some 2) (.mv (.c (.int .i64 0))))) .done) K158_7
@[simp] def WB_impl_ExprNodes := @C.wpe _ _ B_impl_ExprNodes.eq_1
def R_impl_ExprNodes : FIR := ⟨B_impl_ExprNodes, 4, [(2, none)]⟩
theorem IR_impl_ExprNodes : cfun Try.prog H_impl_ExprNodes Try.f158 = some R_impl_ExprNodes := by kernel_rfl
theorem EN_impl_ExprNodes {args : List Value} {h : Heap} {k : Value → Heap → Prop} (hargs : args.length = 1) (hw : B_impl_ExprNodes.wp Try.prog (retQ [(2, none)] k) (env0 args 4) h) : CallE Try.prog fn_impl_ExprNodes args h k := enter Try.func158 rfl IR_impl_ExprNodes hargs hw

def H_impl_ExprValid : Hint := ⟨[(0, false), (1, true), (2, false)], []⟩
def K120_1 : Pl := .st (.act none (.px (some 5) (.bin .gtr (.v 4) (.c (.int .i64 0))))) <|
    .st (.act none (.px (some 2) (.mv (.v 5)))) .done
@[simp] def W120_1 := @Pl.wpe _ _ K120_1.eq_1
def K120_2 : C := .seq (.pl <| .st (.ext 3 3) <|
    .st (.act none (.pget (some 3) none 1 0 (some 3))) <|
    .st (.act none (.ex (some 4) (.call fn_impl_ExprNodes [.v 3]))) K120_1) (.ret)
@[simp] def W120_2 := @C.wpe _ _ K120_2.eq_1
def B_impl_ExprValid : C := .seq (.pl <| .st (.ext 3 0) <|
    .st (.act none (.pnew 1 (.v 0) [])) <|
    .st (.act none (.px (some 2) (.mv (.c (.bool false))))) .done) K120_2
@[simp] def WB_impl_ExprValid := @C.wpe _ _ B_impl_ExprValid.eq_1
def R_impl_ExprValid : FIR := ⟨B_impl_ExprValid, 3, [(2, none)]⟩
theorem IR_impl_ExprValid : cfun Try.prog H_impl_ExprValid Try.f120 = some R_impl_ExprValid := by kernel_rfl
theorem EN_impl_ExprValid {args : List Value} {h : Heap} {k : Value → Heap → Prop} (hargs : args.length = 1) (hw : B_impl_ExprValid.wp Try.prog (retQ [(2, none)] k) (env0 args 3) h) : CallE Try.prog fn_impl_ExprValid args h k := enter Try.func120 rfl IR_impl_ExprValid hargs hw

def H_impl_Expr_walk : Hint := ⟨[(0, false), (1, false), (2, false), (3, true), (4, false), (5, false), (6, false), (7, false), (8, false), (15, false)], []⟩
def K187_1 : Pl := .st (.act none (.px (some 14) (.un .not (.v 13)))) <|
    .st (.act none (.px (some 6) (.mv (.v 14)))) .done
@[simp] def W187_1 := @Pl.wpe _ _ K187_1.eq_1
def K187_2 : C := .seq (.pl <| .st (.ext 10 5) <|
    .st (.act none (.als 10 none 3)) <|
    .st (.act none (.pget (some 11) (some 10) 3 2 none)) <|
    .st (.act none (.px (some 12) (.mkf (.func fn_impl_Expr_walk_1) [] [.v 4, .v 5]))) <|
    .st (.act none (.ex (some 13) (.call fn_slices_ContainsFunc_S_impl_Expr_impl_Expr [.v 11, .v 12]))) K187_1) (.ret)
@[simp] def W187_2 := @C.wpe _ _ K187_2.eq_1
def K187_3 : C := .seq (.pl <| .st (.ext 10 0) <|
    .st (.act none (.px (some 6) (.mv (.c (.bool false))))) .done) (.ret)
@[simp] def W187_3 := @C.wpe _ _ K187_3.eq_1
def K187_4 : C := .cond 10 (.v 37) K187_3 (.skip)
@[simp] def W187_4 := @C.wpe _ _ K187_4.eq_1
def K187_5 : Pl := .st (.act (some (.v 24, false)) (.px (some 29) (.un .not (.v 28)))) <|
    .st (.act none (.px (some 30) (.pick (.v 24) (.c (.bool true)) (.v 29)))) <|
    .st (.act none (.px (some 31) (.mv (.v 30)))) <|
    .st (.act (some (.v 31, false)) (.als 32 none 3)) <|
    .st (.act (some (.v 31, false)) (.pget (some 33) (some 32) 3 2 none)) <|
    .st (.act (some (.v 31, false)) (.px (some 34) (.lenV (.v 33)))) <|
    .st (.act (some (.v 31, false)) (.px (some 35) (.mv (.v 7)))) <|
    .st (.act (some (.v 31, false)) (.px (some 36) (.bin .neq (.v 34) (.v 35)))) <|
    .st (.act none (.px (some 37) (.pick (.v 31) (.c (.bool true)) (.v 36)))) .done
@[simp] def W187_5 := @Pl.wpe _ _ K187_5.eq_1
def K187_6 : Pl := .st (.act (some (.v 18, false)) (.px (some 22) (.un .not (.v 21)))) <|
    .st (.act none (.px (some 23) (.pick (.v 18) (.c (.bool true)) (.v 22)))) <|
    .st (.act none (.px (some 24) (.mv (.v 23)))) <|
    .st (.act (some (.v 24, false)) (.als 25 none 3)) <|
    .st (.act (some (.v 24, false)) (.pget (some 26) (some 25) 3 1 none)) <|
    .st (.act (some (.v 24, false)) (.px (some 27) (.mv (.v 8)))) <|
    .st (.act (some (.v 24, false)) (.ex (some 28) (.call fn_impl_in [.v 26, .c (.int .i64 0), .v 27]))) K187_5
@[simp] def W187_6 := @Pl.wpe _ _ K187_6.eq_1
def K187_7 : C := .seq (.seq (.pl <| .st (.ext 10 28) <|
    .st (.act none (.ld (some 10) (.v 4) none)) <|
    .st (.act none (.px (some 11) (.bin .gtr (.v 10) (.c (.int .i64 6))))) <|
    .st (.act none (.px (some 12) (.mv (.v 11)))) <|
    .st (.act (some (.v 12, false)) (.ld (some 13) (.v 5) none)) <|
    .st (.act (some (.v 12, false)) (.px (some 14) (.nilc (.v 13)))) <|
    .st (.act (some (.v 12, false)) (.ld (some 15) (.v 14) none)) <|
    .st (.act (some (.v 12, false)) (.px (some 16) (.bin .gtr (.v 15) (.c (.int .i64 15))))) <|
    .st (.act none (.px (some 17) (.pick (.v 12) (.c (.bool true)) (.v 16)))) <|
    .st (.act none (.px (some 18) (.mv (.v 17)))) <|
    .st (.act (some (.v 18, false)) (.als 19 none 3)) <|
    .st (.act (some (.v 18, false)) (.pget (some 20) (some 19) 3 0 none)) <|
    .st (.act (some (.v 18, false)) (.ex (some 21) (.call fn_impl_in [.v 20, .c (.int .i64 1), .c (.int .i64 9)]))) K187_6) K187_4) K187_2
@[simp] def W187_7 := @C.wpe _ _ K187_7.eq_1
def K187_8 : C := .pl <| .st (.ext 10 0) <|
    .st (.act none (.px (some 7) (.mv (.c (.int .i64 0))))) <|
    .st (.act none (.px (some 8) (.mv (.c (.int .i64 3))))) .done
@[simp] def W187_8 := @C.wpe _ _ K187_8.eq_1
def K187_9 : C := .pl <| .st (.ext 10 0) <|
    .st (.act none (.px (some 7) (.mv (.c (.int .i64 0))))) <|
    .st (.act none (.px (some 8) (.mv (.c (.int .i64 2))))) .done
@[simp] def W187_9 := @C.wpe _ _ K187_9.eq_1
def K187_10 : C := .pl <| .st (.ext 10 0) <|
    .st (.act none (.px (some 7) (.mv (.c (.int .i64 1))))) .done
@[simp] def W187_10 := @C.wpe _ _ K187_10.eq_1
def K187_11 : C := .cond 10 (.v 11) K187_10 (.skip)
@[simp] def W187_11 := @C.wpe _ _ K187_11.eq_1
def K187_12 : C := .seq (.pl <| .st (.ext 10 2) <|
    .st (.act none (.px (some 10) (.bin .eql (.v 9) (.c (.int .i64 3))))) <|
    .st (.act none (.px (some 11) (.mv (.v 10)))) .done) K187_11
@[simp] def W187_12 := @C.wpe _ _ K187_12.eq_1
def K187_13 : C := .cond 10 (.v 11) K187_9 K187_12
@[simp] def W187_13 := @C.wpe _ _ K187_13.eq_1
def K187_14 : C := .seq (.pl <| .st (.ext 10 2) <|
    .st (.act none (.px (some 10) (.bin .eql (.v 9) (.c (.int .i64 2))))) <|
    .st (.act none (.px (some 11) (.mv (.v 10)))) .done) K187_13
@[simp] def W187_14 := @C.wpe _ _ K187_14.eq_1
def K187_15 : C := .cond 10 (.v 11) K187_8 K187_14
@[simp] def W187_15 := @C.wpe _ _ K187_15.eq_1
def K187_16 : C := .block 0 (.seq (.pl <| .st (.ext 10 2) <|
    .st (.act none (.px (some 10) (.bin .eql (.v 9) (.c (.int .i64 1))))) <|
    .st (.act none (.px (some 11) (.mv (.v 10)))) .done) K187_15)
@[simp] def W187_16 := @C.wpe _ _ K187_16.eq_1
def K187_17 : C := .seq (.seq (.pl <| .st (.ext 10 1) <|
    .st (.act none (.als 10 none 3)) <|
    .st (.act none (.pget (some 9) (some 10) 3 0 none)) .done) K187_16) K187_7
@[simp] def W187_17 := @C.wpe _ _ K187_17.eq_1
def K187_18 : C := .seq (.pl <| .st (.ext 10 0) <|
    .st (.act none (.px (some 7) (.mv (.c (.int .i64 2))))) <|
    .st (.act none (.px (some 8) (.mv (.c (.int .i64 0))))) .done) K187_17
@[simp] def W187_18 := @C.wpe _ _ K187_18.eq_1
def K187_19 : C := .seq (.pl <| .st (.ext 10 5) <|
    .st (.act none (.ld (some 10) (.v 5) none)) <|
    .st (.act none (.px (some 11) (.nilc (.v 10)))) <|
    .st (.act none (.ld (some 12) (.v 11) none)) <|
    .st (.act none (.px (some 13) (.bin .add (.v 12) (.c (.int .i64 1))))) <|
    .st (.act none (.px (some 14) (.nilc (.v 10)))) <|
    .st (.act none (.ex none (.store 1 (.v 14) (.v 13)))) .done) K187_18
@[simp] def W187_19 := @C.wpe _ _ K187_19.eq_1
def K187_20 : Pl := .st (.act none (.px (some 6) (.mv (.c (.bool false))))) .done
@[simp] def W187_20 := @Pl.wpe _ _ K187_20.eq_1
def K187_21 : Pl := .st (.act none (.ex (some 5) (.alloc (.v 2)))) K187_20
@[simp] def W187_21 := @Pl.wpe _ _ K187_21.eq_1
def B_impl_Expr_walk : C := .seq (.pl <| .st (.ext 10 0) <|
    .st (.act none (.pnew 3 (.v 0) [])) <|
    .st (.act none (.ex (some 4) (.alloc (.v 1)))) K187_21) K187_19
@[simp] def WB_impl_Expr_walk := @C.wpe _ _ B_impl_Expr_walk.eq_1
def R_impl_Expr_walk : FIR := ⟨B_impl_Expr_walk, 10, [(6, none)]⟩
theorem IR_impl_Expr_walk : cfun Try.prog H_impl_Expr_walk Try.f187 = some R_impl_Expr_walk := by kernel_rfl
theorem EN_impl_Expr_walk {args : List Value} {h : Heap} {k : Value → Heap → Prop} (hargs : args.length = 3) (hw : B_impl_Expr_walk.wp Try.prog (retQ [(6, none)] k) (env0 args 10) h) : CallE Try.prog fn_impl_Expr_walk args h k := enter Try.func187 rfl IR_impl_Expr_walk hargs hw

def H_impl_Expr_walk_1 : Hint := ⟨[(0, false), (1, false), (2, false), (3, true), (4, false)], []⟩
def K194_1 : Pl := .st (.act none (.px (some 10) (.un .not (.v 9)))) <|
    .st (.act none (.px (some 4) (.mv (.v 10)))) .done
@[simp] def W194_1 := @Pl.wpe _ _ K194_1.eq_1
def K194_2 : C := .seq (.pl <| .st (.ext 5 6) <|
    .st (.act none (.pget (some 5) none 3 0 (some 3))) <|
    .st (.act none (.ld (some 6) (.v 1) none)) <|
    .st (.act none (.px (some 7) (.bin .add (.v 6) (.c (.int .i64 1))))) <|
    .st (.act none (.ld (some 8) (.v 2) none)) <|
    .st (.act none (.ex (some 9) (.call fn_impl_Expr_walk [.v 5, .v 7, .v 8]))) K194_1) (.ret)
@[simp] def W194_2 := @C.wpe _ _ K194_2.eq_1
def B_impl_Expr_walk_1 : C := .seq (.pl <| .st (.ext 5 0) <|
    .st (.act none (.pnew 3 (.v 0) [])) <|
    .st (.act none (.px (some 4) (.mv (.c (.bool false))))) .done) K194_2
@[simp] def WB_impl_Expr_walk_1 := @C.wpe _ _ B_impl_Expr_walk_1.eq_1
def R_impl_Expr_walk_1 : FIR := ⟨B_impl_Expr_walk_1, 5, [(4, none)]⟩
theorem IR_impl_Expr_walk_1 : cfun Try.prog H_impl_Expr_walk_1 Try.f194 = some R_impl_Expr_walk_1 := by kernel_rfl
theorem EN_impl_Expr_walk_1 {args : List Value} {h : Heap} {k : Value → Heap → Prop} (hargs : args.length = 3) (hw : B_impl_Expr_walk_1.wp Try.prog (retQ [(4, none)] k) (env0 args 5) h) : CallE Try.prog fn_impl_Expr_walk_1 args h k := enter Try.func194 rfl IR_impl_Expr_walk_1 hargs hw

def H_impl_in : Hint := ⟨[(0, false), (1, false), (2, false), (6, false)], []⟩
def K106_1 : C := .seq (.pl <| .st (.ext 4 8) <|
    .st (.act none (.px (some 4) (.mv (.v 0)))) <|
    .st (.act none (.px (some 5) (.mv (.v 1)))) <|
    .st (.act none (.px (some 6) (.bin .geq (.v 4) (.v 5)))) <|
    .st (.act none (.px (some 7) (.mv (.v 6)))) <|
    .st (.act (some (.v 7, true)) (.px (some 8) (.mv (.v 0)))) <|
    .st (.act (some (.v 7, true)) (.px (some 9) (.mv (.v 2)))) <|
    .st (.act (some (.v 7, true)) (.px (some 10) (.bin .leq (.v 8) (.v 9)))) <|
    .st (.act none (.px (some 11) (.pick (.v 7) (.v 10) (.c (.bool false))))) <|
    .st (.act none (.px (some 3) (.mv (.v 11)))) .done) (.ret)
@[simp] def W106_1 := @C.wpe _ _ K106_1.eq_1
def B_impl_in : C := .seq (.pl <| .st (.ext 4 0) <|
    .st (.act none (.px (some 3) (.mv (.c (.bool false))))) .done) K106_1
@[simp] def WB_impl_in := @C.wpe _ _ B_impl_in.eq_1
def R_impl_in : FIR := ⟨B_impl_in, 4, [(3, none)]⟩
theorem IR_impl_in : cfun Try.prog H_impl_in Try.f106 = some R_impl_in := by kernel_rfl
theorem EN_impl_in {args : List Value} {h : Heap} {k : Value → Heap → Prop} (hargs : args.length = 3) (hw : B_impl_in.wp Try.prog (retQ [(3, none)] k) (env0 args 4) h) : CallE Try.prog fn_impl_in args h k := enter Try.func106 rfl IR_impl_in hargs hw

def H_impl_valsOk : Hint := ⟨[(0, false), (2, false)], []⟩
def K105_1 : Pl := .st (.act (some (.v 5, true)) (.px (some 8) (.un .not (.v 7)))) <|
    .st (.act none (.px (some 9) (.pick (.v 5) (.v 8) (.c (.bool false))))) <|
    .st (.act none (.px (some 1) (.mv (.v 9)))) .done
@[simp] def W105_1 := @Pl.wpe _ _ K105_1.eq_1
def K105_2 : C := .seq (.pl <| .st (.ext 2 8) <|
    .st (.act none (.px (some 2) (.mv (.v 0)))) <|
    .st (.act none (.px (some 3) (.lenV (.v 2)))) <|
    .st (.act none (.px (some 4) (.bin .eql (.v 3) (.c (.int .i64 3))))) <|
    .st (.act none (.px (some 5) (.mv (.v 4)))) <|
    .st (.act (some (.v 5, true)) (.px (some 6) (.mv (.v 0)))) <|
    .st (.act (some (.v 5, true)) (.ex (some 7) (.call fn_slices_ContainsFunc_S_int_int [.v 6, .c (.func (.func 148) #[] #[])]))) K105_1) (.ret)
@[simp] def W105_2 := @C.wpe _ _ K105_2.eq_1
def B_impl_valsOk : C := .seq (.pl <| .st (.ext 2 0) <|
    .st (.act none (.px (some 1) (.mv (.c (.bool false))))) .done) K105_2
@[simp] def WB_impl_valsOk := @C.wpe _ _ B_impl_valsOk.eq_1
def R_impl_valsOk : FIR := ⟨B_impl_valsOk, 2, [(1, none)]⟩
theorem IR_impl_valsOk : cfun Try.prog H_impl_valsOk Try.f105 = some R_impl_valsOk := by kernel_rfl
theorem EN_impl_valsOk {args : List Value} {h : Heap} {k : Value → Heap → Prop} (hargs : args.length = 1) (hw : B_impl_valsOk.wp Try.prog (retQ [(1, none)] k) (env0 args 2) h) : CallE Try.prog fn_impl_valsOk args h k := enter Try.func105 rfl IR_impl_valsOk hargs hw

def H_impl_valsOk_1 : Hint := ⟨[(0, false), (2, false)], []⟩
def K148_1 : Pl := .st (.act none (.px (some 4) (.un .not (.v 3)))) <|
    .st (.act none (.px (some 1) (.mv (.v 4)))) .done
@[simp] def W148_1 := @Pl.wpe _ _ K148_1.eq_1
def K148_2 : C := .seq (.pl <| .st (.ext 2 3) <|
    .st (.act none (.px (some 2) (.mv (.v 0)))) <|
    .st (.act none (.ex (some 3) (.call fn_impl_in [.v 2, .c (.int .i64 0), .c (.int .i64 3)]))) K148_1) (.ret)
@[simp] def W148_2 := @C.wpe _ _ K148_2.eq_1
def B_impl_valsOk_1 : C := .seq (.pl <| .st (.ext 2 0) <|
    .st (.act none (.px (some 1) (.mv (.c (.bool false))))) .done) K148_2
@[simp] def WB_impl_valsOk_1 := @C.wpe _ _ B_impl_valsOk_1.eq_1
def R_impl_valsOk_1 : FIR := ⟨B_impl_valsOk_1, 2, [(1, none)]⟩
theorem IR_impl_valsOk_1 : cfun Try.prog H_impl_valsOk_1 Try.f148 = some R_impl_valsOk_1 := by kernel_rfl
theorem EN_impl_valsOk_1 {args : List Value} {h : Heap} {k : Value → Heap → Prop} (hargs : args.length = 1) (hw : B_impl_valsOk_1.wp Try.prog (retQ [(1, none)] k) (env0 args 2) h) : CallE Try.prog fn_impl_valsOk_1 args h k := enter Try.func148 rfl IR_impl_valsOk_1 hargs hw

def H_slices_ContainsFunc_S_impl_Expr_impl_Expr : Hint := ⟨[(0, false), (1, false), (4, false)], []⟩
def K118_1 : Pl := .st (.act none (.px (some 6) (.bin .geq (.v 5) (.c (.int .i64 0))))) <|
    .st (.act none (.px (some 2) (.mv (.v 6)))) .done
@[simp] def W118_1 := @Pl.wpe _ _ K118_1.eq_1
def K118_2 : C := .seq (.pl <| .st (.ext 3 4) <|
    .st (.act none (.px (some 3) (.mv (.v 0)))) <|
    .st (.act none (.px (some 4) (.mv (.v 1)))) <|
    .st (.act none (.ex (some 5) (.call fn_slices_IndexFunc_S_impl_Expr_impl_Expr [.v 3, .v 4]))) K118_1) (.ret)
@[simp] def W118_2 := @C.wpe _ _ K118_2.eq_1
def B_slices_ContainsFunc_S_impl_Expr_impl_Expr : C := .seq (.pl <| .st (.ext 3 0) <|
    .st (.act none (.px (some 2) (.mv (.c (.bool false))))) .done) K118_2
@[simp] def WB_slices_ContainsFunc_S_impl_Expr_impl_Expr := @C.wpe _ _ B_slices_ContainsFunc_S_impl_Expr_impl_Expr.eq_1
def R_slices_ContainsFunc_S_impl_Expr_impl_Expr : FIR := ⟨B_slices_ContainsFunc_S_impl_Expr_impl_Expr, 3, [(2, none)]⟩
theorem IR_slices_ContainsFunc_S_impl_Expr_impl_Expr : cfun Try.prog H_slices_ContainsFunc_S_impl_Expr_impl_Expr Try.f118 = some R_slices_ContainsFunc_S_impl_Expr_impl_Expr := by kernel_rfl
theorem EN_slices_ContainsFunc_S_impl_Expr_impl_Expr {args : List Value} {h : Heap} {k : Value → Heap → Prop} (hargs : args.length = 2) (hw : B_slices_ContainsFunc_S_impl_Expr_impl_Expr.wp Try.prog (retQ [(2, none)] k) (env0 args 3) h) : CallE Try.prog fn_slices_ContainsFunc_S_impl_Expr_impl_Expr args h k := enter Try.func118 rfl IR_slices_ContainsFunc_S_impl_Expr_impl_Expr hargs hw

def H_slices_ContainsFunc_S_int_int : Hint := ⟨[(0, false), (1, false), (4, false)], []⟩
def K147_1 : Pl := .st (.act none (.px (some 6) (.bin .geq (.v 5) (.c (.int .i64 0))))) <|
    .st (.act none (.px (some 2) (.mv (.v 6)))) .done
@[simp] def W147_1 := @Pl.wpe _ _ K147_1.eq_1
def K147_2 : C := .seq (.pl <| .st (.ext 3 4) <|
    .st (.act none (.px (some 3) (.mv (.v 0)))) <|
    .st (.act none (.px (some 4) (.mv (.v 1)))) <|
    .st (.act none (.ex (some 5) (.call fn_slices_IndexFunc_S_int_int [.v 3, .v 4]))) K147_1) (.ret)
@[simp] def W147_2 := @C.wpe _ _ K147_2.eq_1
def B_slices_ContainsFunc_S_int_int : C := .seq (.pl <| .st (.ext 3 0) <|
    .st (.act none (.px (some 2) (.mv (.c (.bool false))))) .done) K147_2
@[simp] def WB_slices_ContainsFunc_S_int_int := @C.wpe _ _ B_slices_ContainsFunc_S_int_int.eq_1
def R_slices_ContainsFunc_S_int_int : FIR := ⟨B_slices_ContainsFunc_S_int_int, 3, [(2, none)]⟩
theorem IR_slices_ContainsFunc_S_int_int : cfun Try.prog H_slices_ContainsFunc_S_int_int Try.f147 = some R_slices_ContainsFunc_S_int_int := by kernel_rfl
theorem EN_slices_ContainsFunc_S_int_int {args : List Value} {h : Heap} {k : Value → Heap → Prop} (hargs : args.length = 2) (hw : B_slices_ContainsFunc_S_int_int.wp Try.prog (retQ [(2, none)] k) (env0 args 3) h) : CallE Try.prog fn_slices_ContainsFunc_S_int_int args h k := enter Try.func147 rfl IR_slices_ContainsFunc_S_int_int hargs hw

def H_slices_IndexFunc_S_impl_Expr_impl_Expr : Hint := ⟨[(0, false), (1, false), (4, false), (5, false), (7, false), (8, false)], [[2, 3]]⟩
def K157_1 : C := .seq (.pl <| .st (.ext 6 0) <|
    .st (.act none (.px (some 2) (.mv (.c (.int .i64 (-1)))))) .done) (.ret)
@[simp] def W157_1 := @C.wpe _ _ K157_1.eq_1
def K157_2 : C := .pl <| .st (.ext 6 1) <|
    .st (.act none (.px (some 6) (.bin .add (.v 5) (.c (.int .i64 1))))) <|
    .st (.act none (.px (some 5) (.mv (.v 6)))) .done
@[simp] def W157_2 := @C.wpe _ _ K157_2.eq_1
def K157_3 : C := .seq (.pl <| .st (.ext 6 1) <|
    .st (.act none (.px (some 6) (.mv (.v 3)))) <|
    .st (.act none (.px (some 2) (.mv (.v 6)))) .done) (.ret)
@[simp] def W157_3 := @C.wpe _ _ K157_3.eq_1
def K157_4 : C := .cond 6 (.v 11) K157_3 (.skip)
@[simp] def W157_4 := @C.wpe _ _ K157_4.eq_1
def K157_5 : C := .seq (.pl <| .st (.ext 6 6) <|
    .st (.act none (.px (some 6) (.mv (.v 1)))) <|
    .st (.act none (.px (some 7) (.mv (.v 0)))) <|
    .st (.act none (.px (some 8) (.mv (.v 3)))) <|
    .st (.act none (.px (some 9) (.ia 3 (.v 7) (.v 8)))) <|
    .st (.act none (.ld (some 10) (.v 9) (some 3))) <|
    .st (.act none (.ex (some 11) (.callv (.v 6) [.v 10]))) .done) K157_4
@[simp] def W157_5 := @C.wpe _ _ K157_5.eq_1
def K157_6 : C := .seq (.block 1 (.seq (.pl <| .st (.ext 6 1) <|
    .st (.act none (.px (some 6) (.mv (.v 5)))) <|
    .st (.act none (.px (some 3) (.mv (.v 6)))) .done) K157_5)) K157_2
@[simp] def W157_6 := @C.wpe _ _ K157_6.eq_1
def K157_7 : C := .seq (.cond 6 (.v 6) (.skip) (.exit 0)) K157_6
@[simp] def W157_7 := @C.wpe _ _ K157_7.eq_1
def K157_8 : C := .seq (.pl <| .st (.ext 6 1) <|
    .st (.act none (.px (some 6) (.bin .lss (.v 5) (.v 4)))) .done) K157_7
@[simp] def W157_8 := @C.wpe _ _ K157_8.eq_1
def K157_9 : C := .block 0 (.loop 6 [2, 3] K157_8)
@[simp] def W157_9 := @C.wpe _ _ K157_9.eq_1
def K157_10 : C := .seq (.seq (.pl <| .st (.ext 6 1) <|
    .st (.act none (.px (some 6) (.mv (.v 0)))) <|
    .st (.act none (.px (some 4) (.lenV (.v 6)))) <|
    .st (.act none (.px (some 5) (.mv (.c (.int .i64 0))))) .done) K157_9) K157_1
@[simp] def W157_10 := @C.wpe _ _ K157_10.eq_1
def B_slices_IndexFunc_S_impl_Expr_impl_Expr : C := .seq (.pl <| .st (.ext 6 0) <|
    .st (.act none (.px (some 2) (.mv (.c (.int .i64 0))))) .done) K157_10
@[simp] def WB_slices_IndexFunc_S_impl_Expr_impl_Expr := @C.wpe _ _ B_slices_IndexFunc_S_impl_Expr_impl_Expr.eq_1
def R_slices_IndexFunc_S_impl_Expr_impl_Expr : FIR := ⟨B_slices_IndexFunc_S_impl_Expr_impl_Expr, 6, [(2, none)]⟩
theorem IR_slices_IndexFunc_S_impl_Expr_impl_Expr : cfun Try.prog H_slices_IndexFunc_S_impl_Expr_impl_Expr Try.f157 = some R_slices_IndexFunc_S_impl_Expr_impl_Expr := by kernel_rfl
theorem EN_slices_IndexFunc_S_impl_Expr_impl_Expr {args : List Value} {h : Heap} {k : Value → Heap → Prop} (hargs : args.length = 2) (hw : B_slices_IndexFunc_S_impl_Expr_impl_Expr.wp Try.prog (retQ [(2, none)] k) (env0 args 6) h) : CallE Try.prog fn_slices_IndexFunc_S_impl_Expr_impl_Expr args h k := enter Try.func157 rfl IR_slices_IndexFunc_S_impl_Expr_impl_Expr hargs hw

def H_slices_IndexFunc_S_int_int : Hint := ⟨[(0, false), (1, false), (4, false), (5, false), (7, false), (8, false)], [[2, 3]]⟩
def K181_1 : C := .seq (.pl <| .st (.ext 6 0) <|
    .st (.act none (.px (some 2) (.mv (.c (.int .i64 (-1)))))) .done) (.ret)
@[simp] def W181_1 := @C.wpe _ _ K181_1.eq_1
def K181_2 : C := .pl <| .st (.ext 6 1) <|
    .st (.act none (.px (some 6) (.bin .add (.v 5) (.c (.int .i64 1))))) <|
    .st (.act none (.px (some 5) (.mv (.v 6)))) .done
@[simp] def W181_2 := @C.wpe _ _ K181_2.eq_1
def K181_3 : C := .seq (.pl <| .st (.ext 6 1) <|
    .st (.act none (.px (some 6) (.mv (.v 3)))) <|
    .st (.act none (.px (some 2) (.mv (.v 6)))) .done) (.ret)
@[simp] def W181_3 := @C.wpe _ _ K181_3.eq_1
def K181_4 : C := .cond 6 (.v 11) K181_3 (.skip)
@[simp] def W181_4 := @C.wpe _ _ K181_4.eq_1
def K181_5 : C := .seq (.pl <| .st (.ext 6 6) <|
    .st (.act none (.px (some 6) (.mv (.v 1)))) <|
    .st (.act none (.px (some 7) (.mv (.v 0)))) <|
    .st (.act none (.px (some 8) (.mv (.v 3)))) <|
    .st (.act none (.px (some 9) (.ia 1 (.v 7) (.v 8)))) <|
    .st (.act none (.ld (some 10) (.v 9) none)) <|
    .st (.act none (.ex (some 11) (.callv (.v 6) [.v 10]))) .done) K181_4
@[simp] def W181_5 := @C.wpe _ _ K181_5.eq_1
def K181_6 : C := .seq (.block 1 (.seq (.pl <| .st (.ext 6 1) <|
    .st (.act none (.px (some 6) (.mv (.v 5)))) <|
    .st (.act none (.px (some 3) (.mv (.v 6)))) .done) K181_5)) K181_2
@[simp] def W181_6 := @C.wpe _ _ K181_6.eq_1
def K181_7 : C := .seq (.cond 6 (.v 6) (.skip) (.exit 0)) K181_6
@[simp] def W181_7 := @C.wpe _ _ K181_7.eq_1
def K181_8 : C := .seq (.pl <| .st (.ext 6 1) <|
    .st (.act none (.px (some 6) (.bin .lss (.v 5) (.v 4)))) .done) K181_7
@[simp] def W181_8 := @C.wpe _ _ K181_8.eq_1
def K181_9 : C := .block 0 (.loop 6 [2, 3] K181_8)
@[simp] def W181_9 := @C.wpe _ _ K181_9.eq_1
def K181_10 : C := .seq (.seq (.pl <| .st (.ext 6 1) <|
    .st (.act none (.px (some 6) (.mv (.v 0)))) <|
    .st (.act none (.px (some 4) (.lenV (.v 6)))) <|
    .st (.act none (.px (some 5) (.mv (.c (.int .i64 0))))) .done) K181_9) K181_1
@[simp] def W181_10 := @C.wpe _ _ K181_10.eq_1
def B_slices_IndexFunc_S_int_int : C := .seq (.pl <| .st (.ext 6 0) <|
    .st (.act none (.px (some 2) (.mv (.c (.int .i64 0))))) .done) K181_10
@[simp] def WB_slices_IndexFunc_S_int_int := @C.wpe _ _ B_slices_IndexFunc_S_int_int.eq_1
def R_slices_IndexFunc_S_int_int : FIR := ⟨B_slices_IndexFunc_S_int_int, 6, [(2, none)]⟩
theorem IR_slices_IndexFunc_S_int_int : cfun Try.prog H_slices_IndexFunc_S_int_int Try.f181 = some R_slices_IndexFunc_S_int_int := by kernel_rfl
theorem EN_slices_IndexFunc_S_int_int {args : List Value} {h : Heap} {k : Value → Heap → Prop} (hargs : args.length = 2) (hw : B_slices_IndexFunc_S_int_int.wp Try.prog (retQ [(2, none)] k) (env0 args 6) h) : CallE Try.prog fn_slices_IndexFunc_S_int_int args h k := enter Try.func181 rfl IR_slices_IndexFunc_S_int_int hargs hw

def H_spec_ExprValid : Hint := ⟨[(0, false), (1, true), (2, false)], []⟩
def K116_1 : Pl := .st (.act (some (.v 5, true)) (.px (some 8) (.bin .leq (.v 7) (.c (.int .i64 15))))) <|
    .st (.act none (.px (some 9) (.pick (.v 5) (.v 8) (.c (.bool false))))) <|
    .st (.act none (.px (some 2) (.mv (.v 9)))) .done
@[simp] def W116_1 := @Pl.wpe _ _ K116_1.eq_1
def K116_2 : Pl := .st (.act none (.px (some 5) (.mv (.v 4)))) <|
    .st (.act (some (.v 5, true)) (.pget (some 6) none 1 0 (some 3))) <|
    .st (.act (some (.v 5, true)) (.ex (some 7) (.call fn_spec_l1Count [.v 6, .c (.int .i64 6)]))) K116_1
@[simp] def W116_2 := @Pl.wpe _ _ K116_2.eq_1
def K116_3 : C := .seq (.pl <| .st (.ext 3 7) <|
    .st (.act none (.pget (some 3) none 1 0 (some 3))) <|
    .st (.act none (.ex (some 4) (.call fn_spec_l1Shape [.v 3, .c (.int .i64 6)]))) K116_2) (.ret)
@[simp] def W116_3 := @C.wpe _ _ K116_3.eq_1
def B_spec_ExprValid : C := .seq (.pl <| .st (.ext 3 0) <|
    .st (.act none (.pnew 1 (.v 0) [])) <|
    .st (.act none (.px (some 2) (.mv (.c (.bool false))))) .done) K116_3
@[simp] def WB_spec_ExprValid := @C.wpe _ _ B_spec_ExprValid.eq_1
def R_spec_ExprValid : FIR := ⟨B_spec_ExprValid, 3, [(2, none)]⟩
theorem IR_spec_ExprValid : cfun Try.prog H_spec_ExprValid Try.f116 = some R_spec_ExprValid := by kernel_rfl
theorem EN_spec_ExprValid {args : List Value} {h : Heap} {k : Value → Heap → Prop} (hargs : args.length = 1) (hw : B_spec_ExprValid.wp Try.prog (retQ [(2, none)] k) (env0 args 3) h) : CallE Try.prog fn_spec_ExprValid args h k := enter Try.func116 rfl IR_spec_ExprValid hargs hw

def H_spec_l1Arity : Hint := ⟨[(0, false), (2, false), (3, false), (4, false)], []⟩
def K185_1 : C := .seq (.pl <| .st (.ext 4 0) <|
    .st (.act none (.px (some 1) (.mv (.c (.int .i64 (-1)))))) .done) (.ret)
@[simp] def W185_1 := @C.wpe _ _ K185_1.eq_1
def K185_2 : C := .seq (.pl <| .st (.ext 4 0) <|
    .st (.act none (.px (some 1) (.mv (.c (.int .i64 2))))) .done) (.ret)
@[simp] def W185_2 := @C.wpe _ _ K185_2.eq_1
def K185_3 : C := .cond 4 (.v 9) K185_2 (.skip)
@[simp] def W185_3 := @C.wpe _ _ K185_3.eq_1
def K185_4 : C := .seq (.seq (.pl <| .st (.ext 4 6) <|
    .st (.act none (.px (some 4) (.mv (.v 0)))) <|
    .st (.act none (.px (some 5) (.bin .geq (.v 4) (.c (.int .i64 4))))) <|
    .st (.act none (.px (some 6) (.mv (.v 5)))) <|
    .st (.act (some (.v 6, true)) (.px (some 7) (.mv (.v 0)))) <|
    .st (.act (some (.v 6, true)) (.px (some 8) (.bin .leq (.v 7) (.c (.int .i64 9))))) <|
    .st (.act none (.px (some 9) (.pick (.v 6) (.v 8) (.c (.bool false))))) .done) K185_3) K185_1
@[simp] def W185_4 := @C.wpe _ _ K185_4.eq_1
def K185_5 : C := .seq (.pl <| .st (.ext 4 0) <|
    .st (.act none (.px (some 1) (.mv (.c (.int .i64 0))))) .done) (.ret)
@[simp] def W185_5 := @C.wpe _ _ K185_5.eq_1
def K185_6 : C := .seq (.pl <| .st (.ext 4 0) <|
    .st (.act none (.px (some 1) (.mv (.c (.int .i64 1))))) .done) (.ret)
@[simp] def W185_6 := @C.wpe _ _ K185_6.eq_1
def K185_7 : C := .cond 4 (.v 5) K185_6 (.skip)
@[simp] def W185_7 := @C.wpe _ _ K185_7.eq_1
def K185_8 : C := .seq (.pl <| .st (.ext 4 2) <|
    .st (.act none (.px (some 4) (.bin .eql (.v 2) (.c (.int .i64 3))))) <|
    .st (.act none (.px (some 5) (.mv (.v 4)))) .done) K185_7
@[simp] def W185_8 := @C.wpe _ _ K185_8.eq_1
def K185_9 : C := .cond 4 (.v 3) K185_5 K185_8
@[simp] def W185_9 := @C.wpe _ _ K185_9.eq_1
def K185_10 : C := .pl <| .st (.ext 4 1) <|
    .st (.act none (.px (some 4) (.bin .eql (.v 2) (.c (.int .i64 2))))) <|
    .st (.act none (.px (some 3) (.mv (.v 4)))) .done
@[simp] def W185_10 := @C.wpe _ _ K185_10.eq_1
def K185_11 : C := .cond 4 (.v 3) (.skip) K185_10
@[simp] def W185_11 := @C.wpe _ _ K185_11.eq_1
def K185_12 : C := .block 0 (.seq (.seq (.pl <| .st (.ext 4 1) <|
    .st (.act none (.px (some 4) (.bin .eql (.v 2) (.c (.int .i64 1))))) <|
    .st (.act none (.px (some 3) (.mv (.v 4)))) .done) K185_11) K185_9)
@[simp] def W185_12 := @C.wpe _ _ K185_12.eq_1
def K185_13 : C := .seq (.seq (.pl <| .st (.ext 4 0) <|
    .st (.act none (.px (some 2) (.mv (.v 0)))) .done) K185_12) K185_4
@[simp] def W185_13 := @C.wpe _ _ K185_13.eq_1
def B_spec_l1Arity : C := .seq (.pl <| .st (.ext 4 0) <|
    .st (.act none (.px (some 1) (.mv (.c (.int .i64 0))))) .done) K185_13
@[simp] def WB_spec_l1Arity := @C.wpe _ _ B_spec_l1Arity.eq_1
def R_spec_l1Arity : FIR := ⟨B_spec_l1Arity, 4, [(1, none)]⟩
theorem IR_spec_l1Arity : cfun Try.prog H_spec_l1Arity Try.f185 = some R_spec_l1Arity := by kernel_rfl
theorem EN_spec_l1Arity {args : List Value} {h : Heap} {k : Value → Heap → Prop} (hargs : args.length = 1) (hw : B_spec_l1Arity.wp Try.prog (retQ [(1, none)] k) (env0 args 4) h) : CallE Try.prog fn_spec_l1Arity args h k := enter Try.func185 rfl IR_spec_l1Arity hargs hw

def H_spec_l1Count : Hint := ⟨[(0, false), (1, false), (2, true), (4, false), (5, false), (6, false)], [[0, 3]]⟩
def K155_1 : C := .seq (.pl <| .st (.ext 6 1) <|
    .st (.act none (.px (some 6) (.mv (.v 4)))) <|
    .st (.act none (.px (some 3) (.mv (.v 6)))) .done) (.ret)
@[simp] def W155_1 := @C.wpe _ _ K155_1.eq_1
def K155_2 : C := .pl <| .st (.ext 6 2) <|
    .st (.act none (.px (some 6) (.mv (.v 5)))) <|
    .st (.act none (.px (some 7) (.bin .add (.v 6) (.c (.int .i64 1))))) <|
    .st (.act none (.px (some 5) (.mv (.v 7)))) .done
@[simp] def W155_2 := @C.wpe _ _ K155_2.eq_1
def K155_3 : Pl := .st (.act none (.px (some 15) (.bin .add (.v 6) (.v 14)))) <|
    .st (.act none (.px (some 4) (.mv (.v 15)))) .done
@[simp] def W155_3 := @Pl.wpe _ _ K155_3.eq_1
def K155_4 : C := .seq (.block 1 (.pl <| .st (.ext 6 10) <|
    .st (.act none (.px (some 6) (.mv (.v 4)))) <|
    .st (.act none (.als 7 none 2)) <|
    .st (.act none (.pget (some 8) (some 7) 2 2 none)) <|
    .st (.act none (.px (some 9) (.mv (.v 5)))) <|
    .st (.act none (.px (some 10) (.ia 3 (.v 8) (.v 9)))) <|
    .st (.act none (.ld (some 11) (.v 10) (some 3))) <|
    .st (.act none (.px (some 12) (.mv (.v 1)))) <|
    .st (.act none (.px (some 13) (.bin .sub (.v 12) (.c (.int .i64 1))))) <|
    .st (.act none (.ex (some 14) (.call fn_spec_l1Count [.v 11, .v 13]))) K155_3)) K155_2
@[simp] def W155_4 := @C.wpe _ _ K155_4.eq_1
def K155_5 : C := .cond 6 (.v 14) (.skip) (.exit 0)
@[simp] def W155_5 := @C.wpe _ _ K155_5.eq_1
def K155_6 : C := .seq (.seq (.pl <| .st (.ext 6 9) <|
    .st (.act none (.px (some 6) (.mv (.v 5)))) <|
    .st (.act none (.als 7 none 2)) <|
    .st (.act none (.pget (some 8) (some 7) 2 2 none)) <|
    .st (.act none (.px (some 9) (.lenV (.v 8)))) <|
    .st (.act none (.px (some 10) (.bin .lss (.v 6) (.v 9)))) <|
    .st (.act none (.px (some 11) (.mv (.v 10)))) <|
    .st (.act (some (.v 11, true)) (.px (some 12) (.mv (.v 1)))) <|
    .st (.act (some (.v 11, true)) (.px (some 13) (.bin .gtr (.v 12) (.c (.int .i64 0))))) <|
    .st (.act none (.px (some 14) (.pick (.v 11) (.v 13) (.c (.bool false))))) .done) K155_5) K155_4
@[simp] def W155_6 := @C.wpe _ _ K155_6.eq_1
def K155_7 : C := .block 0 (.loop 6 [0, 3] K155_6)
@[simp] def W155_7 := @C.wpe _ _ K155_7.eq_1
def K155_8 : C := .seq (.seq (.pl <| .st (.ext 6 0) <|
    .st (.act none (.px (some 5) (.mv (.c (.int .i64 0))))) .done) K155_7) K155_1
@[simp] def W155_8 := @C.wpe _ _ K155_8.eq_1
def K155_9 : C := .seq (.pl <| .st (.ext 6 0) <|
    .st (.act none (.px (some 4) (.mv (.c (.int .i64 1))))) .done) K155_8
@[simp] def W155_9 := @C.wpe _ _ K155_9.eq_1
def B_spec_l1Count : C := .seq (.pl <| .st (.ext 6 0) <|
    .st (.act none (.pnew 2 (.v 0) [])) <|
    .st (.act none (.px (some 3) (.mv (.c (.int .i64 0))))) .done) K155_9
@[simp] def WB_spec_l1Count := @C.wpe _ _ B_spec_l1Count.eq_1
def R_spec_l1Count : FIR := ⟨B_spec_l1Count, 6, [(3, none)]⟩
theorem IR_spec_l1Count : cfun Try.prog H_spec_l1Count Try.f155 = some R_spec_l1Count := by kernel_rfl
theorem EN_spec_l1Count {args : List Value} {h : Heap} {k : Value → Heap → Prop} (hargs : args.length = 2) (hw : B_spec_l1Count.wp Try.prog (retQ [(3, none)] k) (env0 args 6) h) : CallE Try.prog fn_spec_l1Count args h k := enter Try.func155 rfl IR_spec_l1Count hargs hw

def H_spec_l1Shape : Hint := ⟨[(0, false), (1, false), (2, true), (4, false), (5, false), (6, false), (19, false)], [[0, 3, 4, 6]]⟩
def K154_1 : C := .seq (.pl <| .st (.ext 7 0) <|
    .st (.act none (.px (some 3) (.mv (.c (.bool true))))) .done) (.ret)
@[simp] def W154_1 := @C.wpe _ _ K154_1.eq_1
def K154_2 : C := .pl <| .st (.ext 7 2) <|
    .st (.act none (.px (some 7) (.mv (.v 5)))) <|
    .st (.act none (.px (some 8) (.bin .add (.v 7) (.c (.int .i64 1))))) <|
    .st (.act none (.px (some 5) (.mv (.v 8)))) .done
@[simp] def W154_2 := @C.wpe _ _ K154_2.eq_1
def K154_3 : C := .seq (.pl <| .st (.ext 7 0) <|
    .st (.act none (.px (some 3) (.mv (.c (.bool false))))) .done) (.ret)
@[simp] def W154_3 := @C.wpe _ _ K154_3.eq_1
def K154_4 : C := .cond 7 (.v 15) K154_3 (.skip)
@[simp] def W154_4 := @C.wpe _ _ K154_4.eq_1
def K154_5 : Pl := .st (.act none (.px (some 15) (.un .not (.v 14)))) .done
@[simp] def W154_5 := @Pl.wpe _ _ K154_5.eq_1
def K154_6 : C := .seq (.block 2 (.seq (.pl <| .st (.ext 7 9) <|
    .st (.act none (.als 7 none 2)) <|
    .st (.act none (.pget (some 8) (some 7) 2 2 none)) <|
    .st (.act none (.px (some 9) (.mv (.v 5)))) <|
    .st (.act none (.px (some 10) (.ia 3 (.v 8) (.v 9)))) <|
    .st (.act none (.ld (some 11) (.v 10) (some 3))) <|
    .st (.act none (.px (some 12) (.mv (.v 1)))) <|
    .st (.act none (.px (some 13) (.bin .sub (.v 12) (.c (.int .i64 1))))) <|
    .st (.act none (.ex (some 14) (.call fn_spec_l1Shape [.v 11, .v 13]))) K154_5) K154_4)) K154_2
@[simp] def W154_6 := @C.wpe _ _ K154_6.eq_1
def K154_7 : C := .cond 7 (.v 11) (.skip) (.exit 1)
@[simp] def W154_7 := @C.wpe _ _ K154_7.eq_1
def K154_8 : C := .seq (.seq (.pl <| .st (.ext 7 5) <|
    .st (.act none (.px (some 7) (.mv (.v 5)))) <|
    .st (.act none (.als 8 none 2)) <|
    .st (.act none (.pget (some 9) (some 8) 2 2 none)) <|
    .st (.act none (.px (some 10) (.lenV (.v 9)))) <|
    .st (.act none (.px (some 11) (.bin .lss (.v 7) (.v 10)))) .done) K154_7) K154_6
@[simp] def W154_8 := @C.wpe _ _ K154_8.eq_1
def K154_9 : C := .block 1 (.loop 7 [0, 3, 4, 6] K154_8)
@[simp] def W154_9 := @C.wpe _ _ K154_9.eq_1
def K154_10 : C := .seq (.seq (.pl <| .st (.ext 7 0) <|
    .st (.act none (.px (some 5) (.mv (.c (.int .i64 0))))) .done) K154_9) K154_1
@[simp] def W154_10 := @C.wpe _ _ K154_10.eq_1
def K154_11 : C := .seq (.pl <| .st (.ext 7 0) <|
    .st (.act none (.px (some 3) (.mv (.c (.bool false))))) .done) (.ret)
@[simp] def W154_11 := @C.wpe _ _ K154_11.eq_1
def K154_12 : C := .cond 7 (.v 15) K154_11 (.skip)
@[simp] def W154_12 := @C.wpe _ _ K154_12.eq_1
def K154_13 : C := .seq (.seq (.pl <| .st (.ext 7 9) <|
    .st (.act none (.als 7 none 2)) <|
    .st (.act none (.pget (some 8) (some 7) 2 1 none)) <|
    .st (.act none (.px (some 9) (.bin .lss (.v 8) (.c (.int .i64 0))))) <|
    .st (.act none (.px (some 10) (.mv (.v 9)))) <|
    .st (.act (some (.v 10, false)) (.als 11 none 2)) <|
    .st (.act (some (.v 10, false)) (.pget (some 12) (some 11) 2 1 none)) <|
    .st (.act (some (.v 10, false)) (.px (some 13) (.mv (.v 4)))) <|
    .st (.act (some (.v 10, false)) (.px (some 14) (.bin .gtr (.v 12) (.v 13)))) <|
    .st (.act none (.px (some 15) (.pick (.v 10) (.c (.bool true)) (.v 14)))) .done) K154_12) K154_10
@[simp] def W154_13 := @C.wpe _ _ K154_13.eq_1
def K154_14 : C := .pl <| .st (.ext 7 0) <|
    .st (.act none (.px (some 4) (.mv (.c (.int .i64 3))))) .done
@[simp] def W154_14 := @C.wpe _ _ K154_14.eq_1
def K154_15 : C := .pl <| .st (.ext 7 0) <|
    .st (.act none (.px (some 4) (.mv (.c (.int .i64 2))))) .done
@[simp] def W154_15 := @C.wpe _ _ K154_15.eq_1
def K154_16 : C := .cond 7 (.v 8) K154_15 (.skip)
@[simp] def W154_16 := @C.wpe _ _ K154_16.eq_1
def K154_17 : C := .seq (.pl <| .st (.ext 7 2) <|
    .st (.act none (.px (some 7) (.bin .eql (.v 6) (.c (.int .i64 2))))) <|
    .st (.act none (.px (some 8) (.mv (.v 7)))) .done) K154_16
@[simp] def W154_17 := @C.wpe _ _ K154_17.eq_1
def K154_18 : C := .cond 7 (.v 8) K154_14 K154_17
@[simp] def W154_18 := @C.wpe _ _ K154_18.eq_1
def K154_19 : C := .block 0 (.seq (.pl <| .st (.ext 7 2) <|
    .st (.act none (.px (some 7) (.bin .eql (.v 6) (.c (.int .i64 1))))) <|
    .st (.act none (.px (some 8) (.mv (.v 7)))) .done) K154_18)
@[simp] def W154_19 := @C.wpe _ _ K154_19.eq_1
def K154_20 : C := .seq (.seq (.pl <| .st (.ext 7 1) <|
    .st (.act none (.als 7 none 2)) <|
    .st (.act none (.pget (some 6) (some 7) 2 0 none)) .done) K154_19) K154_13
@[simp] def W154_20 := @C.wpe _ _ K154_20.eq_1
def K154_21 : C := .seq (.pl <| .st (.ext 7 0) <|
    .st (.act none (.px (some 4) (.mv (.c (.int .i64 0))))) .done) K154_20
@[simp] def W154_21 := @C.wpe _ _ K154_21.eq_1
def K154_22 : C := .seq (.pl <| .st (.ext 7 0) <|
    .st (.act none (.px (some 3) (.mv (.c (.bool false))))) .done) (.ret)
@[simp] def W154_22 := @C.wpe _ _ K154_22.eq_1
def K154_23 : C := .cond 7 (.v 17) K154_22 (.skip)
@[simp] def W154_23 := @C.wpe _ _ K154_23.eq_1
def K154_24 : Pl := .st (.act (some (.v 9, false)) (.px (some 16) (.bin .neq (.v 12) (.v 15)))) <|
    .st (.act none (.px (some 17) (.pick (.v 9) (.c (.bool true)) (.v 16)))) .done
@[simp] def W154_24 := @Pl.wpe _ _ K154_24.eq_1
def K154_25 : C := .seq (.seq (.pl <| .st (.ext 7 11) <|
    .st (.act none (.px (some 7) (.mv (.v 1)))) <|
    .st (.act none (.px (some 8) (.bin .lss (.v 7) (.c (.int .i64 1))))) <|
    .st (.act none (.px (some 9) (.mv (.v 8)))) <|
    .st (.act (some (.v 9, false)) (.als 10 none 2)) <|
    .st (.act (some (.v 9, false)) (.pget (some 11) (some 10) 2 2 none)) <|
    .st (.act (some (.v 9, false)) (.px (some 12) (.lenV (.v 11)))) <|
    .st (.act (some (.v 9, false)) (.als 13 none 2)) <|
    .st (.act (some (.v 9, false)) (.pget (some 14) (some 13) 2 0 none)) <|
    .st (.act (some (.v 9, false)) (.ex (some 15) (.call fn_spec_l1Arity [.v 14]))) K154_24) K154_23) K154_21
@[simp] def W154_25 := @C.wpe _ _ K154_25.eq_1
def B_spec_l1Shape : C := .seq (.pl <| .st (.ext 7 0) <|
    .st (.act none (.pnew 2 (.v 0) [])) <|
    .st (.act none (.px (some 3) (.mv (.c (.bool false))))) .done) K154_25
@[simp] def WB_spec_l1Shape := @C.wpe _ _ B_spec_l1Shape.eq_1
def R_spec_l1Shape : FIR := ⟨B_spec_l1Shape, 7, [(3, none)]⟩
theorem IR_spec_l1Shape : cfun Try.prog H_spec_l1Shape Try.f154 = some R_spec_l1Shape := by kernel_rfl
theorem EN_spec_l1Shape {args : List Value} {h : Heap} {k : Value → Heap → Prop} (hargs : args.length = 2) (hw : B_spec_l1Shape.wp Try.prog (retQ [(3, none)] k) (env0 args 7) h) : CallE Try.prog fn_spec_l1Shape args h k := enter Try.func154 rfl IR_spec_l1Shape hargs hw

def H_spec_l1Vals : Hint := ⟨[(0, false), (2, false), (3, false)], [[1]]⟩
def K115_1 : C := .seq (.pl <| .st (.ext 3 3) <|
    .st (.act none (.px (some 3) (.mv (.v 0)))) <|
    .st (.act none (.px (some 4) (.lenV (.v 3)))) <|
    .st (.act none (.px (some 5) (.bin .eql (.v 4) (.c (.int .i64 3))))) <|
    .st (.act none (.px (some 1) (.mv (.v 5)))) .done) (.ret)
@[simp] def W115_1 := @C.wpe _ _ K115_1.eq_1
def K115_2 : C := .pl <| .st (.ext 3 2) <|
    .st (.act none (.px (some 3) (.mv (.v 2)))) <|
    .st (.act none (.px (some 4) (.bin .add (.v 3) (.c (.int .i64 1))))) <|
    .st (.act none (.px (some 2) (.mv (.v 4)))) .done
@[simp] def W115_2 := @C.wpe _ _ K115_2.eq_1
def K115_3 : C := .seq (.pl <| .st (.ext 3 0) <|
    .st (.act none (.px (some 1) (.mv (.c (.bool false))))) .done) (.ret)
@[simp] def W115_3 := @C.wpe _ _ K115_3.eq_1
def K115_4 : C := .cond 3 (.v 14) K115_3 (.skip)
@[simp] def W115_4 := @C.wpe _ _ K115_4.eq_1
def K115_5 : C := .seq (.block 1 (.seq (.pl <| .st (.ext 3 12) <|
    .st (.act none (.px (some 3) (.mv (.v 0)))) <|
    .st (.act none (.px (some 4) (.mv (.v 2)))) <|
    .st (.act none (.px (some 5) (.ia 1 (.v 3) (.v 4)))) <|
    .st (.act none (.ld (some 6) (.v 5) none)) <|
    .st (.act none (.px (some 7) (.bin .lss (.v 6) (.c (.int .i64 0))))) <|
    .st (.act none (.px (some 8) (.mv (.v 7)))) <|
    .st (.act (some (.v 8, false)) (.px (some 9) (.mv (.v 0)))) <|
    .st (.act (some (.v 8, false)) (.px (some 10) (.mv (.v 2)))) <|
    .st (.act (some (.v 8, false)) (.px (some 11) (.ia 1 (.v 9) (.v 10)))) <|
    .st (.act (some (.v 8, false)) (.ld (some 12) (.v 11) none)) <|
    .st (.act (some (.v 8, false)) (.px (some 13) (.bin .gtr (.v 12) (.c (.int .i64 3))))) <|
    .st (.act none (.px (some 14) (.pick (.v 8) (.c (.bool true)) (.v 13)))) .done) K115_4)) K115_2
@[simp] def W115_5 := @C.wpe _ _ K115_5.eq_1
def K115_6 : C := .cond 3 (.v 6) (.skip) (.exit 0)
@[simp] def W115_6 := @C.wpe _ _ K115_6.eq_1
def K115_7 : C := .seq (.seq (.pl <| .st (.ext 3 4) <|
    .st (.act none (.px (some 3) (.mv (.v 2)))) <|
    .st (.act none (.px (some 4) (.mv (.v 0)))) <|
    .st (.act none (.px (some 5) (.lenV (.v 4)))) <|
    .st (.act none (.px (some 6) (.bin .lss (.v 3) (.v 5)))) .done) K115_6) K115_5
@[simp] def W115_7 := @C.wpe _ _ K115_7.eq_1
def K115_8 : C := .block 0 (.loop 3 [1] K115_7)
@[simp] def W115_8 := @C.wpe _ _ K115_8.eq_1
def K115_9 : C := .seq (.seq (.pl <| .st (.ext 3 0) <|
    .st (.act none (.px (some 2) (.mv (.c (.int .i64 0))))) .done) K115_8) K115_1
@[simp] def W115_9 := @C.wpe _ _ K115_9.eq_1
def B_spec_l1Vals : C := .seq (.pl <| .st (.ext 3 0) <|
    .st (.act none (.px (some 1) (.mv (.c (.bool false))))) .done) K115_9
@[simp] def WB_spec_l1Vals := @C.wpe _ _ B_spec_l1Vals.eq_1
def R_spec_l1Vals : FIR := ⟨B_spec_l1Vals, 3, [(1, none)]⟩
theorem IR_spec_l1Vals : cfun Try.prog H_spec_l1Vals Try.f115 = some R_spec_l1Vals := by kernel_rfl
theorem EN_spec_l1Vals {args : List Value} {h : Heap} {k : Value → Heap → Prop} (hargs : args.length = 1) (hw : B_spec_l1Vals.wp Try.prog (retQ [(1, none)] k) (env0 args 3) h) : CallE Try.prog fn_spec_l1Vals args h k := enter Try.func115 rfl IR_spec_l1Vals hargs hw


end Go.Proofs.Ythgimpheeemooaa
