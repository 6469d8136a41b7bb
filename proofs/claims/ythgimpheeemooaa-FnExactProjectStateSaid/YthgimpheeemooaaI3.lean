/-
  More bodies of functions in the small language, as a program printed them.
-/
import Derived.Test.YthgimpheeemooaaI1
namespace Go.Proofs.Ythgimpheeemooaa
open Go
set_option linter.all false
set_option linter.defProp false
set_option maxRecDepth 1000000

def H_impl_Expr_eval : Hint := ⟨[(0, false), (1, false), (2, true), (4, false), (5, false), (6, false), (8, false), (39, false)], []⟩
def K164_1 : C := .seq (.pl <| .st (.ext 8 6) <|
    .st (.act none (.px (some 8) (.mv (.v 4)))) <|
    .st (.act none (.px (some 9) (.mv (.v 5)))) <|
    .st (.act none (.px (some 10) (.bin .sub (.v 8) (.v 9)))) <|
    .st (.act none (.px (some 11) (.bin .add (.v 10) (.c (.int .i64 3))))) <|
    .st (.act none (.px (some 12) (.bin .add (.v 11) (.c (.int .i64 1))))) <|
    .st (.act none (.px (some 13) (.bin .rem (.v 12) (.c (.int .i64 4))))) <|
    .st (.act none (.px (some 3) (.mv (.v 13)))) .done) (.ret)
@[simp] def W164_1 := @C.wpe _ _ K164_1.eq_1
def K164_2 : Pl := .st (.act none (.px (some 3) (.mv (.v 14)))) .done
@[simp] def W164_2 := @Pl.wpe _ _ K164_2.eq_1
def K164_3 : C := .seq (.pl <| .st (.ext 8 7) <|
    .st (.act none (.px (some 8) (.mv (.v 4)))) <|
    .st (.act none (.px (some 9) (.bin .neq (.v 8) (.c (.int .i64 0))))) <|
    .st (.act none (.px (some 10) (.mv (.v 9)))) <|
    .st (.act (some (.v 10, true)) (.px (some 11) (.mv (.v 5)))) <|
    .st (.act (some (.v 10, true)) (.px (some 12) (.bin .neq (.v 11) (.c (.int .i64 0))))) <|
    .st (.act none (.px (some 13) (.pick (.v 10) (.v 12) (.c (.bool false))))) <|
    .st (.act none (.ex (some 14) (.call fn_impl_truth [.v 13]))) K164_2) (.ret)
@[simp] def W164_3 := @C.wpe _ _ K164_3.eq_1
def K164_4 : Pl := .st (.act none (.px (some 3) (.mv (.v 14)))) .done
@[simp] def W164_4 := @Pl.wpe _ _ K164_4.eq_1
def K164_5 : C := .seq (.pl <| .st (.ext 8 7) <|
    .st (.act none (.px (some 8) (.mv (.v 4)))) <|
    .st (.act none (.px (some 9) (.bin .neq (.v 8) (.c (.int .i64 0))))) <|
    .st (.act none (.px (some 10) (.mv (.v 9)))) <|
    .st (.act (some (.v 10, false)) (.px (some 11) (.mv (.v 5)))) <|
    .st (.act (some (.v 10, false)) (.px (some 12) (.bin .neq (.v 11) (.c (.int .i64 0))))) <|
    .st (.act none (.px (some 13) (.pick (.v 10) (.c (.bool true)) (.v 12)))) <|
    .st (.act none (.ex (some 14) (.call fn_impl_truth [.v 13]))) K164_4) (.ret)
@[simp] def W164_5 := @C.wpe _ _ K164_5.eq_1
def K164_6 : Pl := .st (.act none (.px (some 3) (.mv (.v 11)))) .done
@[simp] def W164_6 := @Pl.wpe _ _ K164_6.eq_1
def K164_7 : C := .seq (.pl <| .st (.ext 8 4) <|
    .st (.act none (.px (some 8) (.mv (.v 4)))) <|
    .st (.act none (.px (some 9) (.mv (.v 5)))) <|
    .st (.act none (.px (some 10) (.bin .eql (.v 8) (.v 9)))) <|
    .st (.act none (.ex (some 11) (.call fn_impl_truth [.v 10]))) K164_6) (.ret)
@[simp] def W164_7 := @C.wpe _ _ K164_7.eq_1
def K164_8 : Pl := .st (.act none (.px (some 3) (.mv (.v 11)))) .done
@[simp] def W164_8 := @Pl.wpe _ _ K164_8.eq_1
def K164_9 : C := .seq (.pl <| .st (.ext 8 4) <|
    .st (.act none (.px (some 8) (.mv (.v 4)))) <|
    .st (.act none (.px (some 9) (.mv (.v 5)))) <|
    .st (.act none (.px (some 10) (.bin .lss (.v 8) (.v 9)))) <|
    .st (.act none (.ex (some 11) (.call fn_impl_truth [.v 10]))) K164_8) (.ret)
@[simp] def W164_9 := @C.wpe _ _ K164_9.eq_1
def K164_10 : C := .seq (.pl <| .st (.ext 8 4) <|
    .st (.act none (.px (some 8) (.mv (.v 4)))) <|
    .st (.act none (.px (some 9) (.mv (.v 5)))) <|
    .st (.act none (.px (some 10) (.bin .add (.v 8) (.v 9)))) <|
    .st (.act none (.px (some 11) (.bin .rem (.v 10) (.c (.int .i64 4))))) <|
    .st (.act none (.px (some 3) (.mv (.v 11)))) .done) (.ret)
@[simp] def W164_10 := @C.wpe _ _ K164_10.eq_1
def K164_11 : C := .cond 8 (.v 9) K164_10 (.skip)
@[simp] def W164_11 := @C.wpe _ _ K164_11.eq_1
def K164_12 : C := .seq (.pl <| .st (.ext 8 2) <|
    .st (.act none (.px (some 8) (.bin .eql (.v 7) (.c (.int .i64 8))))) <|
    .st (.act none (.px (some 9) (.mv (.v 8)))) .done) K164_11
@[simp] def W164_12 := @C.wpe _ _ K164_12.eq_1
def K164_13 : C := .cond 8 (.v 9) K164_9 K164_12
@[simp] def W164_13 := @C.wpe _ _ K164_13.eq_1
def K164_14 : C := .seq (.pl <| .st (.ext 8 2) <|
    .st (.act none (.px (some 8) (.bin .eql (.v 7) (.c (.int .i64 7))))) <|
    .st (.act none (.px (some 9) (.mv (.v 8)))) .done) K164_13
@[simp] def W164_14 := @C.wpe _ _ K164_14.eq_1
def K164_15 : C := .cond 8 (.v 9) K164_7 K164_14
@[simp] def W164_15 := @C.wpe _ _ K164_15.eq_1
def K164_16 : C := .seq (.pl <| .st (.ext 8 2) <|
    .st (.act none (.px (some 8) (.bin .eql (.v 7) (.c (.int .i64 6))))) <|
    .st (.act none (.px (some 9) (.mv (.v 8)))) .done) K164_15
@[simp] def W164_16 := @C.wpe _ _ K164_16.eq_1
def K164_17 : C := .cond 8 (.v 9) K164_5 K164_16
@[simp] def W164_17 := @C.wpe _ _ K164_17.eq_1
def K164_18 : C := .seq (.pl <| .st (.ext 8 2) <|
    .st (.act none (.px (some 8) (.bin .eql (.v 7) (.c (.int .i64 5))))) <|
    .st (.act none (.px (some 9) (.mv (.v 8)))) .done) K164_17
@[simp] def W164_18 := @C.wpe _ _ K164_18.eq_1
def K164_19 : C := .cond 8 (.v 9) K164_3 K164_18
@[simp] def W164_19 := @C.wpe _ _ K164_19.eq_1
def K164_20 : C := .block 1 (.seq (.pl <| .st (.ext 8 2) <|
    .st (.act none (.px (some 8) (.bin .eql (.v 7) (.c (.int .i64 4))))) <|
    .st (.act none (.px (some 9) (.mv (.v 8)))) .done) K164_19)
@[simp] def W164_20 := @C.wpe _ _ K164_20.eq_1
def K164_21 : C := .seq (.seq (.pl <| .st (.ext 8 1) <|
    .st (.act none (.als 8 none 2)) <|
    .st (.act none (.pget (some 7) (some 8) 2 0 none)) .done) K164_20) K164_1
@[simp] def W164_21 := @C.wpe _ _ K164_21.eq_1
def K164_22 : Pl := .st (.act none (.px (some 5) (.mv (.v 13)))) .done
@[simp] def W164_22 := @Pl.wpe _ _ K164_22.eq_1
def K164_23 : C := .seq (.pl <| .st (.ext 8 6) <|
    .st (.act none (.als 8 none 2)) <|
    .st (.act none (.pget (some 9) (some 8) 2 2 none)) <|
    .st (.act none (.px (some 10) (.ia 3 (.v 9) (.c (.int .i64 1))))) <|
    .st (.act none (.ld (some 11) (.v 10) (some 3))) <|
    .st (.act none (.px (some 12) (.mv (.v 1)))) <|
    .st (.act none (.ex (some 13) (.call fn_impl_Expr_eval [.v 11, .v 12]))) K164_22) K164_21
@[simp] def W164_23 := @C.wpe _ _ K164_23.eq_1
def K164_24 : Pl := .st (.act none (.px (some 3) (.mv (.v 10)))) .done
@[simp] def W164_24 := @Pl.wpe _ _ K164_24.eq_1
def K164_25 : C := .seq (.pl <| .st (.ext 8 3) <|
    .st (.act none (.px (some 8) (.mv (.v 4)))) <|
    .st (.act none (.px (some 9) (.bin .eql (.v 8) (.c (.int .i64 0))))) <|
    .st (.act none (.ex (some 10) (.call fn_impl_truth [.v 9]))) K164_24) (.ret)
@[simp] def W164_25 := @C.wpe _ _ K164_25.eq_1
def K164_26 : C := .cond 8 (.v 10) K164_25 (.skip)
@[simp] def W164_26 := @C.wpe _ _ K164_26.eq_1
def K164_27 : C := .seq (.seq (.pl <| .st (.ext 8 3) <|
    .st (.act none (.als 8 none 2)) <|
    .st (.act none (.pget (some 9) (some 8) 2 0 none)) <|
    .st (.act none (.px (some 10) (.bin .eql (.v 9) (.c (.int .i64 3))))) .done) K164_26) K164_23
@[simp] def W164_27 := @C.wpe _ _ K164_27.eq_1
def K164_28 : Pl := .st (.act none (.px (some 4) (.mv (.v 13)))) .done
@[simp] def W164_28 := @Pl.wpe _ _ K164_28.eq_1
def K164_29 : C := .seq (.pl <| .st (.ext 8 6) <|
    .st (.act none (.als 8 none 2)) <|
    .st (.act none (.pget (some 9) (some 8) 2 2 none)) <|
    .st (.act none (.px (some 10) (.ia 3 (.v 9) (.c (.int .i64 0))))) <|
    .st (.act none (.ld (some 11) (.v 10) (some 3))) <|
    .st (.act none (.px (some 12) (.mv (.v 1)))) <|
    .st (.act none (.ex (some 13) (.call fn_impl_Expr_eval [.v 11, .v 12]))) K164_28) K164_27
@[simp] def W164_29 := @C.wpe _ _ K164_29.eq_1
def K164_30 : C := .seq (.pl <| .st (.ext 8 2) <|
    .st (.act none (.als 8 none 2)) <|
    .st (.act none (.pget (some 9) (some 8) 2 1 none)) <|
    .st (.act none (.px (some 3) (.mv (.v 9)))) .done) (.ret)
@[simp] def W164_30 := @C.wpe _ _ K164_30.eq_1
def K164_31 : C := .seq (.pl <| .st (.ext 8 5) <|
    .st (.act none (.px (some 8) (.mv (.v 1)))) <|
    .st (.act none (.als 9 none 2)) <|
    .st (.act none (.pget (some 10) (some 9) 2 1 none)) <|
    .st (.act none (.px (some 11) (.ia 1 (.v 8) (.v 10)))) <|
    .st (.act none (.ld (some 12) (.v 11) none)) <|
    .st (.act none (.px (some 3) (.mv (.v 12)))) .done) (.ret)
@[simp] def W164_31 := @C.wpe _ _ K164_31.eq_1
def K164_32 : C := .cond 8 (.v 9) K164_31 (.skip)
@[simp] def W164_32 := @C.wpe _ _ K164_32.eq_1
def K164_33 : C := .seq (.pl <| .st (.ext 8 2) <|
    .st (.act none (.px (some 8) (.bin .eql (.v 6) (.c (.int .i64 2))))) <|
    .st (.act none (.px (some 9) (.mv (.v 8)))) .done) K164_32
@[simp] def W164_33 := @C.wpe _ _ K164_33.eq_1
def K164_34 : C := .cond 8 (.v 9) K164_30 K164_33
@[simp] def W164_34 := @C.wpe _ _ K164_34.eq_1
def K164_35 : C := .block 0 (.seq (.pl <| .st (.ext 8 2) <|
    .st (.act none (.px (some 8) (.bin .eql (.v 6) (.c (.int .i64 1))))) <|
    .st (.act none (.px (some 9) (.mv (.v 8)))) .done) K164_34)
@[simp] def W164_35 := @C.wpe _ _ K164_35.eq_1
def K164_36 : C := .seq (.seq (.pl <| .st (.ext 8 1) <|
    .st (.act none (.als 8 none 2)) <|
    .st (.act none (.pget (some 6) (some 8) 2 0 none)) .done) K164_35) K164_29
@[simp] def W164_36 := @C.wpe _ _ K164_36.eq_1
def B_impl_Expr_eval : C := .seq (.pl <| .st (.ext 8 0) <|
    .st (.act none (.pnew 2 (.v 0) [])) <|
    .st (.act none (.px (some 3) (.mv (.c (.int .i64 0))))) .done) K164_36
@[simp] def WB_impl_Expr_eval := @C.wpe _ _ B_impl_Expr_eval.eq_1
def R_impl_Expr_eval : FIR := ⟨B_impl_Expr_eval, 8, [(3, none)]⟩
theorem IR_impl_Expr_eval : cfun Try.prog H_impl_Expr_eval Try.f164 = some R_impl_Expr_eval := by kernel_rfl
theorem EN_impl_Expr_eval {args : List Value} {h : Heap} {k : Value → Heap → Prop} (hargs : args.length = 2) (hw : B_impl_Expr_eval.wp Try.prog (retQ [(3, none)] k) (env0 args 8) h) : CallE Try.prog fn_impl_Expr_eval args h k := enter Try.func164 rfl IR_impl_Expr_eval hargs hw

def H_impl_GraphValid : Hint := ⟨[(0, false), (1, true), (2, false), (3, false)], []⟩
def K77_1 : Pl := .st (.act (some (.v 19, true)) (.px (some 24) (.un .not (.v 23)))) <|
    .st (.act none (.px (some 25) (.pick (.v 19) (.v 24) (.c (.bool false))))) <|
    .st (.act none (.px (some 2) (.mv (.v 25)))) .done
@[simp] def W77_1 := @Pl.wpe _ _ K77_1.eq_1
def K77_2 : Pl := .st (.act (some (.v 13, true)) (.px (some 17) (.un .not (.v 16)))) <|
    .st (.act none (.px (some 18) (.pick (.v 13) (.v 17) (.c (.bool false))))) <|
    .st (.act none (.px (some 19) (.mv (.v 18)))) <|
    .st (.act (some (.v 19, true)) (.als 20 none 1)) <|
    .st (.act (some (.v 19, true)) (.pget (some 21) (some 20) 1 1 none)) <|
    .st (.act (some (.v 19, true)) (.px (some 22) (.mkf (.func fn_impl_GraphValid_2) [] [.v 3]))) <|
    .st (.act (some (.v 19, true)) (.ex (some 23) (.call fn_slices_ContainsFunc_S_S_int_S_int [.v 21, .v 22]))) K77_1
@[simp] def W77_2 := @Pl.wpe _ _ K77_2.eq_1
def K77_3 : Pl := .st (.act none (.px (some 6) (.mv (.v 5)))) <|
    .st (.act (some (.v 6, true)) (.als 7 none 1)) <|
    .st (.act (some (.v 6, true)) (.pget (some 8) (some 7) 1 1 none)) <|
    .st (.act (some (.v 6, true)) (.px (some 9) (.lenV (.v 8)))) <|
    .st (.act (some (.v 6, true)) (.ld (some 10) (.v 3) none)) <|
    .st (.act (some (.v 6, true)) (.px (some 11) (.bin .eql (.v 9) (.v 10)))) <|
    .st (.act none (.px (some 12) (.pick (.v 6) (.v 11) (.c (.bool false))))) <|
    .st (.act none (.px (some 13) (.mv (.v 12)))) <|
    .st (.act (some (.v 13, true)) (.als 14 none 1)) <|
    .st (.act (some (.v 13, true)) (.pget (some 15) (some 14) 1 0 none)) <|
    .st (.act (some (.v 13, true)) (.ex (some 16) (.call fn_slices_ContainsFunc_S_impl_State_impl_State [.v 15, .c (.func (.func 126) #[] #[])]))) K77_2
@[simp] def W77_3 := @Pl.wpe _ _ K77_3.eq_1
def K77_4 : C := .seq (.pl <| .st (.ext 4 22) <|
    .st (.act none (.ld (some 4) (.v 3) none)) <|
    .st (.act none (.ex (some 5) (.call fn_impl_in [.v 4, .c (.int .i64 1), .c (.int .i64 60)]))) K77_3) (.ret)
@[simp] def W77_4 := @C.wpe _ _ K77_4.eq_1
def K77_5 : Pl := .st (.act none (.ex none (.store 1 (.v 3) (.v 6)))) .done
@[simp] def W77_5 := @Pl.wpe _ _ K77_5.eq_1
def K77_6 : C := .seq (.pl <| .st (.ext 4 3) <|
    .st (.act none (.als 4 none 1)) <|
    .st (.act none (.pget (some 5) (some 4) 1 0 none)) <|
    .st (.act none (.px (some 6) (.lenV (.v 5)))) <|
    .st (.act none (.ex (some 3) (.alloc (.c (.int .i64 0))))) K77_5) K77_4
@[simp] def W77_6 := @C.wpe _ _ K77_6.eq_1
def B_impl_GraphValid : C := .seq (.pl <| .st (.ext 4 0) <|
    .st (.act none (.pnew 1 (.v 0) [])) <|
    .st (.act none (.px (some 2) (.mv (.c (.bool false))))) .done) K77_6
@[simp] def WB_impl_GraphValid := @C.wpe _ _ B_impl_GraphValid.eq_1
def R_impl_GraphValid : FIR := ⟨B_impl_GraphValid, 4, [(2, none)]⟩
theorem IR_impl_GraphValid : cfun Try.prog H_impl_GraphValid Try.f77 = some R_impl_GraphValid := by kernel_rfl
theorem EN_impl_GraphValid {args : List Value} {h : Heap} {k : Value → Heap → Prop} (hargs : args.length = 1) (hw : B_impl_GraphValid.wp Try.prog (retQ [(2, none)] k) (env0 args 4) h) : CallE Try.prog fn_impl_GraphValid args h k := enter Try.func77 rfl IR_impl_GraphValid hargs hw

def H_impl_GraphValid_1 : Hint := ⟨[(0, false), (1, true), (2, false)], []⟩
def K126_1 : Pl := .st (.act none (.px (some 6) (.un .not (.v 5)))) <|
    .st (.act none (.px (some 2) (.mv (.v 6)))) .done
@[simp] def W126_1 := @Pl.wpe _ _ K126_1.eq_1
def K126_2 : C := .seq (.pl <| .st (.ext 3 4) <|
    .st (.act none (.als 3 none 1)) <|
    .st (.act none (.pget (some 4) (some 3) 1 1 none)) <|
    .st (.act none (.ex (some 5) (.call fn_impl_valsOk [.v 4]))) K126_1) (.ret)
@[simp] def W126_2 := @C.wpe _ _ K126_2.eq_1
def B_impl_GraphValid_1 : C := .seq (.pl <| .st (.ext 3 0) <|
    .st (.act none (.pnew 1 (.v 0) [])) <|
    .st (.act none (.px (some 2) (.mv (.c (.bool false))))) .done) K126_2
@[simp] def WB_impl_GraphValid_1 := @C.wpe _ _ B_impl_GraphValid_1.eq_1
def R_impl_GraphValid_1 : FIR := ⟨B_impl_GraphValid_1, 3, [(2, none)]⟩
theorem IR_impl_GraphValid_1 : cfun Try.prog H_impl_GraphValid_1 Try.f126 = some R_impl_GraphValid_1 := by kernel_rfl
theorem EN_impl_GraphValid_1 {args : List Value} {h : Heap} {k : Value → Heap → Prop} (hargs : args.length = 1) (hw : B_impl_GraphValid_1.wp Try.prog (retQ [(2, none)] k) (env0 args 3) h) : CallE Try.prog fn_impl_GraphValid_1 args h k := enter Try.func126 rfl IR_impl_GraphValid_1 hargs hw

def H_impl_GraphValid_2 : Hint := ⟨[(0, false), (1, false), (3, false)], []⟩
def K128_1 : Pl := .st (.act (some (.v 6, false)) (.px (some 10) (.un .not (.v 9)))) <|
    .st (.act none (.px (some 11) (.pick (.v 6) (.c (.bool true)) (.v 10)))) <|
    .st (.act none (.px (some 2) (.mv (.v 11)))) .done
@[simp] def W128_1 := @Pl.wpe _ _ K128_1.eq_1
def K128_2 : C := .seq (.pl <| .st (.ext 3 9) <|
    .st (.act none (.px (some 3) (.mv (.v 0)))) <|
    .st (.act none (.px (some 4) (.lenV (.v 3)))) <|
    .st (.act none (.px (some 5) (.bin .eql (.v 4) (.c (.int .i64 0))))) <|
    .st (.act none (.px (some 6) (.mv (.v 5)))) <|
    .st (.act (some (.v 6, false)) (.px (some 7) (.mv (.v 0)))) <|
    .st (.act (some (.v 6, false)) (.ld (some 8) (.v 1) none)) <|
    .st (.act (some (.v 6, false)) (.ex (some 9) (.call fn_impl_distinct [.v 7, .v 8]))) K128_1) (.ret)
@[simp] def W128_2 := @C.wpe _ _ K128_2.eq_1
def B_impl_GraphValid_2 : C := .seq (.pl <| .st (.ext 3 0) <|
    .st (.act none (.px (some 2) (.mv (.c (.bool false))))) .done) K128_2
@[simp] def WB_impl_GraphValid_2 := @C.wpe _ _ B_impl_GraphValid_2.eq_1
def R_impl_GraphValid_2 : FIR := ⟨B_impl_GraphValid_2, 3, [(2, none)]⟩
theorem IR_impl_GraphValid_2 : cfun Try.prog H_impl_GraphValid_2 Try.f128 = some R_impl_GraphValid_2 := by kernel_rfl
theorem EN_impl_GraphValid_2 {args : List Value} {h : Heap} {k : Value → Heap → Prop} (hargs : args.length = 2) (hw : B_impl_GraphValid_2.wp Try.prog (retQ [(2, none)] k) (env0 args 3) h) : CallE Try.prog fn_impl_GraphValid_2 args h k := enter Try.func128 rfl IR_impl_GraphValid_2 hargs hw

def H_impl_Graph_label : Hint := ⟨[(0, false), (1, false), (2, true), (4, false), (5, false), (6, false), (7, true), (13, false), (14, false), (15, false)], [[0, 2, 3, 5, 6]]⟩
def K78_1 : C := .seq (.pl <| .st (.ext 10 1) <|
    .st (.act none (.px (some 10) (.mv (.v 4)))) <|
    .st (.act none (.px (some 3) (.mv (.v 10)))) .done) (.ret)
@[simp] def W78_1 := @C.wpe _ _ K78_1.eq_1
def K78_2 : C := .pl <| .st (.ext 10 1) <|
    .st (.act none (.px (some 10) (.bin .add (.v 9) (.c (.int .i64 1))))) <|
    .st (.act none (.px (some 9) (.mv (.v 10)))) .done
@[simp] def W78_2 := @C.wpe _ _ K78_2.eq_1
def K78_3 : Pl := .st (.act none (.px (some 16) (.ia 1 (.v 10) (.v 11)))) <|
    .st (.act none (.ex none (.store 1 (.v 16) (.v 15)))) .done
@[simp] def W78_3 := @Pl.wpe _ _ K78_3.eq_1
def K78_4 : C := .pl <| .st (.ext 10 7) <|
    .st (.act none (.px (some 10) (.mv (.v 4)))) <|
    .st (.act none (.px (some 11) (.mv (.v 5)))) <|
    .st (.act none (.als 12 none 6)) <|
    .st (.act none (.pget (some 13) (some 12) 6 1 none)) <|
    .st (.act none (.px (some 14) (.mv (.v 1)))) <|
    .st (.act none (.ex (some 15) (.call fn_impl_letter [.v 13, .v 14]))) K78_3
@[simp] def W78_4 := @C.wpe _ _ K78_4.eq_1
def K78_5 : C := .seq (.block 1 (.seq (.pl <| .st (.ext 10 3) <|
    .st (.act none (.px (some 10) (.mv (.v 9)))) <|
    .st (.act none (.px (some 11) (.ia 2 (.v 7) (.v 9)))) <|
    .st (.act none (.ld (some 12) (.v 11) (some 2))) <|
    .st (.act none (.pnew 6 (.c (.agg #[.slice none 0 0, .slice none 0 0])) [])) <|
    .st (.act none (.px (some 5) (.mv (.v 10)))) <|
    .st (.act none (.pset none 6 0 2 (.v 12))) .done) K78_4)) K78_2
@[simp] def W78_5 := @C.wpe _ _ K78_5.eq_1
def K78_6 : C := .seq (.cond 10 (.v 10) (.skip) (.exit 0)) K78_5
@[simp] def W78_6 := @C.wpe _ _ K78_6.eq_1
def K78_7 : C := .seq (.pl <| .st (.ext 10 1) <|
    .st (.act none (.px (some 10) (.bin .lss (.v 9) (.v 8)))) .done) K78_6
@[simp] def W78_7 := @C.wpe _ _ K78_7.eq_1
def K78_8 : C := .block 0 (.loop 10 [0, 2, 3, 5, 6] K78_7)
@[simp] def W78_8 := @C.wpe _ _ K78_8.eq_1
def K78_9 : C := .seq (.seq (.pl <| .st (.ext 10 1) <|
    .st (.act none (.als 10 none 2)) <|
    .st (.act none (.pget (some 7) (some 10) 2 0 none)) <|
    .st (.act none (.px (some 8) (.lenV (.v 7)))) <|
    .st (.act none (.px (some 9) (.mv (.c (.int .i64 0))))) .done) K78_8) K78_1
@[simp] def W78_9 := @C.wpe _ _ K78_9.eq_1
def K78_10 : Pl := .st (.act none (.px (some 4) (.mv (.v 13)))) .done
@[simp] def W78_10 := @Pl.wpe _ _ K78_10.eq_1
def K78_11 : C := .seq (.pl <| .st (.ext 10 4) <|
    .st (.act none (.als 10 none 2)) <|
    .st (.act none (.pget (some 11) (some 10) 2 0 none)) <|
    .st (.act none (.px (some 12) (.lenV (.v 11)))) <|
    .st (.act none (.ex (some 13) (.mks 8 1 [.int .i64 0] (.v 12) (.v 12)))) K78_10) K78_9
@[simp] def W78_11 := @C.wpe _ _ K78_11.eq_1
def B_impl_Graph_label : C := .seq (.pl <| .st (.ext 10 0) <|
    .st (.act none (.pnew 2 (.v 0) [])) <|
    .st (.act none (.px (some 3) (.mv (.c (.slice none 0 0))))) .done) K78_11
@[simp] def WB_impl_Graph_label := @C.wpe _ _ B_impl_Graph_label.eq_1
def R_impl_Graph_label : FIR := ⟨B_impl_Graph_label, 10, [(3, none)]⟩
theorem IR_impl_Graph_label : cfun Try.prog H_impl_Graph_label Try.f78 = some R_impl_Graph_label := by kernel_rfl
theorem EN_impl_Graph_label {args : List Value} {h : Heap} {k : Value → Heap → Prop} (hargs : args.length = 2) (hw : B_impl_Graph_label.wp Try.prog (retQ [(3, none)] k) (env0 args 10) h) : CallE Try.prog fn_impl_Graph_label args h k := enter Try.func78 rfl IR_impl_Graph_label hargs hw

def H_impl_LabelGraph : Hint := ⟨[(0, false), (1, false), (2, true), (4, false), (5, false)], []⟩
def K27_1 : Pl := .st (.act none (.px (some 3) (.mv (.v 7)))) <|
    .st (.act none (.px (some 4) (.mv (.c (.bool true))))) .done
@[simp] def W27_1 := @Pl.wpe _ _ K27_1.eq_1
def K27_2 : C := .seq (.pl <| .st (.ext 5 3) <|
    .st (.act none (.pget (some 5) none 2 0 (some 2))) <|
    .st (.act none (.px (some 6) (.mv (.v 1)))) <|
    .st (.act none (.ex (some 7) (.call fn_impl_Graph_label [.v 5, .v 6]))) K27_1) (.ret)
@[simp] def W27_2 := @C.wpe _ _ K27_2.eq_1
def K27_3 : C := .seq (.pl <| .st (.ext 5 0) <|
    .st (.act none (.px (some 3) (.mv (.c (.slice none 0 0))))) <|
    .st (.act none (.px (some 4) (.mv (.c (.bool false))))) .done) (.ret)
@[simp] def W27_3 := @C.wpe _ _ K27_3.eq_1
def K27_4 : C := .cond 5 (.v 12) K27_3 (.skip)
@[simp] def W27_4 := @C.wpe _ _ K27_4.eq_1
def K27_5 : Pl := .st (.act (some (.v 8, false)) (.px (some 11) (.un .not (.v 10)))) <|
    .st (.act none (.px (some 12) (.pick (.v 8) (.c (.bool true)) (.v 11)))) .done
@[simp] def W27_5 := @Pl.wpe _ _ K27_5.eq_1
def K27_6 : Pl := .st (.act none (.px (some 7) (.un .not (.v 6)))) <|
    .st (.act none (.px (some 8) (.mv (.v 7)))) <|
    .st (.act (some (.v 8, false)) (.px (some 9) (.mv (.v 1)))) <|
    .st (.act (some (.v 8, false)) (.ex (some 10) (.call fn_impl_LabelsValid [.v 9]))) K27_5
@[simp] def W27_6 := @Pl.wpe _ _ K27_6.eq_1
def K27_7 : C := .seq (.seq (.pl <| .st (.ext 5 8) <|
    .st (.act none (.pget (some 5) none 2 0 (some 2))) <|
    .st (.act none (.ex (some 6) (.call fn_impl_GraphValid [.v 5]))) K27_6) K27_4) K27_2
@[simp] def W27_7 := @C.wpe _ _ K27_7.eq_1
def B_impl_LabelGraph : C := .seq (.pl <| .st (.ext 5 0) <|
    .st (.act none (.pnew 2 (.v 0) [])) <|
    .st (.act none (.px (some 3) (.mv (.c (.slice none 0 0))))) <|
    .st (.act none (.px (some 4) (.mv (.c (.bool false))))) .done) K27_7
@[simp] def WB_impl_LabelGraph := @C.wpe _ _ B_impl_LabelGraph.eq_1
def R_impl_LabelGraph : FIR := ⟨B_impl_LabelGraph, 5, [(3, none), (4, none)]⟩
theorem IR_impl_LabelGraph : cfun Try.prog H_impl_LabelGraph Try.f27 = some R_impl_LabelGraph := by kernel_rfl
theorem EN_impl_LabelGraph {args : List Value} {h : Heap} {k : Value → Heap → Prop} (hargs : args.length = 2) (hw : B_impl_LabelGraph.wp Try.prog (retQ [(3, none), (4, none)] k) (env0 args 5) h) : CallE Try.prog fn_impl_LabelGraph args h k := enter Try.func27 rfl IR_impl_LabelGraph hargs hw

def H_impl_distinct : Hint := ⟨[(0, false), (1, false), (4, false), (5, false), (6, false), (7, false), (8, false), (9, false)], [[2, 3, 4]]⟩
def K129_1 : C := .seq (.pl <| .st (.ext 8 0) <|
    .st (.act none (.px (some 2) (.mv (.c (.bool true))))) .done) (.ret)
@[simp] def W129_1 := @C.wpe _ _ K129_1.eq_1
def K129_2 : C := .pl <| .st (.ext 8 1) <|
    .st (.act none (.px (some 8) (.bin .add (.v 7) (.c (.int .i64 1))))) <|
    .st (.act none (.px (some 7) (.mv (.v 8)))) .done
@[simp] def W129_2 := @C.wpe _ _ K129_2.eq_1
def K129_3 : C := .seq (.pl <| .st (.ext 8 0) <|
    .st (.act none (.px (some 2) (.mv (.c (.bool false))))) .done) (.ret)
@[simp] def W129_3 := @C.wpe _ _ K129_3.eq_1
def K129_4 : C := .cond 8 (.v 19) K129_3 (.skip)
@[simp] def W129_4 := @C.wpe _ _ K129_4.eq_1
def K129_5 : Pl := .st (.act none (.px (some 19) (.pick (.v 13) (.c (.bool true)) (.v 18)))) .done
@[simp] def W129_5 := @Pl.wpe _ _ K129_5.eq_1
def K129_6 : Pl := .st (.act none (.px (some 12) (.un .not (.v 11)))) <|
    .st (.act none (.px (some 13) (.mv (.v 12)))) <|
    .st (.act (some (.v 13, false)) (.px (some 14) (.mv (.v 0)))) <|
    .st (.act (some (.v 13, false)) (.px (some 15) (.mv (.v 3)))) <|
    .st (.act (some (.v 13, false)) (.px (some 16) (.sliceV 1 (.v 14) none (some (.v 15)) none))) <|
    .st (.act (some (.v 13, false)) (.px (some 17) (.mv (.v 4)))) <|
    .st (.act (some (.v 13, false)) (.ex (some 18) (.call fn_slices_Contains_S_int_int [.v 16, .v 17]))) K129_5
@[simp] def W129_6 := @Pl.wpe _ _ K129_6.eq_1
def K129_7 : C := .seq (.pl <| .st (.ext 8 12) <|
    .st (.act none (.px (some 8) (.mv (.v 4)))) <|
    .st (.act none (.px (some 9) (.mv (.v 1)))) <|
    .st (.act none (.px (some 10) (.bin .sub (.v 9) (.c (.int .i64 1))))) <|
    .st (.act none (.ex (some 11) (.call fn_impl_in [.v 8, .c (.int .i64 0), .v 10]))) K129_6) K129_4
@[simp] def W129_7 := @C.wpe _ _ K129_7.eq_1
def K129_8 : C := .seq (.block 1 (.seq (.pl <| .st (.ext 8 3) <|
    .st (.act none (.px (some 8) (.mv (.v 7)))) <|
    .st (.act none (.px (some 9) (.ia 1 (.v 5) (.v 7)))) <|
    .st (.act none (.ld (some 10) (.v 9) none)) <|
    .st (.act none (.px (some 3) (.mv (.v 8)))) <|
    .st (.act none (.px (some 4) (.mv (.v 10)))) .done) K129_7)) K129_2
@[simp] def W129_8 := @C.wpe _ _ K129_8.eq_1
def K129_9 : C := .seq (.cond 8 (.v 8) (.skip) (.exit 0)) K129_8
@[simp] def W129_9 := @C.wpe _ _ K129_9.eq_1
def K129_10 : C := .seq (.pl <| .st (.ext 8 1) <|
    .st (.act none (.px (some 8) (.bin .lss (.v 7) (.v 6)))) .done) K129_9
@[simp] def W129_10 := @C.wpe _ _ K129_10.eq_1
def K129_11 : C := .block 0 (.loop 8 [2, 3, 4] K129_10)
@[simp] def W129_11 := @C.wpe _ _ K129_11.eq_1
def K129_12 : C := .seq (.seq (.pl <| .st (.ext 8 0) <|
    .st (.act none (.px (some 5) (.mv (.v 0)))) <|
    .st (.act none (.px (some 6) (.lenV (.v 5)))) <|
    .st (.act none (.px (some 7) (.mv (.c (.int .i64 0))))) .done) K129_11) K129_1
@[simp] def W129_12 := @C.wpe _ _ K129_12.eq_1
def B_impl_distinct : C := .seq (.pl <| .st (.ext 8 0) <|
    .st (.act none (.px (some 2) (.mv (.c (.bool false))))) .done) K129_12
@[simp] def WB_impl_distinct := @C.wpe _ _ B_impl_distinct.eq_1
def R_impl_distinct : FIR := ⟨B_impl_distinct, 8, [(2, none)]⟩
theorem IR_impl_distinct : cfun Try.prog H_impl_distinct Try.f129 = some R_impl_distinct := by kernel_rfl
theorem EN_impl_distinct {args : List Value} {h : Heap} {k : Value → Heap → Prop} (hargs : args.length = 2) (hw : B_impl_distinct.wp Try.prog (retQ [(2, none)] k) (env0 args 8) h) : CallE Try.prog fn_impl_distinct args h k := enter Try.func129 rfl IR_impl_distinct hargs hw

def H_impl_letter : Hint := ⟨[(0, false), (1, false), (4, false), (5, false), (6, false), (7, true), (8, false), (9, false), (10, false)], [[1, 2, 4, 5]]⟩
def K130_1 : C := .seq (.pl <| .st (.ext 9 1) <|
    .st (.act none (.px (some 9) (.mv (.v 3)))) <|
    .st (.act none (.px (some 2) (.mv (.v 9)))) .done) (.ret)
@[simp] def W130_1 := @C.wpe _ _ K130_1.eq_1
def K130_2 : C := .pl <| .st (.ext 9 1) <|
    .st (.act none (.px (some 9) (.bin .add (.v 8) (.c (.int .i64 1))))) <|
    .st (.act none (.px (some 8) (.mv (.v 9)))) .done
@[simp] def W130_2 := @C.wpe _ _ K130_2.eq_1
def K130_3 : C := .pl <| .st (.ext 9 4) <|
    .st (.act none (.px (some 9) (.mv (.v 3)))) <|
    .st (.act none (.px (some 10) (.mv (.v 4)))) <|
    .st (.act none (.px (some 11) (.bin .shl (.c (.int .i64 1)) (.v 10)))) <|
    .st (.act none (.px (some 12) (.bin .or (.v 9) (.v 11)))) <|
    .st (.act none (.px (some 3) (.mv (.v 12)))) .done
@[simp] def W130_3 := @C.wpe _ _ K130_3.eq_1
def K130_4 : C := .cond 9 (.v 12) K130_3 (.skip)
@[simp] def W130_4 := @C.wpe _ _ K130_4.eq_1
def K130_5 : Pl := .st (.act none (.px (some 12) (.bin .neq (.v 11) (.c (.int .i64 0))))) .done
@[simp] def W130_5 := @Pl.wpe _ _ K130_5.eq_1
def K130_6 : C := .seq (.pl <| .st (.ext 9 4) <|
    .st (.act none (.pget (some 9) none 5 0 (some 3))) <|
    .st (.act none (.px (some 10) (.mv (.v 0)))) <|
    .st (.act none (.ex (some 11) (.call fn_impl_Expr_eval [.v 9, .v 10]))) K130_5) K130_4
@[simp] def W130_6 := @C.wpe _ _ K130_6.eq_1
def K130_7 : C := .seq (.block 1 (.seq (.pl <| .st (.ext 9 3) <|
    .st (.act none (.px (some 9) (.mv (.v 8)))) <|
    .st (.act none (.px (some 10) (.ia 3 (.v 6) (.v 8)))) <|
    .st (.act none (.ld (some 11) (.v 10) (some 3))) <|
    .st (.act none (.pnew 5 (.c (.agg #[.int .i64 0, .int .i64 0, .slice none 0 0])) [])) <|
    .st (.act none (.px (some 4) (.mv (.v 9)))) <|
    .st (.act none (.pset none 5 0 3 (.v 11))) .done) K130_6)) K130_2
@[simp] def W130_7 := @C.wpe _ _ K130_7.eq_1
def K130_8 : C := .seq (.cond 9 (.v 9) (.skip) (.exit 0)) K130_7
@[simp] def W130_8 := @C.wpe _ _ K130_8.eq_1
def K130_9 : C := .seq (.pl <| .st (.ext 9 1) <|
    .st (.act none (.px (some 9) (.bin .lss (.v 8) (.v 7)))) .done) K130_8
@[simp] def W130_9 := @C.wpe _ _ K130_9.eq_1
def K130_10 : C := .block 0 (.loop 9 [1, 2, 4, 5] K130_9)
@[simp] def W130_10 := @C.wpe _ _ K130_10.eq_1
def K130_11 : C := .seq (.seq (.pl <| .st (.ext 9 0) <|
    .st (.act none (.px (some 6) (.mv (.v 1)))) <|
    .st (.act none (.px (some 7) (.lenV (.v 6)))) <|
    .st (.act none (.px (some 8) (.mv (.c (.int .i64 0))))) .done) K130_10) K130_1
@[simp] def W130_11 := @C.wpe _ _ K130_11.eq_1
def K130_12 : C := .seq (.pl <| .st (.ext 9 0) <|
    .st (.act none (.px (some 3) (.mv (.c (.int .i64 0))))) .done) K130_11
@[simp] def W130_12 := @C.wpe _ _ K130_12.eq_1
def B_impl_letter : C := .seq (.pl <| .st (.ext 9 0) <|
    .st (.act none (.px (some 2) (.mv (.c (.int .i64 0))))) .done) K130_12
@[simp] def WB_impl_letter := @C.wpe _ _ B_impl_letter.eq_1
def R_impl_letter : FIR := ⟨B_impl_letter, 9, [(2, none)]⟩
theorem IR_impl_letter : cfun Try.prog H_impl_letter Try.f130 = some R_impl_letter := by kernel_rfl
theorem EN_impl_letter {args : List Value} {h : Heap} {k : Value → Heap → Prop} (hargs : args.length = 2) (hw : B_impl_letter.wp Try.prog (retQ [(2, none)] k) (env0 args 9) h) : CallE Try.prog fn_impl_letter args h k := enter Try.func130 rfl IR_impl_letter hargs hw

def H_impl_truth : Hint := ⟨[(0, false), (2, false)], []⟩
def K191_1 : C := .seq (.pl <| .st (.ext 2 0) <|
    .st (.act none (.px (some 1) (.mv (.c (.int .i64 0))))) .done) (.ret)
@[simp] def W191_1 := @C.wpe _ _ K191_1.eq_1
def K191_2 : C := .seq (.pl <| .st (.ext 2 0) <|
    .st (.act none (.px (some 1) (.mv (.c (.int .i64 1))))) .done) (.ret)
@[simp] def W191_2 := @C.wpe _ _ K191_2.eq_1
def K191_3 : C := .cond 2 (.v 2) K191_2 (.skip)
@[simp] def W191_3 := @C.wpe _ _ K191_3.eq_1
def K191_4 : C := .seq (.seq (.pl <| .st (.ext 2 1) <|
    .st (.act none (.px (some 2) (.mv (.v 0)))) .done) K191_3) K191_1
@[simp] def W191_4 := @C.wpe _ _ K191_4.eq_1
def B_impl_truth : C := .seq (.pl <| .st (.ext 2 0) <|
    .st (.act none (.px (some 1) (.mv (.c (.int .i64 0))))) .done) K191_4
@[simp] def WB_impl_truth := @C.wpe _ _ B_impl_truth.eq_1
def R_impl_truth : FIR := ⟨B_impl_truth, 2, [(1, none)]⟩
theorem IR_impl_truth : cfun Try.prog H_impl_truth Try.f191 = some R_impl_truth := by kernel_rfl
theorem EN_impl_truth {args : List Value} {h : Heap} {k : Value → Heap → Prop} (hargs : args.length = 1) (hw : B_impl_truth.wp Try.prog (retQ [(1, none)] k) (env0 args 2) h) : CallE Try.prog fn_impl_truth args h k := enter Try.func191 rfl IR_impl_truth hargs hw

def H_laws_FnExactLabelGraph : Hint := ⟨[(0, false), (1, false), (2, true), (4, false), (5, false), (6, false), (7, false), (8, true), (9, false), (10, false), (11, false), (12, false), (13, false), (14, false), (15, false), (16, false)], []⟩
def K4_1 : C := .seq (.pl <| .st (.ext 16 0) <|
    .st (.act none (.px (some 3) (.mv (.c (.bool true))))) .done) (.ret)
@[simp] def W4_1 := @C.wpe _ _ K4_1.eq_1
def K4_2 : C := .seq (.pl <| .st (.ext 16 0) <|
    .st (.act none (.px (some 3) (.mv (.c (.bool false))))) .done) (.ret)
@[simp] def W4_2 := @C.wpe _ _ K4_2.eq_1
def K4_3 : C := .cond 16 (.v 18) K4_2 (.skip)
@[simp] def W4_3 := @C.wpe _ _ K4_3.eq_1
def K4_4 : C := .seq (.seq (.pl <| .st (.ext 16 3) <|
    .st (.act none (.px (some 16) (.mv (.v 13)))) <|
    .st (.act none (.px (some 17) (.mv (.v 12)))) <|
    .st (.act none (.px (some 18) (.bin .neq (.v 16) (.v 17)))) .done) K4_3) K4_1
@[simp] def W4_4 := @C.wpe _ _ K4_4.eq_1
def K4_5 : C := .seq (.pl <| .st (.ext 16 0) <|
    .st (.act none (.px (some 3) (.mv (.c (.bool false))))) .done) (.ret)
@[simp] def W4_5 := @C.wpe _ _ K4_5.eq_1
def K4_6 : C := .cond 16 (.v 17) K4_5 (.skip)
@[simp] def W4_6 := @C.wpe _ _ K4_6.eq_1
def K4_7 : C := .seq (.seq (.pl <| .st (.ext 16 2) <|
    .st (.act none (.px (some 16) (.mv (.v 13)))) <|
    .st (.act none (.px (some 17) (.bin .lss (.v 16) (.c (.int .i64 0))))) .done) K4_6) K4_4
@[simp] def W4_7 := @C.wpe _ _ K4_7.eq_1
def K4_8 : Pl := .st (.act none (.px (some 13) (.mv (.v 18)))) .done
@[simp] def W4_8 := @Pl.wpe _ _ K4_8.eq_1
def K4_9 : C := .seq (.pl <| .st (.ext 16 3) <|
    .st (.act none (.px (some 16) (.mv (.v 9)))) <|
    .st (.act none (.px (some 17) (.mv (.v 13)))) <|
    .st (.act none (.ex (some 18) (.call fn_laws_heldIntS [.v 16, .v 17]))) K4_8) K4_7
@[simp] def W4_9 := @C.wpe _ _ K4_9.eq_1
def K4_10 : C := .seq (.pl <| .st (.ext 16 0) <|
    .st (.act none (.px (some 13) (.mv (.c (.int .i64 1))))) .done) K4_9
@[simp] def W4_10 := @C.wpe _ _ K4_10.eq_1
def K4_11 : C := .seq (.pl <| .st (.ext 16 0) <|
    .st (.act none (.px (some 3) (.mv (.c (.bool false))))) .done) (.ret)
@[simp] def W4_11 := @C.wpe _ _ K4_11.eq_1
def K4_12 : C := .cond 16 (.v 24) K4_11 (.skip)
@[simp] def W4_12 := @C.wpe _ _ K4_12.eq_1
def K4_13 : Pl := .st (.act none (.px (some 19) (.un .not (.v 18)))) <|
    .st (.act none (.px (some 20) (.mv (.v 19)))) <|
    .st (.act (some (.v 20, false)) (.px (some 21) (.mv (.v 15)))) <|
    .st (.act (some (.v 20, false)) (.px (some 22) (.mv (.v 6)))) <|
    .st (.act (some (.v 20, false)) (.px (some 23) (.eqb true (.v 21) (.v 22)))) <|
    .st (.act none (.px (some 24) (.pick (.v 20) (.c (.bool true)) (.v 23)))) .done
@[simp] def W4_13 := @Pl.wpe _ _ K4_13.eq_1
def K4_14 : C := .seq (.seq (.pl <| .st (.ext 16 9) <|
    .st (.act none (.px (some 16) (.mv (.v 14)))) <|
    .st (.act none (.px (some 17) (.mv (.v 5)))) <|
    .st (.act none (.ex (some 18) (.call fn_laws_eqIntS [.v 16, .v 17]))) K4_13) K4_12) K4_10
@[simp] def W4_14 := @C.wpe _ _ K4_14.eq_1
def K4_15 : Pl := .st (.act none (.px (some 21) (.mv (.v 20)))) <|
    .st (.act none (.px (some 22) (.extract 0 (.v 21)))) <|
    .st (.act none (.px (some 23) (.extract 1 (.v 21)))) <|
    .st (.act none (.px (some 14) (.mv (.v 22)))) <|
    .st (.act none (.px (some 15) (.mv (.v 23)))) .done
@[simp] def W4_15 := @Pl.wpe _ _ K4_15.eq_1
def K4_16 : Pl := .st (.act none (.ex (some 20) (.call fn_impl_LabelGraph [.v 17, .v 19]))) K4_15
@[simp] def W4_16 := @Pl.wpe _ _ K4_16.eq_1
def K4_17 : Pl := .st (.act none (.px (some 18) (.mv (.v 1)))) <|
    .st (.act none (.ex (some 19) (.call fn_laws_toExprS [.v 18]))) K4_16
@[simp] def W4_17 := @Pl.wpe _ _ K4_17.eq_1
def K4_18 : C := .seq (.pl <| .st (.ext 16 8) <|
    .st (.act none (.pget (some 16) none 2 0 (some 2))) <|
    .st (.act none (.ex (some 17) (.call fn_laws_toGraph [.v 16]))) K4_17) K4_14
@[simp] def W4_18 := @C.wpe _ _ K4_18.eq_1
def K4_19 : C := .seq (.pl <| .st (.ext 16 0) <|
    .st (.act none (.px (some 3) (.mv (.c (.bool false))))) .done) (.ret)
@[simp] def W4_19 := @C.wpe _ _ K4_19.eq_1
def K4_20 : C := .cond 16 (.v 18) K4_19 (.skip)
@[simp] def W4_20 := @C.wpe _ _ K4_20.eq_1
def K4_21 : C := .seq (.seq (.pl <| .st (.ext 16 3) <|
    .st (.act none (.px (some 16) (.mv (.v 13)))) <|
    .st (.act none (.px (some 17) (.mv (.v 12)))) <|
    .st (.act none (.px (some 18) (.bin .neq (.v 16) (.v 17)))) .done) K4_20) K4_18
@[simp] def W4_21 := @C.wpe _ _ K4_21.eq_1
def K4_22 : C := .seq (.pl <| .st (.ext 16 0) <|
    .st (.act none (.px (some 3) (.mv (.c (.bool false))))) .done) (.ret)
@[simp] def W4_22 := @C.wpe _ _ K4_22.eq_1
def K4_23 : C := .cond 16 (.v 17) K4_22 (.skip)
@[simp] def W4_23 := @C.wpe _ _ K4_23.eq_1
def K4_24 : C := .seq (.seq (.pl <| .st (.ext 16 2) <|
    .st (.act none (.px (some 16) (.mv (.v 13)))) <|
    .st (.act none (.px (some 17) (.bin .lss (.v 16) (.c (.int .i64 0))))) .done) K4_23) K4_21
@[simp] def W4_24 := @C.wpe _ _ K4_24.eq_1
def K4_25 : Pl := .st (.act none (.px (some 13) (.mv (.v 18)))) .done
@[simp] def W4_25 := @Pl.wpe _ _ K4_25.eq_1
def K4_26 : C := .seq (.pl <| .st (.ext 16 3) <|
    .st (.act none (.px (some 16) (.mv (.v 9)))) <|
    .st (.act none (.px (some 17) (.mv (.v 13)))) <|
    .st (.act none (.ex (some 18) (.call fn_laws_heldIntS [.v 16, .v 17]))) K4_25) K4_24
@[simp] def W4_26 := @C.wpe _ _ K4_26.eq_1
def K4_27 : C := .seq (.pl <| .st (.ext 16 0) <|
    .st (.act none (.px (some 13) (.mv (.c (.int .i64 1))))) .done) K4_26
@[simp] def W4_27 := @C.wpe _ _ K4_27.eq_1
def K4_28 : Pl := .st (.act none (.px (some 12) (.mv (.v 18)))) .done
@[simp] def W4_28 := @Pl.wpe _ _ K4_28.eq_1
def K4_29 : C := .seq (.pl <| .st (.ext 16 3) <|
    .st (.act none (.px (some 16) (.mv (.v 9)))) <|
    .st (.act none (.px (some 17) (.mv (.v 12)))) <|
    .st (.act none (.ex (some 18) (.call fn_laws_markIntS [.v 16, .v 17]))) K4_28) K4_27
@[simp] def W4_29 := @C.wpe _ _ K4_29.eq_1
def K4_30 : C := .seq (.pl <| .st (.ext 16 0) <|
    .st (.act none (.px (some 12) (.mv (.c (.int .i64 1))))) .done) K4_29
@[simp] def W4_30 := @C.wpe _ _ K4_30.eq_1
def K4_31 : C := .seq (.pl <| .st (.ext 16 0) <|
    .st (.act none (.px (some 3) (.mv (.c (.bool false))))) .done) (.ret)
@[simp] def W4_31 := @C.wpe _ _ K4_31.eq_1
def K4_32 : C := .cond 16 (.v 28) K4_31 (.skip)
@[simp] def W4_32 := @C.wpe _ _ K4_32.eq_1
def K4_33 : Pl := .st (.act (some (.v 18, false)) (.px (some 22) (.un .not (.v 21)))) <|
    .st (.act none (.px (some 23) (.pick (.v 18) (.c (.bool true)) (.v 22)))) <|
    .st (.act none (.px (some 24) (.mv (.v 23)))) <|
    .st (.act (some (.v 24, false)) (.px (some 25) (.mv (.v 10)))) <|
    .st (.act (some (.v 24, false)) (.px (some 26) (.mv (.v 6)))) <|
    .st (.act (some (.v 24, false)) (.px (some 27) (.eqb true (.v 25) (.v 26)))) <|
    .st (.act none (.px (some 28) (.pick (.v 24) (.c (.bool true)) (.v 27)))) .done
@[simp] def W4_33 := @Pl.wpe _ _ K4_33.eq_1
def K4_34 : C := .seq (.seq (.pl <| .st (.ext 16 13) <|
    .st (.act none (.px (some 16) (.mv (.v 11)))) <|
    .st (.act none (.px (some 17) (.bin .lss (.v 16) (.c (.int .i64 0))))) <|
    .st (.act none (.px (some 18) (.mv (.v 17)))) <|
    .st (.act (some (.v 18, false)) (.px (some 19) (.mv (.v 9)))) <|
    .st (.act (some (.v 18, false)) (.px (some 20) (.mv (.v 5)))) <|
    .st (.act (some (.v 18, false)) (.ex (some 21) (.call fn_laws_eqIntS [.v 19, .v 20]))) K4_33) K4_32) K4_30
@[simp] def W4_34 := @C.wpe _ _ K4_34.eq_1
def K4_35 : Pl := .st (.act none (.px (some 11) (.mv (.v 18)))) .done
@[simp] def W4_35 := @Pl.wpe _ _ K4_35.eq_1
def K4_36 : C := .seq (.pl <| .st (.ext 16 3) <|
    .st (.act none (.px (some 16) (.mv (.v 8)))) <|
    .st (.act none (.px (some 17) (.mv (.v 11)))) <|
    .st (.act none (.ex (some 18) (.call fn_laws_markExprS [.v 16, .v 17]))) K4_35) K4_34
@[simp] def W4_36 := @C.wpe _ _ K4_36.eq_1
def K4_37 : Pl := .st (.act none (.px (some 11) (.mv (.v 18)))) .done
@[simp] def W4_37 := @Pl.wpe _ _ K4_37.eq_1
def K4_38 : C := .seq (.pl <| .st (.ext 16 3) <|
    .st (.act none (.pget (some 16) none 7 0 (some 2))) <|
    .st (.act none (.px (some 17) (.mv (.v 11)))) <|
    .st (.act none (.ex (some 18) (.call fn_laws_markGraph [.v 16, .v 17]))) K4_37) K4_36
@[simp] def W4_38 := @C.wpe _ _ K4_38.eq_1
def K4_39 : C := .seq (.pl <| .st (.ext 16 0) <|
    .st (.act none (.px (some 11) (.mv (.c (.int .i64 1))))) .done) K4_38
@[simp] def W4_39 := @C.wpe _ _ K4_39.eq_1
def K4_40 : C := .seq (.pl <| .st (.ext 16 0) <|
    .st (.act none (.px (some 3) (.mv (.c (.bool false))))) .done) (.ret)
@[simp] def W4_40 := @C.wpe _ _ K4_40.eq_1
def K4_41 : C := .cond 16 (.v 20) K4_40 (.skip)
@[simp] def W4_41 := @C.wpe _ _ K4_41.eq_1
def K4_42 : Pl := .st (.act none (.px (some 20) (.un .not (.v 19)))) .done
@[simp] def W4_42 := @Pl.wpe _ _ K4_42.eq_1
def K4_43 : Pl := .st (.act none (.ex (some 19) (.call fn_laws_eqExprS [.v 16, .v 18]))) K4_42
@[simp] def W4_43 := @Pl.wpe _ _ K4_43.eq_1
def K4_44 : C := .seq (.seq (.pl <| .st (.ext 16 5) <|
    .st (.act none (.px (some 16) (.mv (.v 8)))) <|
    .st (.act none (.px (some 17) (.mv (.v 1)))) <|
    .st (.act none (.ex (some 18) (.call fn_laws_toExprS [.v 17]))) K4_43) K4_41) K4_39
@[simp] def W4_44 := @C.wpe _ _ K4_44.eq_1
def K4_45 : C := .seq (.pl <| .st (.ext 16 0) <|
    .st (.act none (.px (some 3) (.mv (.c (.bool false))))) .done) (.ret)
@[simp] def W4_45 := @C.wpe _ _ K4_45.eq_1
def K4_46 : C := .cond 16 (.v 20) K4_45 (.skip)
@[simp] def W4_46 := @C.wpe _ _ K4_46.eq_1
def K4_47 : Pl := .st (.act none (.px (some 20) (.un .not (.v 19)))) .done
@[simp] def W4_47 := @Pl.wpe _ _ K4_47.eq_1
def K4_48 : Pl := .st (.act none (.ex (some 19) (.call fn_laws_eqGraph [.v 16, .v 18]))) K4_47
@[simp] def W4_48 := @Pl.wpe _ _ K4_48.eq_1
def K4_49 : C := .seq (.seq (.pl <| .st (.ext 16 5) <|
    .st (.act none (.pget (some 16) none 7 0 (some 2))) <|
    .st (.act none (.pget (some 17) none 2 0 (some 2))) <|
    .st (.act none (.ex (some 18) (.call fn_laws_toGraph [.v 17]))) K4_48) K4_46) K4_44
@[simp] def W4_49 := @C.wpe _ _ K4_49.eq_1
def K4_50 : C := .seq (.pl <| .st (.ext 16 0) <|
    .st (.act none (.px (some 3) (.mv (.c (.bool false))))) .done) (.ret)
@[simp] def W4_50 := @C.wpe _ _ K4_50.eq_1
def K4_51 : C := .cond 16 (.v 24) K4_50 (.skip)
@[simp] def W4_51 := @C.wpe _ _ K4_51.eq_1
def K4_52 : Pl := .st (.act none (.px (some 19) (.un .not (.v 18)))) <|
    .st (.act none (.px (some 20) (.mv (.v 19)))) <|
    .st (.act (some (.v 20, false)) (.px (some 21) (.mv (.v 10)))) <|
    .st (.act (some (.v 20, false)) (.px (some 22) (.mv (.v 6)))) <|
    .st (.act (some (.v 20, false)) (.px (some 23) (.eqb true (.v 21) (.v 22)))) <|
    .st (.act none (.px (some 24) (.pick (.v 20) (.c (.bool true)) (.v 23)))) .done
@[simp] def W4_52 := @Pl.wpe _ _ K4_52.eq_1
def K4_53 : C := .seq (.seq (.pl <| .st (.ext 16 9) <|
    .st (.act none (.px (some 16) (.mv (.v 9)))) <|
    .st (.act none (.px (some 17) (.mv (.v 5)))) <|
    .st (.act none (.ex (some 18) (.call fn_laws_eqIntS [.v 16, .v 17]))) K4_52) K4_51) K4_49
@[simp] def W4_53 := @C.wpe _ _ K4_53.eq_1
def K4_54 : Pl := .st (.act none (.px (some 19) (.mv (.v 18)))) <|
    .st (.act none (.px (some 20) (.extract 0 (.v 19)))) <|
    .st (.act none (.px (some 21) (.extract 1 (.v 19)))) <|
    .st (.act none (.px (some 9) (.mv (.v 20)))) <|
    .st (.act none (.px (some 10) (.mv (.v 21)))) .done
@[simp] def W4_54 := @Pl.wpe _ _ K4_54.eq_1
def K4_55 : C := .seq (.pl <| .st (.ext 16 6) <|
    .st (.act none (.pget (some 16) none 7 0 (some 2))) <|
    .st (.act none (.px (some 17) (.mv (.v 8)))) <|
    .st (.act none (.ex (some 18) (.call fn_impl_LabelGraph [.v 16, .v 17]))) K4_54) K4_53
@[simp] def W4_55 := @C.wpe _ _ K4_55.eq_1
def K4_56 : Pl := .st (.act none (.px (some 8) (.mv (.v 17)))) .done
@[simp] def W4_56 := @Pl.wpe _ _ K4_56.eq_1
def K4_57 : C := .seq (.pl <| .st (.ext 16 2) <|
    .st (.act none (.px (some 16) (.mv (.v 1)))) <|
    .st (.act none (.ex (some 17) (.call fn_laws_toExprS [.v 16]))) K4_56) K4_55
@[simp] def W4_57 := @C.wpe _ _ K4_57.eq_1
def K4_58 : Pl := .st (.act none (.pnew 7 (.c (.agg #[.slice none 0 0, .slice none 0 0])) [])) <|
    .st (.act none (.pset none 7 0 2 (.v 17))) .done
@[simp] def W4_58 := @Pl.wpe _ _ K4_58.eq_1
def K4_59 : C := .seq (.pl <| .st (.ext 16 2) <|
    .st (.act none (.pget (some 16) none 2 0 (some 2))) <|
    .st (.act none (.ex (some 17) (.call fn_laws_toGraph [.v 16]))) K4_58) K4_57
@[simp] def W4_59 := @C.wpe _ _ K4_59.eq_1
def K4_60 : Pl := .st (.act none (.px (some 21) (.mv (.v 20)))) <|
    .st (.act none (.px (some 22) (.extract 0 (.v 21)))) <|
    .st (.act none (.px (some 23) (.extract 1 (.v 21)))) <|
    .st (.act none (.px (some 5) (.mv (.v 22)))) <|
    .st (.act none (.px (some 6) (.mv (.v 23)))) .done
@[simp] def W4_60 := @Pl.wpe _ _ K4_60.eq_1
def K4_61 : Pl := .st (.act none (.ex (some 20) (.call fn_spec_LabelGraph [.v 17, .v 19]))) K4_60
@[simp] def W4_61 := @Pl.wpe _ _ K4_61.eq_1
def K4_62 : Pl := .st (.act none (.px (some 18) (.mv (.v 1)))) <|
    .st (.act none (.ex (some 19) (.call fn_laws_toExprS [.v 18]))) K4_61
@[simp] def W4_62 := @Pl.wpe _ _ K4_62.eq_1
def K4_63 : C := .seq (.pl <| .st (.ext 16 8) <|
    .st (.act none (.pget (some 16) none 2 0 (some 2))) <|
    .st (.act none (.ex (some 17) (.call fn_laws_toGraph [.v 16]))) K4_62) K4_59
@[simp] def W4_63 := @C.wpe _ _ K4_63.eq_1
def K4_64 : C := .seq (.pl <| .st (.ext 16 0) <|
    .st (.act none (.px (some 3) (.mv (.c (.bool true))))) .done) (.ret)
@[simp] def W4_64 := @C.wpe _ _ K4_64.eq_1
def K4_65 : C := .cond 16 (.v 17) K4_64 (.skip)
@[simp] def W4_65 := @C.wpe _ _ K4_65.eq_1
def K4_66 : C := .seq (.seq (.pl <| .st (.ext 16 2) <|
    .st (.act none (.px (some 16) (.mv (.v 4)))) <|
    .st (.act none (.px (some 17) (.bin .lss (.v 16) (.c (.int .i64 0))))) .done) K4_65) K4_63
@[simp] def W4_66 := @C.wpe _ _ K4_66.eq_1
def K4_67 : Pl := .st (.act none (.px (some 4) (.mv (.v 18)))) .done
@[simp] def W4_67 := @Pl.wpe _ _ K4_67.eq_1
def K4_68 : C := .seq (.pl <| .st (.ext 16 3) <|
    .st (.act none (.px (some 16) (.mv (.v 1)))) <|
    .st (.act none (.px (some 17) (.mv (.v 4)))) <|
    .st (.act none (.ex (some 18) (.call fn_laws_szExprS [.v 16, .v 17]))) K4_67) K4_66
@[simp] def W4_68 := @C.wpe _ _ K4_68.eq_1
def K4_69 : C := .seq (.pl <| .st (.ext 16 0) <|
    .st (.act none (.px (some 3) (.mv (.c (.bool true))))) .done) (.ret)
@[simp] def W4_69 := @C.wpe _ _ K4_69.eq_1
def K4_70 : C := .cond 16 (.v 17) K4_69 (.skip)
@[simp] def W4_70 := @C.wpe _ _ K4_70.eq_1
def K4_71 : C := .seq (.seq (.pl <| .st (.ext 16 2) <|
    .st (.act none (.px (some 16) (.mv (.v 4)))) <|
    .st (.act none (.px (some 17) (.bin .lss (.v 16) (.c (.int .i64 0))))) .done) K4_70) K4_68
@[simp] def W4_71 := @C.wpe _ _ K4_71.eq_1
def K4_72 : Pl := .st (.act none (.px (some 4) (.mv (.v 18)))) .done
@[simp] def W4_72 := @Pl.wpe _ _ K4_72.eq_1
def K4_73 : C := .seq (.pl <| .st (.ext 16 3) <|
    .st (.act none (.pget (some 16) none 2 0 (some 2))) <|
    .st (.act none (.px (some 17) (.mv (.v 4)))) <|
    .st (.act none (.ex (some 18) (.call fn_laws_szGraph [.v 16, .v 17]))) K4_72) K4_71
@[simp] def W4_73 := @C.wpe _ _ K4_73.eq_1
def K4_74 : C := .seq (.pl <| .st (.ext 16 0) <|
    .st (.act none (.px (some 4) (.mv (.c (.int .i64 1048576))))) .done) K4_73
@[simp] def W4_74 := @C.wpe _ _ K4_74.eq_1
def B_laws_FnExactLabelGraph : C := .seq (.pl <| .st (.ext 16 0) <|
    .st (.act none (.pnew 2 (.v 0) [])) <|
    .st (.act none (.px (some 3) (.mv (.c (.bool false))))) .done) K4_74
@[simp] def WB_laws_FnExactLabelGraph := @C.wpe _ _ B_laws_FnExactLabelGraph.eq_1
def R_laws_FnExactLabelGraph : FIR := ⟨B_laws_FnExactLabelGraph, 16, [(3, none)]⟩
theorem IR_laws_FnExactLabelGraph : cfun Try.prog H_laws_FnExactLabelGraph Try.f4 = some R_laws_FnExactLabelGraph := by kernel_rfl
theorem EN_laws_FnExactLabelGraph {args : List Value} {h : Heap} {k : Value → Heap → Prop} (hargs : args.length = 2) (hw : B_laws_FnExactLabelGraph.wp Try.prog (retQ [(3, none)] k) (env0 args 16) h) : CallE Try.prog fn_laws_FnExactLabelGraph args h k := enter Try.func4 rfl IR_laws_FnExactLabelGraph hargs hw

def H_laws_eqGraph : Hint := ⟨[(0, false), (1, false), (2, true), (3, true), (4, false)], []⟩
def K29_1 : C := .seq (.pl <| .st (.ext 5 0) <|
    .st (.act none (.px (some 4) (.mv (.c (.bool true))))) .done) (.ret)
@[simp] def W29_1 := @C.wpe _ _ K29_1.eq_1
def K29_2 : C := .seq (.pl <| .st (.ext 5 0) <|
    .st (.act none (.px (some 4) (.mv (.c (.bool false))))) .done) (.ret)
@[simp] def W29_2 := @C.wpe _ _ K29_2.eq_1
def K29_3 : C := .cond 5 (.v 10) K29_2 (.skip)
@[simp] def W29_3 := @C.wpe _ _ K29_3.eq_1
def K29_4 : Pl := .st (.act none (.px (some 10) (.un .not (.v 9)))) .done
@[simp] def W29_4 := @Pl.wpe _ _ K29_4.eq_1
def K29_5 : C := .seq (.seq (.pl <| .st (.ext 5 6) <|
    .st (.act none (.als 5 none 2)) <|
    .st (.act none (.pget (some 6) (some 5) 2 1 none)) <|
    .st (.act none (.als 7 none 3)) <|
    .st (.act none (.pget (some 8) (some 7) 3 1 none)) <|
    .st (.act none (.ex (some 9) (.call fn_laws_eqIntSS [.v 6, .v 8]))) K29_4) K29_3) K29_1
@[simp] def W29_5 := @C.wpe _ _ K29_5.eq_1
def K29_6 : C := .seq (.pl <| .st (.ext 5 0) <|
    .st (.act none (.px (some 4) (.mv (.c (.bool false))))) .done) (.ret)
@[simp] def W29_6 := @C.wpe _ _ K29_6.eq_1
def K29_7 : C := .cond 5 (.v 10) K29_6 (.skip)
@[simp] def W29_7 := @C.wpe _ _ K29_7.eq_1
def K29_8 : Pl := .st (.act none (.px (some 10) (.un .not (.v 9)))) .done
@[simp] def W29_8 := @Pl.wpe _ _ K29_8.eq_1
def K29_9 : C := .seq (.seq (.pl <| .st (.ext 5 6) <|
    .st (.act none (.als 5 none 2)) <|
    .st (.act none (.pget (some 6) (some 5) 2 0 none)) <|
    .st (.act none (.als 7 none 3)) <|
    .st (.act none (.pget (some 8) (some 7) 3 0 none)) <|
    .st (.act none (.ex (some 9) (.call fn_laws_eqStateS [.v 6, .v 8]))) K29_8) K29_7) K29_5
@[simp] def W29_9 := @C.wpe _ _ K29_9.eq_1
def B_laws_eqGraph : C := .seq (.pl <| .st (.ext 5 0) <|
    .st (.act none (.pnew 2 (.v 0) [])) <|
    .st (.act none (.pnew 3 (.v 1) [])) <|
    .st (.act none (.px (some 4) (.mv (.c (.bool false))))) .done) K29_9
@[simp] def WB_laws_eqGraph := @C.wpe _ _ B_laws_eqGraph.eq_1
def R_laws_eqGraph : FIR := ⟨B_laws_eqGraph, 5, [(4, none)]⟩
theorem IR_laws_eqGraph : cfun Try.prog H_laws_eqGraph Try.f29 = some R_laws_eqGraph := by kernel_rfl
theorem EN_laws_eqGraph {args : List Value} {h : Heap} {k : Value → Heap → Prop} (hargs : args.length = 2) (hw : B_laws_eqGraph.wp Try.prog (retQ [(4, none)] k) (env0 args 5) h) : CallE Try.prog fn_laws_eqGraph args h k := enter Try.func29 rfl IR_laws_eqGraph hargs hw

def H_laws_eqIntSS : Hint := ⟨[(0, false), (1, false), (4, false), (5, false)], [[2]]⟩
def K80_1 : C := .seq (.pl <| .st (.ext 4 0) <|
    .st (.act none (.px (some 2) (.mv (.c (.bool true))))) .done) (.ret)
@[simp] def W80_1 := @C.wpe _ _ K80_1.eq_1
def K80_2 : C := .pl <| .st (.ext 4 2) <|
    .st (.act none (.px (some 4) (.mv (.v 3)))) <|
    .st (.act none (.px (some 5) (.bin .add (.v 4) (.c (.int .i64 1))))) <|
    .st (.act none (.px (some 3) (.mv (.v 5)))) .done
@[simp] def W80_2 := @C.wpe _ _ K80_2.eq_1
def K80_3 : C := .seq (.pl <| .st (.ext 4 0) <|
    .st (.act none (.px (some 2) (.mv (.c (.bool false))))) .done) (.ret)
@[simp] def W80_3 := @C.wpe _ _ K80_3.eq_1
def K80_4 : C := .cond 4 (.v 13) K80_3 (.skip)
@[simp] def W80_4 := @C.wpe _ _ K80_4.eq_1
def K80_5 : Pl := .st (.act none (.px (some 13) (.un .not (.v 12)))) .done
@[simp] def W80_5 := @Pl.wpe _ _ K80_5.eq_1
def K80_6 : C := .seq (.block 1 (.seq (.pl <| .st (.ext 4 10) <|
    .st (.act none (.px (some 4) (.mv (.v 0)))) <|
    .st (.act none (.px (some 5) (.mv (.v 3)))) <|
    .st (.act none (.px (some 6) (.ia 1 (.v 4) (.v 5)))) <|
    .st (.act none (.ld (some 7) (.v 6) none)) <|
    .st (.act none (.px (some 8) (.mv (.v 1)))) <|
    .st (.act none (.px (some 9) (.mv (.v 3)))) <|
    .st (.act none (.px (some 10) (.ia 1 (.v 8) (.v 9)))) <|
    .st (.act none (.ld (some 11) (.v 10) none)) <|
    .st (.act none (.ex (some 12) (.call fn_laws_eqIntS [.v 7, .v 11]))) K80_5) K80_4)) K80_2
@[simp] def W80_6 := @C.wpe _ _ K80_6.eq_1
def K80_7 : C := .cond 4 (.v 7) (.skip) (.exit 0)
@[simp] def W80_7 := @C.wpe _ _ K80_7.eq_1
def K80_8 : C := .seq (.seq (.pl <| .st (.ext 4 4) <|
    .st (.act none (.px (some 4) (.mv (.v 3)))) <|
    .st (.act none (.px (some 5) (.mv (.v 0)))) <|
    .st (.act none (.px (some 6) (.lenV (.v 5)))) <|
    .st (.act none (.px (some 7) (.bin .lss (.v 4) (.v 6)))) .done) K80_7) K80_6
@[simp] def W80_8 := @C.wpe _ _ K80_8.eq_1
def K80_9 : C := .block 0 (.loop 4 [2] K80_8)
@[simp] def W80_9 := @C.wpe _ _ K80_9.eq_1
def K80_10 : C := .seq (.seq (.pl <| .st (.ext 4 0) <|
    .st (.act none (.px (some 3) (.mv (.c (.int .i64 0))))) .done) K80_9) K80_1
@[simp] def W80_10 := @C.wpe _ _ K80_10.eq_1
def K80_11 : C := .seq (.pl <| .st (.ext 4 0) <|
    .st (.act none (.px (some 2) (.mv (.c (.bool false))))) .done) (.ret)
@[simp] def W80_11 := @C.wpe _ _ K80_11.eq_1
def K80_12 : C := .cond 4 (.v 8) K80_11 (.skip)
@[simp] def W80_12 := @C.wpe _ _ K80_12.eq_1
def K80_13 : C := .seq (.seq (.pl <| .st (.ext 4 5) <|
    .st (.act none (.px (some 4) (.mv (.v 0)))) <|
    .st (.act none (.px (some 5) (.lenV (.v 4)))) <|
    .st (.act none (.px (some 6) (.mv (.v 1)))) <|
    .st (.act none (.px (some 7) (.lenV (.v 6)))) <|
    .st (.act none (.px (some 8) (.bin .neq (.v 5) (.v 7)))) .done) K80_12) K80_10
@[simp] def W80_13 := @C.wpe _ _ K80_13.eq_1
def B_laws_eqIntSS : C := .seq (.pl <| .st (.ext 4 0) <|
    .st (.act none (.px (some 2) (.mv (.c (.bool false))))) .done) K80_13
@[simp] def WB_laws_eqIntSS := @C.wpe _ _ B_laws_eqIntSS.eq_1
def R_laws_eqIntSS : FIR := ⟨B_laws_eqIntSS, 4, [(2, none)]⟩
theorem IR_laws_eqIntSS : cfun Try.prog H_laws_eqIntSS Try.f80 = some R_laws_eqIntSS := by kernel_rfl
theorem EN_laws_eqIntSS {args : List Value} {h : Heap} {k : Value → Heap → Prop} (hargs : args.length = 2) (hw : B_laws_eqIntSS.wp Try.prog (retQ [(2, none)] k) (env0 args 4) h) : CallE Try.prog fn_laws_eqIntSS args h k := enter Try.func80 rfl IR_laws_eqIntSS hargs hw

def H_laws_eqState : Hint := ⟨[(0, false), (1, false), (2, true), (3, true), (4, false)], []⟩
def K37_1 : C := .seq (.pl <| .st (.ext 5 0) <|
    .st (.act none (.px (some 4) (.mv (.c (.bool true))))) .done) (.ret)
@[simp] def W37_1 := @C.wpe _ _ K37_1.eq_1
def K37_2 : C := .seq (.pl <| .st (.ext 5 0) <|
    .st (.act none (.px (some 4) (.mv (.c (.bool false))))) .done) (.ret)
@[simp] def W37_2 := @C.wpe _ _ K37_2.eq_1
def K37_3 : C := .cond 5 (.v 10) K37_2 (.skip)
@[simp] def W37_3 := @C.wpe _ _ K37_3.eq_1
def K37_4 : Pl := .st (.act none (.px (some 10) (.un .not (.v 9)))) .done
@[simp] def W37_4 := @Pl.wpe _ _ K37_4.eq_1
def K37_5 : C := .seq (.seq (.pl <| .st (.ext 5 6) <|
    .st (.act none (.als 5 none 2)) <|
    .st (.act none (.pget (some 6) (some 5) 2 1 none)) <|
    .st (.act none (.als 7 none 3)) <|
    .st (.act none (.pget (some 8) (some 7) 3 1 none)) <|
    .st (.act none (.ex (some 9) (.call fn_laws_eqIntS [.v 6, .v 8]))) K37_4) K37_3) K37_1
@[simp] def W37_5 := @C.wpe _ _ K37_5.eq_1
def K37_6 : C := .seq (.pl <| .st (.ext 5 0) <|
    .st (.act none (.px (some 4) (.mv (.c (.bool false))))) .done) (.ret)
@[simp] def W37_6 := @C.wpe _ _ K37_6.eq_1
def K37_7 : C := .cond 5 (.v 10) K37_6 (.skip)
@[simp] def W37_7 := @C.wpe _ _ K37_7.eq_1
def K37_8 : Pl := .st (.act none (.px (some 10) (.un .not (.v 9)))) .done
@[simp] def W37_8 := @Pl.wpe _ _ K37_8.eq_1
def K37_9 : C := .seq (.seq (.pl <| .st (.ext 5 6) <|
    .st (.act none (.als 5 none 2)) <|
    .st (.act none (.pget (some 6) (some 5) 2 0 none)) <|
    .st (.act none (.als 7 none 3)) <|
    .st (.act none (.pget (some 8) (some 7) 3 0 none)) <|
    .st (.act none (.ex (some 9) (.call fn_laws_eqIntS [.v 6, .v 8]))) K37_8) K37_7) K37_5
@[simp] def W37_9 := @C.wpe _ _ K37_9.eq_1
def B_laws_eqState : C := .seq (.pl <| .st (.ext 5 0) <|
    .st (.act none (.pnew 2 (.v 0) [])) <|
    .st (.act none (.pnew 3 (.v 1) [])) <|
    .st (.act none (.px (some 4) (.mv (.c (.bool false))))) .done) K37_9
@[simp] def WB_laws_eqState := @C.wpe _ _ B_laws_eqState.eq_1
def R_laws_eqState : FIR := ⟨B_laws_eqState, 5, [(4, none)]⟩
theorem IR_laws_eqState : cfun Try.prog H_laws_eqState Try.f37 = some R_laws_eqState := by kernel_rfl
theorem EN_laws_eqState {args : List Value} {h : Heap} {k : Value → Heap → Prop} (hargs : args.length = 2) (hw : B_laws_eqState.wp Try.prog (retQ [(4, none)] k) (env0 args 5) h) : CallE Try.prog fn_laws_eqState args h k := enter Try.func37 rfl IR_laws_eqState hargs hw

def H_laws_eqStateS : Hint := ⟨[(0, false), (1, false), (4, false), (5, false)], [[2]]⟩
def K79_1 : C := .seq (.pl <| .st (.ext 4 0) <|
    .st (.act none (.px (some 2) (.mv (.c (.bool true))))) .done) (.ret)
@[simp] def W79_1 := @C.wpe _ _ K79_1.eq_1
def K79_2 : C := .pl <| .st (.ext 4 2) <|
    .st (.act none (.px (some 4) (.mv (.v 3)))) <|
    .st (.act none (.px (some 5) (.bin .add (.v 4) (.c (.int .i64 1))))) <|
    .st (.act none (.px (some 3) (.mv (.v 5)))) .done
@[simp] def W79_2 := @C.wpe _ _ K79_2.eq_1
def K79_3 : C := .seq (.pl <| .st (.ext 4 0) <|
    .st (.act none (.px (some 2) (.mv (.c (.bool false))))) .done) (.ret)
@[simp] def W79_3 := @C.wpe _ _ K79_3.eq_1
def K79_4 : C := .cond 4 (.v 13) K79_3 (.skip)
@[simp] def W79_4 := @C.wpe _ _ K79_4.eq_1
def K79_5 : Pl := .st (.act none (.px (some 13) (.un .not (.v 12)))) .done
@[simp] def W79_5 := @Pl.wpe _ _ K79_5.eq_1
def K79_6 : C := .seq (.block 1 (.seq (.pl <| .st (.ext 4 10) <|
    .st (.act none (.px (some 4) (.mv (.v 0)))) <|
    .st (.act none (.px (some 5) (.mv (.v 3)))) <|
    .st (.act none (.px (some 6) (.ia 2 (.v 4) (.v 5)))) <|
    .st (.act none (.ld (some 7) (.v 6) (some 2))) <|
    .st (.act none (.px (some 8) (.mv (.v 1)))) <|
    .st (.act none (.px (some 9) (.mv (.v 3)))) <|
    .st (.act none (.px (some 10) (.ia 2 (.v 8) (.v 9)))) <|
    .st (.act none (.ld (some 11) (.v 10) (some 2))) <|
    .st (.act none (.ex (some 12) (.call fn_laws_eqState [.v 7, .v 11]))) K79_5) K79_4)) K79_2
@[simp] def W79_6 := @C.wpe _ _ K79_6.eq_1
def K79_7 : C := .cond 4 (.v 7) (.skip) (.exit 0)
@[simp] def W79_7 := @C.wpe _ _ K79_7.eq_1
def K79_8 : C := .seq (.seq (.pl <| .st (.ext 4 4) <|
    .st (.act none (.px (some 4) (.mv (.v 3)))) <|
    .st (.act none (.px (some 5) (.mv (.v 0)))) <|
    .st (.act none (.px (some 6) (.lenV (.v 5)))) <|
    .st (.act none (.px (some 7) (.bin .lss (.v 4) (.v 6)))) .done) K79_7) K79_6
@[simp] def W79_8 := @C.wpe _ _ K79_8.eq_1
def K79_9 : C := .block 0 (.loop 4 [2] K79_8)
@[simp] def W79_9 := @C.wpe _ _ K79_9.eq_1
def K79_10 : C := .seq (.seq (.pl <| .st (.ext 4 0) <|
    .st (.act none (.px (some 3) (.mv (.c (.int .i64 0))))) .done) K79_9) K79_1
@[simp] def W79_10 := @C.wpe _ _ K79_10.eq_1
def K79_11 : C := .seq (.pl <| .st (.ext 4 0) <|
    .st (.act none (.px (some 2) (.mv (.c (.bool false))))) .done) (.ret)
@[simp] def W79_11 := @C.wpe _ _ K79_11.eq_1
def K79_12 : C := .cond 4 (.v 8) K79_11 (.skip)
@[simp] def W79_12 := @C.wpe _ _ K79_12.eq_1
def K79_13 : C := .seq (.seq (.pl <| .st (.ext 4 5) <|
    .st (.act none (.px (some 4) (.mv (.v 0)))) <|
    .st (.act none (.px (some 5) (.lenV (.v 4)))) <|
    .st (.act none (.px (some 6) (.mv (.v 1)))) <|
    .st (.act none (.px (some 7) (.lenV (.v 6)))) <|
    .st (.act none (.px (some 8) (.bin .neq (.v 5) (.v 7)))) .done) K79_12) K79_10
@[simp] def W79_13 := @C.wpe _ _ K79_13.eq_1
def B_laws_eqStateS : C := .seq (.pl <| .st (.ext 4 0) <|
    .st (.act none (.px (some 2) (.mv (.c (.bool false))))) .done) K79_13
@[simp] def WB_laws_eqStateS := @C.wpe _ _ B_laws_eqStateS.eq_1
def R_laws_eqStateS : FIR := ⟨B_laws_eqStateS, 4, [(2, none)]⟩
theorem IR_laws_eqStateS : cfun Try.prog H_laws_eqStateS Try.f79 = some R_laws_eqStateS := by kernel_rfl
theorem EN_laws_eqStateS {args : List Value} {h : Heap} {k : Value → Heap → Prop} (hargs : args.length = 2) (hw : B_laws_eqStateS.wp Try.prog (retQ [(2, none)] k) (env0 args 4) h) : CallE Try.prog fn_laws_eqStateS args h k := enter Try.func79 rfl IR_laws_eqStateS hargs hw

def H_laws_heldIntS : Hint := ⟨[(0, false), (1, false), (4, false), (5, false)], [[2]]⟩
def K32_1 : C := .seq (.pl <| .st (.ext 4 1) <|
    .st (.act none (.px (some 4) (.mv (.v 1)))) <|
    .st (.act none (.px (some 2) (.mv (.v 4)))) .done) (.ret)
@[simp] def W32_1 := @C.wpe _ _ K32_1.eq_1
def K32_2 : C := .pl <| .st (.ext 4 2) <|
    .st (.act none (.px (some 4) (.mv (.v 3)))) <|
    .st (.act none (.px (some 5) (.bin .add (.v 4) (.c (.int .i64 1))))) <|
    .st (.act none (.px (some 3) (.mv (.v 5)))) .done
@[simp] def W32_2 := @C.wpe _ _ K32_2.eq_1
def K32_3 : C := .pl <| .st (.ext 4 2) <|
    .st (.act none (.px (some 4) (.mv (.v 1)))) <|
    .st (.act none (.px (some 5) (.bin .add (.v 4) (.c (.int .i64 1))))) <|
    .st (.act none (.px (some 1) (.mv (.v 5)))) .done
@[simp] def W32_3 := @C.wpe _ _ K32_3.eq_1
def K32_4 : C := .seq (.pl <| .st (.ext 4 0) <|
    .st (.act none (.px (some 2) (.mv (.c (.int .i64 (-1)))))) .done) (.ret)
@[simp] def W32_4 := @C.wpe _ _ K32_4.eq_1
def K32_5 : C := .cond 4 (.v 9) K32_4 (.skip)
@[simp] def W32_5 := @C.wpe _ _ K32_5.eq_1
def K32_6 : C := .seq (.block 1 (.seq (.seq (.pl <| .st (.ext 4 6) <|
    .st (.act none (.px (some 4) (.mv (.v 0)))) <|
    .st (.act none (.px (some 5) (.mv (.v 3)))) <|
    .st (.act none (.px (some 6) (.ia 1 (.v 4) (.v 5)))) <|
    .st (.act none (.ld (some 7) (.v 6) none)) <|
    .st (.act none (.px (some 8) (.mv (.v 1)))) <|
    .st (.act none (.px (some 9) (.bin .neq (.v 7) (.v 8)))) .done) K32_5) K32_3)) K32_2
@[simp] def W32_6 := @C.wpe _ _ K32_6.eq_1
def K32_7 : C := .cond 4 (.v 7) (.skip) (.exit 0)
@[simp] def W32_7 := @C.wpe _ _ K32_7.eq_1
def K32_8 : C := .seq (.seq (.pl <| .st (.ext 4 4) <|
    .st (.act none (.px (some 4) (.mv (.v 3)))) <|
    .st (.act none (.px (some 5) (.mv (.v 0)))) <|
    .st (.act none (.px (some 6) (.lenV (.v 5)))) <|
    .st (.act none (.px (some 7) (.bin .lss (.v 4) (.v 6)))) .done) K32_7) K32_6
@[simp] def W32_8 := @C.wpe _ _ K32_8.eq_1
def K32_9 : C := .block 0 (.loop 4 [2] K32_8)
@[simp] def W32_9 := @C.wpe _ _ K32_9.eq_1
def K32_10 : C := .seq (.seq (.pl <| .st (.ext 4 0) <|
    .st (.act none (.px (some 3) (.mv (.c (.int .i64 0))))) .done) K32_9) K32_1
@[simp] def W32_10 := @C.wpe _ _ K32_10.eq_1
def B_laws_heldIntS : C := .seq (.pl <| .st (.ext 4 0) <|
    .st (.act none (.px (some 2) (.mv (.c (.int .i64 0))))) .done) K32_10
@[simp] def WB_laws_heldIntS := @C.wpe _ _ B_laws_heldIntS.eq_1
def R_laws_heldIntS : FIR := ⟨B_laws_heldIntS, 4, [(2, none)]⟩
theorem IR_laws_heldIntS : cfun Try.prog H_laws_heldIntS Try.f32 = some R_laws_heldIntS := by kernel_rfl
theorem EN_laws_heldIntS {args : List Value} {h : Heap} {k : Value → Heap → Prop} (hargs : args.length = 2) (hw : B_laws_heldIntS.wp Try.prog (retQ [(2, none)] k) (env0 args 4) h) : CallE Try.prog fn_laws_heldIntS args h k := enter Try.func32 rfl IR_laws_heldIntS hargs hw

def H_laws_markGraph : Hint := ⟨[(0, false), (1, false), (2, true), (4, false)], []⟩
def K30_1 : C := .seq (.pl <| .st (.ext 4 1) <|
    .st (.act none (.px (some 4) (.mv (.v 1)))) <|
    .st (.act none (.px (some 3) (.mv (.v 4)))) .done) (.ret)
@[simp] def W30_1 := @C.wpe _ _ K30_1.eq_1
def K30_2 : Pl := .st (.act none (.px (some 1) (.mv (.v 7)))) .done
@[simp] def W30_2 := @Pl.wpe _ _ K30_2.eq_1
def K30_3 : C := .seq (.pl <| .st (.ext 4 4) <|
    .st (.act none (.als 4 none 2)) <|
    .st (.act none (.pget (some 5) (some 4) 2 1 none)) <|
    .st (.act none (.px (some 6) (.mv (.v 1)))) <|
    .st (.act none (.ex (some 7) (.call fn_laws_markIntSS [.v 5, .v 6]))) K30_2) K30_1
@[simp] def W30_3 := @C.wpe _ _ K30_3.eq_1
def K30_4 : Pl := .st (.act none (.px (some 1) (.mv (.v 7)))) .done
@[simp] def W30_4 := @Pl.wpe _ _ K30_4.eq_1
def K30_5 : C := .seq (.pl <| .st (.ext 4 4) <|
    .st (.act none (.als 4 none 2)) <|
    .st (.act none (.pget (some 5) (some 4) 2 0 none)) <|
    .st (.act none (.px (some 6) (.mv (.v 1)))) <|
    .st (.act none (.ex (some 7) (.call fn_laws_markStateS [.v 5, .v 6]))) K30_4) K30_3
@[simp] def W30_5 := @C.wpe _ _ K30_5.eq_1
def B_laws_markGraph : C := .seq (.pl <| .st (.ext 4 0) <|
    .st (.act none (.pnew 2 (.v 0) [])) <|
    .st (.act none (.px (some 3) (.mv (.c (.int .i64 0))))) .done) K30_5
@[simp] def WB_laws_markGraph := @C.wpe _ _ B_laws_markGraph.eq_1
def R_laws_markGraph : FIR := ⟨B_laws_markGraph, 4, [(3, none)]⟩
theorem IR_laws_markGraph : cfun Try.prog H_laws_markGraph Try.f30 = some R_laws_markGraph := by kernel_rfl
theorem EN_laws_markGraph {args : List Value} {h : Heap} {k : Value → Heap → Prop} (hargs : args.length = 2) (hw : B_laws_markGraph.wp Try.prog (retQ [(3, none)] k) (env0 args 4) h) : CallE Try.prog fn_laws_markGraph args h k := enter Try.func30 rfl IR_laws_markGraph hargs hw

def H_laws_markIntSS : Hint := ⟨[(0, false), (1, false), (4, false), (5, false)], [[2]]⟩
def K82_1 : C := .seq (.pl <| .st (.ext 4 1) <|
    .st (.act none (.px (some 4) (.mv (.v 1)))) <|
    .st (.act none (.px (some 2) (.mv (.v 4)))) .done) (.ret)
@[simp] def W82_1 := @C.wpe _ _ K82_1.eq_1
def K82_2 : C := .pl <| .st (.ext 4 2) <|
    .st (.act none (.px (some 4) (.mv (.v 3)))) <|
    .st (.act none (.px (some 5) (.bin .add (.v 4) (.c (.int .i64 1))))) <|
    .st (.act none (.px (some 3) (.mv (.v 5)))) .done
@[simp] def W82_2 := @C.wpe _ _ K82_2.eq_1
def K82_3 : Pl := .st (.act none (.px (some 1) (.mv (.v 9)))) .done
@[simp] def W82_3 := @Pl.wpe _ _ K82_3.eq_1
def K82_4 : C := .seq (.block 1 (.pl <| .st (.ext 4 6) <|
    .st (.act none (.px (some 4) (.mv (.v 0)))) <|
    .st (.act none (.px (some 5) (.mv (.v 3)))) <|
    .st (.act none (.px (some 6) (.ia 1 (.v 4) (.v 5)))) <|
    .st (.act none (.ld (some 7) (.v 6) none)) <|
    .st (.act none (.px (some 8) (.mv (.v 1)))) <|
    .st (.act none (.ex (some 9) (.call fn_laws_markIntS [.v 7, .v 8]))) K82_3)) K82_2
@[simp] def W82_4 := @C.wpe _ _ K82_4.eq_1
def K82_5 : C := .cond 4 (.v 7) (.skip) (.exit 0)
@[simp] def W82_5 := @C.wpe _ _ K82_5.eq_1
def K82_6 : C := .seq (.seq (.pl <| .st (.ext 4 4) <|
    .st (.act none (.px (some 4) (.mv (.v 3)))) <|
    .st (.act none (.px (some 5) (.mv (.v 0)))) <|
    .st (.act none (.px (some 6) (.lenV (.v 5)))) <|
    .st (.act none (.px (some 7) (.bin .lss (.v 4) (.v 6)))) .done) K82_5) K82_4
@[simp] def W82_6 := @C.wpe _ _ K82_6.eq_1
def K82_7 : C := .block 0 (.loop 4 [2] K82_6)
@[simp] def W82_7 := @C.wpe _ _ K82_7.eq_1
def K82_8 : C := .seq (.seq (.pl <| .st (.ext 4 0) <|
    .st (.act none (.px (some 3) (.mv (.c (.int .i64 0))))) .done) K82_7) K82_1
@[simp] def W82_8 := @C.wpe _ _ K82_8.eq_1
def B_laws_markIntSS : C := .seq (.pl <| .st (.ext 4 0) <|
    .st (.act none (.px (some 2) (.mv (.c (.int .i64 0))))) .done) K82_8
@[simp] def WB_laws_markIntSS := @C.wpe _ _ B_laws_markIntSS.eq_1
def R_laws_markIntSS : FIR := ⟨B_laws_markIntSS, 4, [(2, none)]⟩
theorem IR_laws_markIntSS : cfun Try.prog H_laws_markIntSS Try.f82 = some R_laws_markIntSS := by kernel_rfl
theorem EN_laws_markIntSS {args : List Value} {h : Heap} {k : Value → Heap → Prop} (hargs : args.length = 2) (hw : B_laws_markIntSS.wp Try.prog (retQ [(2, none)] k) (env0 args 4) h) : CallE Try.prog fn_laws_markIntSS args h k := enter Try.func82 rfl IR_laws_markIntSS hargs hw

def H_laws_markStateS : Hint := ⟨[(0, false), (1, false), (4, false), (5, false)], [[2]]⟩
def K81_1 : C := .seq (.pl <| .st (.ext 4 1) <|
    .st (.act none (.px (some 4) (.mv (.v 1)))) <|
    .st (.act none (.px (some 2) (.mv (.v 4)))) .done) (.ret)
@[simp] def W81_1 := @C.wpe _ _ K81_1.eq_1
def K81_2 : C := .pl <| .st (.ext 4 2) <|
    .st (.act none (.px (some 4) (.mv (.v 3)))) <|
    .st (.act none (.px (some 5) (.bin .add (.v 4) (.c (.int .i64 1))))) <|
    .st (.act none (.px (some 3) (.mv (.v 5)))) .done
@[simp] def W81_2 := @C.wpe _ _ K81_2.eq_1
def K81_3 : Pl := .st (.act none (.px (some 1) (.mv (.v 10)))) .done
@[simp] def W81_3 := @Pl.wpe _ _ K81_3.eq_1
def K81_4 : C := .pl <| .st (.ext 4 7) <|
    .st (.act none (.px (some 4) (.mv (.v 0)))) <|
    .st (.act none (.px (some 5) (.mv (.v 3)))) <|
    .st (.act none (.px (some 6) (.ia 2 (.v 4) (.v 5)))) <|
    .st (.act none (.px (some 7) (.fa 1 (.v 6)))) <|
    .st (.act none (.ld (some 8) (.v 7) none)) <|
    .st (.act none (.px (some 9) (.mv (.v 1)))) <|
    .st (.act none (.ex (some 10) (.call fn_laws_markIntS [.v 8, .v 9]))) K81_3
@[simp] def W81_4 := @C.wpe _ _ K81_4.eq_1
def K81_5 : Pl := .st (.act none (.px (some 1) (.mv (.v 10)))) .done
@[simp] def W81_5 := @Pl.wpe _ _ K81_5.eq_1
def K81_6 : C := .seq (.block 1 (.seq (.pl <| .st (.ext 4 7) <|
    .st (.act none (.px (some 4) (.mv (.v 0)))) <|
    .st (.act none (.px (some 5) (.mv (.v 3)))) <|
    .st (.act none (.px (some 6) (.ia 2 (.v 4) (.v 5)))) <|
    .st (.act none (.px (some 7) (.fa 0 (.v 6)))) <|
    .st (.act none (.ld (some 8) (.v 7) none)) <|
    .st (.act none (.px (some 9) (.mv (.v 1)))) <|
    .st (.act none (.ex (some 10) (.call fn_laws_markIntS [.v 8, .v 9]))) K81_5) K81_4)) K81_2
@[simp] def W81_6 := @C.wpe _ _ K81_6.eq_1
def K81_7 : C := .cond 4 (.v 7) (.skip) (.exit 0)
@[simp] def W81_7 := @C.wpe _ _ K81_7.eq_1
def K81_8 : C := .seq (.seq (.pl <| .st (.ext 4 4) <|
    .st (.act none (.px (some 4) (.mv (.v 3)))) <|
    .st (.act none (.px (some 5) (.mv (.v 0)))) <|
    .st (.act none (.px (some 6) (.lenV (.v 5)))) <|
    .st (.act none (.px (some 7) (.bin .lss (.v 4) (.v 6)))) .done) K81_7) K81_6
@[simp] def W81_8 := @C.wpe _ _ K81_8.eq_1
def K81_9 : C := .block 0 (.loop 4 [2] K81_8)
@[simp] def W81_9 := @C.wpe _ _ K81_9.eq_1
def K81_10 : C := .seq (.seq (.pl <| .st (.ext 4 0) <|
    .st (.act none (.px (some 3) (.mv (.c (.int .i64 0))))) .done) K81_9) K81_1
@[simp] def W81_10 := @C.wpe _ _ K81_10.eq_1
def B_laws_markStateS : C := .seq (.pl <| .st (.ext 4 0) <|
    .st (.act none (.px (some 2) (.mv (.c (.int .i64 0))))) .done) K81_10
@[simp] def WB_laws_markStateS := @C.wpe _ _ B_laws_markStateS.eq_1
def R_laws_markStateS : FIR := ⟨B_laws_markStateS, 4, [(2, none)]⟩
theorem IR_laws_markStateS : cfun Try.prog H_laws_markStateS Try.f81 = some R_laws_markStateS := by kernel_rfl
theorem EN_laws_markStateS {args : List Value} {h : Heap} {k : Value → Heap → Prop} (hargs : args.length = 2) (hw : B_laws_markStateS.wp Try.prog (retQ [(2, none)] k) (env0 args 4) h) : CallE Try.prog fn_laws_markStateS args h k := enter Try.func81 rfl IR_laws_markStateS hargs hw

def H_laws_szGraph : Hint := ⟨[(0, false), (1, false), (2, true), (4, false)], []⟩
def K24_1 : C := .seq (.pl <| .st (.ext 4 1) <|
    .st (.act none (.px (some 4) (.mv (.v 1)))) <|
    .st (.act none (.px (some 3) (.mv (.v 4)))) .done) (.ret)
@[simp] def W24_1 := @C.wpe _ _ K24_1.eq_1
def K24_2 : C := .seq (.pl <| .st (.ext 4 0) <|
    .st (.act none (.px (some 3) (.mv (.c (.int .i64 (-1)))))) .done) (.ret)
@[simp] def W24_2 := @C.wpe _ _ K24_2.eq_1
def K24_3 : C := .cond 4 (.v 5) K24_2 (.skip)
@[simp] def W24_3 := @C.wpe _ _ K24_3.eq_1
def K24_4 : C := .seq (.seq (.pl <| .st (.ext 4 2) <|
    .st (.act none (.px (some 4) (.mv (.v 1)))) <|
    .st (.act none (.px (some 5) (.bin .lss (.v 4) (.c (.int .i64 0))))) .done) K24_3) K24_1
@[simp] def W24_4 := @C.wpe _ _ K24_4.eq_1
def K24_5 : Pl := .st (.act none (.px (some 1) (.mv (.v 7)))) .done
@[simp] def W24_5 := @Pl.wpe _ _ K24_5.eq_1
def K24_6 : C := .seq (.pl <| .st (.ext 4 4) <|
    .st (.act none (.als 4 none 2)) <|
    .st (.act none (.pget (some 5) (some 4) 2 1 none)) <|
    .st (.act none (.px (some 6) (.mv (.v 1)))) <|
    .st (.act none (.ex (some 7) (.call fn_laws_szIntSS [.v 5, .v 6]))) K24_5) K24_4
@[simp] def W24_6 := @C.wpe _ _ K24_6.eq_1
def K24_7 : C := .seq (.pl <| .st (.ext 4 0) <|
    .st (.act none (.px (some 3) (.mv (.c (.int .i64 (-1)))))) .done) (.ret)
@[simp] def W24_7 := @C.wpe _ _ K24_7.eq_1
def K24_8 : C := .cond 4 (.v 5) K24_7 (.skip)
@[simp] def W24_8 := @C.wpe _ _ K24_8.eq_1
def K24_9 : C := .seq (.seq (.pl <| .st (.ext 4 2) <|
    .st (.act none (.px (some 4) (.mv (.v 1)))) <|
    .st (.act none (.px (some 5) (.bin .lss (.v 4) (.c (.int .i64 0))))) .done) K24_8) K24_6
@[simp] def W24_9 := @C.wpe _ _ K24_9.eq_1
def K24_10 : Pl := .st (.act none (.px (some 1) (.mv (.v 7)))) .done
@[simp] def W24_10 := @Pl.wpe _ _ K24_10.eq_1
def K24_11 : C := .seq (.pl <| .st (.ext 4 4) <|
    .st (.act none (.als 4 none 2)) <|
    .st (.act none (.pget (some 5) (some 4) 2 0 none)) <|
    .st (.act none (.px (some 6) (.mv (.v 1)))) <|
    .st (.act none (.ex (some 7) (.call fn_laws_szStateS [.v 5, .v 6]))) K24_10) K24_9
@[simp] def W24_11 := @C.wpe _ _ K24_11.eq_1
def B_laws_szGraph : C := .seq (.pl <| .st (.ext 4 0) <|
    .st (.act none (.pnew 2 (.v 0) [])) <|
    .st (.act none (.px (some 3) (.mv (.c (.int .i64 0))))) .done) K24_11
@[simp] def WB_laws_szGraph := @C.wpe _ _ B_laws_szGraph.eq_1
def R_laws_szGraph : FIR := ⟨B_laws_szGraph, 4, [(3, none)]⟩
theorem IR_laws_szGraph : cfun Try.prog H_laws_szGraph Try.f24 = some R_laws_szGraph := by kernel_rfl
theorem EN_laws_szGraph {args : List Value} {h : Heap} {k : Value → Heap → Prop} (hargs : args.length = 2) (hw : B_laws_szGraph.wp Try.prog (retQ [(3, none)] k) (env0 args 4) h) : CallE Try.prog fn_laws_szGraph args h k := enter Try.func24 rfl IR_laws_szGraph hargs hw

def H_laws_szIntSS : Hint := ⟨[(0, false), (1, false), (4, false), (5, false)], [[2]]⟩
def K72_1 : C := .seq (.pl <| .st (.ext 4 1) <|
    .st (.act none (.px (some 4) (.mv (.v 1)))) <|
    .st (.act none (.px (some 2) (.mv (.v 4)))) .done) (.ret)
@[simp] def W72_1 := @C.wpe _ _ K72_1.eq_1
def K72_2 : C := .pl <| .st (.ext 4 2) <|
    .st (.act none (.px (some 4) (.mv (.v 3)))) <|
    .st (.act none (.px (some 5) (.bin .add (.v 4) (.c (.int .i64 1))))) <|
    .st (.act none (.px (some 3) (.mv (.v 5)))) .done
@[simp] def W72_2 := @C.wpe _ _ K72_2.eq_1
def K72_3 : C := .seq (.pl <| .st (.ext 4 0) <|
    .st (.act none (.px (some 2) (.mv (.c (.int .i64 (-1)))))) .done) (.ret)
@[simp] def W72_3 := @C.wpe _ _ K72_3.eq_1
def K72_4 : C := .cond 4 (.v 5) K72_3 (.skip)
@[simp] def W72_4 := @C.wpe _ _ K72_4.eq_1
def K72_5 : C := .seq (.pl <| .st (.ext 4 2) <|
    .st (.act none (.px (some 4) (.mv (.v 1)))) <|
    .st (.act none (.px (some 5) (.bin .lss (.v 4) (.c (.int .i64 0))))) .done) K72_4
@[simp] def W72_5 := @C.wpe _ _ K72_5.eq_1
def K72_6 : Pl := .st (.act none (.px (some 1) (.mv (.v 9)))) .done
@[simp] def W72_6 := @Pl.wpe _ _ K72_6.eq_1
def K72_7 : C := .seq (.block 1 (.seq (.pl <| .st (.ext 4 6) <|
    .st (.act none (.px (some 4) (.mv (.v 0)))) <|
    .st (.act none (.px (some 5) (.mv (.v 3)))) <|
    .st (.act none (.px (some 6) (.ia 1 (.v 4) (.v 5)))) <|
    .st (.act none (.ld (some 7) (.v 6) none)) <|
    .st (.act none (.px (some 8) (.mv (.v 1)))) <|
    .st (.act none (.ex (some 9) (.call fn_laws_szIntS [.v 7, .v 8]))) K72_6) K72_5)) K72_2
@[simp] def W72_7 := @C.wpe _ _ K72_7.eq_1
def K72_8 : C := .cond 4 (.v 7) (.skip) (.exit 0)
@[simp] def W72_8 := @C.wpe _ _ K72_8.eq_1
def K72_9 : C := .seq (.seq (.pl <| .st (.ext 4 4) <|
    .st (.act none (.px (some 4) (.mv (.v 3)))) <|
    .st (.act none (.px (some 5) (.mv (.v 0)))) <|
    .st (.act none (.px (some 6) (.lenV (.v 5)))) <|
    .st (.act none (.px (some 7) (.bin .lss (.v 4) (.v 6)))) .done) K72_8) K72_7
@[simp] def W72_9 := @C.wpe _ _ K72_9.eq_1
def K72_10 : C := .block 0 (.loop 4 [2] K72_9)
@[simp] def W72_10 := @C.wpe _ _ K72_10.eq_1
def K72_11 : C := .seq (.seq (.pl <| .st (.ext 4 0) <|
    .st (.act none (.px (some 3) (.mv (.c (.int .i64 0))))) .done) K72_10) K72_1
@[simp] def W72_11 := @C.wpe _ _ K72_11.eq_1
def K72_12 : C := .seq (.pl <| .st (.ext 4 0) <|
    .st (.act none (.px (some 2) (.mv (.c (.int .i64 (-1)))))) .done) (.ret)
@[simp] def W72_12 := @C.wpe _ _ K72_12.eq_1
def K72_13 : C := .cond 4 (.v 5) K72_12 (.skip)
@[simp] def W72_13 := @C.wpe _ _ K72_13.eq_1
def K72_14 : C := .seq (.seq (.pl <| .st (.ext 4 2) <|
    .st (.act none (.px (some 4) (.mv (.v 1)))) <|
    .st (.act none (.px (some 5) (.bin .lss (.v 4) (.c (.int .i64 0))))) .done) K72_13) K72_11
@[simp] def W72_14 := @C.wpe _ _ K72_14.eq_1
def K72_15 : C := .seq (.pl <| .st (.ext 4 4) <|
    .st (.act none (.px (some 4) (.mv (.v 1)))) <|
    .st (.act none (.px (some 5) (.mv (.v 0)))) <|
    .st (.act none (.px (some 6) (.lenV (.v 5)))) <|
    .st (.act none (.px (some 7) (.bin .sub (.v 4) (.v 6)))) <|
    .st (.act none (.px (some 1) (.mv (.v 7)))) .done) K72_14
@[simp] def W72_15 := @C.wpe _ _ K72_15.eq_1
def B_laws_szIntSS : C := .seq (.pl <| .st (.ext 4 0) <|
    .st (.act none (.px (some 2) (.mv (.c (.int .i64 0))))) .done) K72_15
@[simp] def WB_laws_szIntSS := @C.wpe _ _ B_laws_szIntSS.eq_1
def R_laws_szIntSS : FIR := ⟨B_laws_szIntSS, 4, [(2, none)]⟩
theorem IR_laws_szIntSS : cfun Try.prog H_laws_szIntSS Try.f72 = some R_laws_szIntSS := by kernel_rfl
theorem EN_laws_szIntSS {args : List Value} {h : Heap} {k : Value → Heap → Prop} (hargs : args.length = 2) (hw : B_laws_szIntSS.wp Try.prog (retQ [(2, none)] k) (env0 args 4) h) : CallE Try.prog fn_laws_szIntSS args h k := enter Try.func72 rfl IR_laws_szIntSS hargs hw

def H_laws_szState : Hint := ⟨[(0, false), (1, false), (2, true), (4, false)], []⟩
def K33_1 : C := .seq (.pl <| .st (.ext 4 1) <|
    .st (.act none (.px (some 4) (.mv (.v 1)))) <|
    .st (.act none (.px (some 3) (.mv (.v 4)))) .done) (.ret)
@[simp] def W33_1 := @C.wpe _ _ K33_1.eq_1
def K33_2 : C := .seq (.pl <| .st (.ext 4 0) <|
    .st (.act none (.px (some 3) (.mv (.c (.int .i64 (-1)))))) .done) (.ret)
@[simp] def W33_2 := @C.wpe _ _ K33_2.eq_1
def K33_3 : C := .cond 4 (.v 5) K33_2 (.skip)
@[simp] def W33_3 := @C.wpe _ _ K33_3.eq_1
def K33_4 : C := .seq (.seq (.pl <| .st (.ext 4 2) <|
    .st (.act none (.px (some 4) (.mv (.v 1)))) <|
    .st (.act none (.px (some 5) (.bin .lss (.v 4) (.c (.int .i64 0))))) .done) K33_3) K33_1
@[simp] def W33_4 := @C.wpe _ _ K33_4.eq_1
def K33_5 : Pl := .st (.act none (.px (some 1) (.mv (.v 7)))) .done
@[simp] def W33_5 := @Pl.wpe _ _ K33_5.eq_1
def K33_6 : C := .seq (.pl <| .st (.ext 4 4) <|
    .st (.act none (.als 4 none 2)) <|
    .st (.act none (.pget (some 5) (some 4) 2 1 none)) <|
    .st (.act none (.px (some 6) (.mv (.v 1)))) <|
    .st (.act none (.ex (some 7) (.call fn_laws_szIntS [.v 5, .v 6]))) K33_5) K33_4
@[simp] def W33_6 := @C.wpe _ _ K33_6.eq_1
def K33_7 : C := .seq (.pl <| .st (.ext 4 0) <|
    .st (.act none (.px (some 3) (.mv (.c (.int .i64 (-1)))))) .done) (.ret)
@[simp] def W33_7 := @C.wpe _ _ K33_7.eq_1
def K33_8 : C := .cond 4 (.v 5) K33_7 (.skip)
@[simp] def W33_8 := @C.wpe _ _ K33_8.eq_1
def K33_9 : C := .seq (.seq (.pl <| .st (.ext 4 2) <|
    .st (.act none (.px (some 4) (.mv (.v 1)))) <|
    .st (.act none (.px (some 5) (.bin .lss (.v 4) (.c (.int .i64 0))))) .done) K33_8) K33_6
@[simp] def W33_9 := @C.wpe _ _ K33_9.eq_1
def K33_10 : Pl := .st (.act none (.px (some 1) (.mv (.v 7)))) .done
@[simp] def W33_10 := @Pl.wpe _ _ K33_10.eq_1
def K33_11 : C := .seq (.pl <| .st (.ext 4 4) <|
    .st (.act none (.als 4 none 2)) <|
    .st (.act none (.pget (some 5) (some 4) 2 0 none)) <|
    .st (.act none (.px (some 6) (.mv (.v 1)))) <|
    .st (.act none (.ex (some 7) (.call fn_laws_szIntS [.v 5, .v 6]))) K33_10) K33_9
@[simp] def W33_11 := @C.wpe _ _ K33_11.eq_1
def B_laws_szState : C := .seq (.pl <| .st (.ext 4 0) <|
    .st (.act none (.pnew 2 (.v 0) [])) <|
    .st (.act none (.px (some 3) (.mv (.c (.int .i64 0))))) .done) K33_11
@[simp] def WB_laws_szState := @C.wpe _ _ B_laws_szState.eq_1
def R_laws_szState : FIR := ⟨B_laws_szState, 4, [(3, none)]⟩
theorem IR_laws_szState : cfun Try.prog H_laws_szState Try.f33 = some R_laws_szState := by kernel_rfl
theorem EN_laws_szState {args : List Value} {h : Heap} {k : Value → Heap → Prop} (hargs : args.length = 2) (hw : B_laws_szState.wp Try.prog (retQ [(3, none)] k) (env0 args 4) h) : CallE Try.prog fn_laws_szState args h k := enter Try.func33 rfl IR_laws_szState hargs hw

def H_laws_szStateS : Hint := ⟨[(0, false), (1, false), (4, false), (5, false)], [[2]]⟩
def K71_1 : C := .seq (.pl <| .st (.ext 4 1) <|
    .st (.act none (.px (some 4) (.mv (.v 1)))) <|
    .st (.act none (.px (some 2) (.mv (.v 4)))) .done) (.ret)
@[simp] def W71_1 := @C.wpe _ _ K71_1.eq_1
def K71_2 : C := .pl <| .st (.ext 4 2) <|
    .st (.act none (.px (some 4) (.mv (.v 3)))) <|
    .st (.act none (.px (some 5) (.bin .add (.v 4) (.c (.int .i64 1))))) <|
    .st (.act none (.px (some 3) (.mv (.v 5)))) .done
@[simp] def W71_2 := @C.wpe _ _ K71_2.eq_1
def K71_3 : C := .seq (.pl <| .st (.ext 4 0) <|
    .st (.act none (.px (some 2) (.mv (.c (.int .i64 (-1)))))) .done) (.ret)
@[simp] def W71_3 := @C.wpe _ _ K71_3.eq_1
def K71_4 : C := .cond 4 (.v 5) K71_3 (.skip)
@[simp] def W71_4 := @C.wpe _ _ K71_4.eq_1
def K71_5 : C := .seq (.pl <| .st (.ext 4 2) <|
    .st (.act none (.px (some 4) (.mv (.v 1)))) <|
    .st (.act none (.px (some 5) (.bin .lss (.v 4) (.c (.int .i64 0))))) .done) K71_4
@[simp] def W71_5 := @C.wpe _ _ K71_5.eq_1
def K71_6 : Pl := .st (.act none (.px (some 1) (.mv (.v 9)))) .done
@[simp] def W71_6 := @Pl.wpe _ _ K71_6.eq_1
def K71_7 : C := .seq (.block 1 (.seq (.pl <| .st (.ext 4 6) <|
    .st (.act none (.px (some 4) (.mv (.v 0)))) <|
    .st (.act none (.px (some 5) (.mv (.v 3)))) <|
    .st (.act none (.px (some 6) (.ia 2 (.v 4) (.v 5)))) <|
    .st (.act none (.ld (some 7) (.v 6) (some 2))) <|
    .st (.act none (.px (some 8) (.mv (.v 1)))) <|
    .st (.act none (.ex (some 9) (.call fn_laws_szState [.v 7, .v 8]))) K71_6) K71_5)) K71_2
@[simp] def W71_7 := @C.wpe _ _ K71_7.eq_1
def K71_8 : C := .cond 4 (.v 7) (.skip) (.exit 0)
@[simp] def W71_8 := @C.wpe _ _ K71_8.eq_1
def K71_9 : C := .seq (.seq (.pl <| .st (.ext 4 4) <|
    .st (.act none (.px (some 4) (.mv (.v 3)))) <|
    .st (.act none (.px (some 5) (.mv (.v 0)))) <|
    .st (.act none (.px (some 6) (.lenV (.v 5)))) <|
    .st (.act none (.px (some 7) (.bin .lss (.v 4) (.v 6)))) .done) K71_8) K71_7
@[simp] def W71_9 := @C.wpe _ _ K71_9.eq_1
def K71_10 : C := .block 0 (.loop 4 [2] K71_9)
@[simp] def W71_10 := @C.wpe _ _ K71_10.eq_1
def K71_11 : C := .seq (.seq (.pl <| .st (.ext 4 0) <|
    .st (.act none (.px (some 3) (.mv (.c (.int .i64 0))))) .done) K71_10) K71_1
@[simp] def W71_11 := @C.wpe _ _ K71_11.eq_1
def K71_12 : C := .seq (.pl <| .st (.ext 4 0) <|
    .st (.act none (.px (some 2) (.mv (.c (.int .i64 (-1)))))) .done) (.ret)
@[simp] def W71_12 := @C.wpe _ _ K71_12.eq_1
def K71_13 : C := .cond 4 (.v 5) K71_12 (.skip)
@[simp] def W71_13 := @C.wpe _ _ K71_13.eq_1
def K71_14 : C := .seq (.seq (.pl <| .st (.ext 4 2) <|
    .st (.act none (.px (some 4) (.mv (.v 1)))) <|
    .st (.act none (.px (some 5) (.bin .lss (.v 4) (.c (.int .i64 0))))) .done) K71_13) K71_11
@[simp] def W71_14 := @C.wpe _ _ K71_14.eq_1
def K71_15 : C := .seq (.pl <| .st (.ext 4 4) <|
    .st (.act none (.px (some 4) (.mv (.v 1)))) <|
    .st (.act none (.px (some 5) (.mv (.v 0)))) <|
    .st (.act none (.px (some 6) (.lenV (.v 5)))) <|
    .st (.act none (.px (some 7) (.bin .sub (.v 4) (.v 6)))) <|
    .st (.act none (.px (some 1) (.mv (.v 7)))) .done) K71_14
@[simp] def W71_15 := @C.wpe _ _ K71_15.eq_1
def B_laws_szStateS : C := .seq (.pl <| .st (.ext 4 0) <|
    .st (.act none (.px (some 2) (.mv (.c (.int .i64 0))))) .done) K71_15
@[simp] def WB_laws_szStateS := @C.wpe _ _ B_laws_szStateS.eq_1
def R_laws_szStateS : FIR := ⟨B_laws_szStateS, 4, [(2, none)]⟩
theorem IR_laws_szStateS : cfun Try.prog H_laws_szStateS Try.f71 = some R_laws_szStateS := by kernel_rfl
theorem EN_laws_szStateS {args : List Value} {h : Heap} {k : Value → Heap → Prop} (hargs : args.length = 2) (hw : B_laws_szStateS.wp Try.prog (retQ [(2, none)] k) (env0 args 4) h) : CallE Try.prog fn_laws_szStateS args h k := enter Try.func71 rfl IR_laws_szStateS hargs hw

def H_laws_toGraph : Hint := ⟨[(0, false), (1, true), (2, true), (3, true)], []⟩
def K26_1 : C := .seq (.pl <| .st (.ext 4 1) <|
    .st (.act none (.pget (some 4) none 3 0 (some 2))) <|
    .st (.act none (.pset none 2 0 2 (.v 4))) .done) (.ret)
@[simp] def W26_1 := @C.wpe _ _ K26_1.eq_1
def K26_2 : Pl := .st (.act none (.als 7 none 3)) <|
    .st (.act none (.pset (some 7) 3 1 1 (.v 6))) .done
@[simp] def W26_2 := @Pl.wpe _ _ K26_2.eq_1
def K26_3 : C := .seq (.pl <| .st (.ext 4 4) <|
    .st (.act none (.als 4 none 1)) <|
    .st (.act none (.pget (some 5) (some 4) 1 1 none)) <|
    .st (.act none (.ex (some 6) (.call fn_laws_toIntSS [.v 5]))) K26_2) K26_1
@[simp] def W26_3 := @C.wpe _ _ K26_3.eq_1
def K26_4 : Pl := .st (.act none (.als 7 none 3)) <|
    .st (.act none (.pset (some 7) 3 0 1 (.v 6))) .done
@[simp] def W26_4 := @Pl.wpe _ _ K26_4.eq_1
def K26_5 : C := .seq (.pl <| .st (.ext 4 4) <|
    .st (.act none (.als 4 none 1)) <|
    .st (.act none (.pget (some 5) (some 4) 1 0 none)) <|
    .st (.act none (.ex (some 6) (.call fn_laws_toStateS [.v 5]))) K26_4) K26_3
@[simp] def W26_5 := @C.wpe _ _ K26_5.eq_1
def K26_6 : C := .seq (.pl <| .st (.ext 4 0) <|
    .st (.act none (.pnew 3 (.c (.agg #[.slice none 0 0, .slice none 0 0])) [])) .done) K26_5
@[simp] def W26_6 := @C.wpe _ _ K26_6.eq_1
def B_laws_toGraph : C := .seq (.pl <| .st (.ext 4 0) <|
    .st (.act none (.pnew 1 (.v 0) [])) <|
    .st (.act none (.pnew 2 (.c (.agg #[.slice none 0 0, .slice none 0 0])) [])) .done) K26_6
@[simp] def WB_laws_toGraph := @C.wpe _ _ B_laws_toGraph.eq_1
def R_laws_toGraph : FIR := ⟨B_laws_toGraph, 4, [(2, some (some 2))]⟩
theorem IR_laws_toGraph : cfun Try.prog H_laws_toGraph Try.f26 = some R_laws_toGraph := by kernel_rfl
theorem EN_laws_toGraph {args : List Value} {h : Heap} {k : Value → Heap → Prop} (hargs : args.length = 1) (hw : B_laws_toGraph.wp Try.prog (retQ [(2, some (some 2))] k) (env0 args 4) h) : CallE Try.prog fn_laws_toGraph args h k := enter Try.func26 rfl IR_laws_toGraph hargs hw

def H_laws_toIntSS : Hint := ⟨[(0, false), (2, false), (3, false), (4, false)], [[1]]⟩
def K76_1 : C := .seq (.pl <| .st (.ext 4 1) <|
    .st (.act none (.px (some 4) (.mv (.v 2)))) <|
    .st (.act none (.px (some 1) (.mv (.v 4)))) .done) (.ret)
@[simp] def W76_1 := @C.wpe _ _ K76_1.eq_1
def K76_2 : C := .pl <| .st (.ext 4 2) <|
    .st (.act none (.px (some 4) (.mv (.v 3)))) <|
    .st (.act none (.px (some 5) (.bin .add (.v 4) (.c (.int .i64 1))))) <|
    .st (.act none (.px (some 3) (.mv (.v 5)))) .done
@[simp] def W76_2 := @C.wpe _ _ K76_2.eq_1
def K76_3 : Pl := .st (.act none (.px (some 11) (.ia 1 (.v 4) (.v 5)))) <|
    .st (.act none (.ex none (.store 1 (.v 11) (.v 10)))) .done
@[simp] def W76_3 := @Pl.wpe _ _ K76_3.eq_1
def K76_4 : C := .seq (.block 1 (.pl <| .st (.ext 4 8) <|
    .st (.act none (.px (some 4) (.mv (.v 2)))) <|
    .st (.act none (.px (some 5) (.mv (.v 3)))) <|
    .st (.act none (.px (some 6) (.mv (.v 0)))) <|
    .st (.act none (.px (some 7) (.mv (.v 3)))) <|
    .st (.act none (.px (some 8) (.ia 1 (.v 6) (.v 7)))) <|
    .st (.act none (.ld (some 9) (.v 8) none)) <|
    .st (.act none (.ex (some 10) (.call fn_laws_toIntS [.v 9]))) K76_3)) K76_2
@[simp] def W76_4 := @C.wpe _ _ K76_4.eq_1
def K76_5 : C := .cond 4 (.v 7) (.skip) (.exit 0)
@[simp] def W76_5 := @C.wpe _ _ K76_5.eq_1
def K76_6 : C := .seq (.seq (.pl <| .st (.ext 4 4) <|
    .st (.act none (.px (some 4) (.mv (.v 3)))) <|
    .st (.act none (.px (some 5) (.mv (.v 0)))) <|
    .st (.act none (.px (some 6) (.lenV (.v 5)))) <|
    .st (.act none (.px (some 7) (.bin .lss (.v 4) (.v 6)))) .done) K76_5) K76_4
@[simp] def W76_6 := @C.wpe _ _ K76_6.eq_1
def K76_7 : C := .block 0 (.loop 4 [1] K76_6)
@[simp] def W76_7 := @C.wpe _ _ K76_7.eq_1
def K76_8 : C := .seq (.seq (.pl <| .st (.ext 4 0) <|
    .st (.act none (.px (some 3) (.mv (.c (.int .i64 0))))) .done) K76_7) K76_1
@[simp] def W76_8 := @C.wpe _ _ K76_8.eq_1
def K76_9 : Pl := .st (.act none (.px (some 2) (.mv (.v 6)))) .done
@[simp] def W76_9 := @Pl.wpe _ _ K76_9.eq_1
def K76_10 : C := .seq (.pl <| .st (.ext 4 3) <|
    .st (.act none (.px (some 4) (.mv (.v 0)))) <|
    .st (.act none (.px (some 5) (.lenV (.v 4)))) <|
    .st (.act none (.ex (some 6) (.mks 24 1 [.slice none 0 0] (.v 5) (.v 5)))) K76_9) K76_8
@[simp] def W76_10 := @C.wpe _ _ K76_10.eq_1
def B_laws_toIntSS : C := .seq (.pl <| .st (.ext 4 0) <|
    .st (.act none (.px (some 1) (.mv (.c (.slice none 0 0))))) .done) K76_10
@[simp] def WB_laws_toIntSS := @C.wpe _ _ B_laws_toIntSS.eq_1
def R_laws_toIntSS : FIR := ⟨B_laws_toIntSS, 4, [(1, none)]⟩
theorem IR_laws_toIntSS : cfun Try.prog H_laws_toIntSS Try.f76 = some R_laws_toIntSS := by kernel_rfl
theorem EN_laws_toIntSS {args : List Value} {h : Heap} {k : Value → Heap → Prop} (hargs : args.length = 1) (hw : B_laws_toIntSS.wp Try.prog (retQ [(1, none)] k) (env0 args 4) h) : CallE Try.prog fn_laws_toIntSS args h k := enter Try.func76 rfl IR_laws_toIntSS hargs hw

def H_laws_toState : Hint := ⟨[(0, false), (1, true), (2, true), (3, true)], []⟩
def K35_1 : C := .seq (.pl <| .st (.ext 4 1) <|
    .st (.act none (.pget (some 4) none 3 0 (some 2))) <|
    .st (.act none (.pset none 2 0 2 (.v 4))) .done) (.ret)
@[simp] def W35_1 := @C.wpe _ _ K35_1.eq_1
def K35_2 : Pl := .st (.act none (.als 7 none 3)) <|
    .st (.act none (.pset (some 7) 3 1 1 (.v 6))) .done
@[simp] def W35_2 := @Pl.wpe _ _ K35_2.eq_1
def K35_3 : C := .seq (.pl <| .st (.ext 4 4) <|
    .st (.act none (.als 4 none 1)) <|
    .st (.act none (.pget (some 5) (some 4) 1 1 none)) <|
    .st (.act none (.ex (some 6) (.call fn_laws_toIntS [.v 5]))) K35_2) K35_1
@[simp] def W35_3 := @C.wpe _ _ K35_3.eq_1
def K35_4 : Pl := .st (.act none (.als 7 none 3)) <|
    .st (.act none (.pset (some 7) 3 0 1 (.v 6))) .done
@[simp] def W35_4 := @Pl.wpe _ _ K35_4.eq_1
def K35_5 : C := .seq (.pl <| .st (.ext 4 4) <|
    .st (.act none (.als 4 none 1)) <|
    .st (.act none (.pget (some 5) (some 4) 1 0 none)) <|
    .st (.act none (.ex (some 6) (.call fn_laws_toIntS [.v 5]))) K35_4) K35_3
@[simp] def W35_5 := @C.wpe _ _ K35_5.eq_1
def K35_6 : C := .seq (.pl <| .st (.ext 4 0) <|
    .st (.act none (.pnew 3 (.c (.agg #[.slice none 0 0, .slice none 0 0])) [])) .done) K35_5
@[simp] def W35_6 := @C.wpe _ _ K35_6.eq_1
def B_laws_toState : C := .seq (.pl <| .st (.ext 4 0) <|
    .st (.act none (.pnew 1 (.v 0) [])) <|
    .st (.act none (.pnew 2 (.c (.agg #[.slice none 0 0, .slice none 0 0])) [])) .done) K35_6
@[simp] def WB_laws_toState := @C.wpe _ _ B_laws_toState.eq_1
def R_laws_toState : FIR := ⟨B_laws_toState, 4, [(2, some (some 2))]⟩
theorem IR_laws_toState : cfun Try.prog H_laws_toState Try.f35 = some R_laws_toState := by kernel_rfl
theorem EN_laws_toState {args : List Value} {h : Heap} {k : Value → Heap → Prop} (hargs : args.length = 1) (hw : B_laws_toState.wp Try.prog (retQ [(2, some (some 2))] k) (env0 args 4) h) : CallE Try.prog fn_laws_toState args h k := enter Try.func35 rfl IR_laws_toState hargs hw

def H_laws_toStateS : Hint := ⟨[(0, false), (2, false), (3, false), (4, false)], [[1]]⟩
def K75_1 : C := .seq (.pl <| .st (.ext 4 1) <|
    .st (.act none (.px (some 4) (.mv (.v 2)))) <|
    .st (.act none (.px (some 1) (.mv (.v 4)))) .done) (.ret)
@[simp] def W75_1 := @C.wpe _ _ K75_1.eq_1
def K75_2 : C := .pl <| .st (.ext 4 2) <|
    .st (.act none (.px (some 4) (.mv (.v 3)))) <|
    .st (.act none (.px (some 5) (.bin .add (.v 4) (.c (.int .i64 1))))) <|
    .st (.act none (.px (some 3) (.mv (.v 5)))) .done
@[simp] def W75_2 := @C.wpe _ _ K75_2.eq_1
def K75_3 : Pl := .st (.act none (.px (some 11) (.ia 2 (.v 4) (.v 5)))) <|
    .st (.act none (.ex none (.store 2 (.v 11) (.v 10)))) .done
@[simp] def W75_3 := @Pl.wpe _ _ K75_3.eq_1
def K75_4 : C := .seq (.block 1 (.pl <| .st (.ext 4 8) <|
    .st (.act none (.px (some 4) (.mv (.v 2)))) <|
    .st (.act none (.px (some 5) (.mv (.v 3)))) <|
    .st (.act none (.px (some 6) (.mv (.v 0)))) <|
    .st (.act none (.px (some 7) (.mv (.v 3)))) <|
    .st (.act none (.px (some 8) (.ia 2 (.v 6) (.v 7)))) <|
    .st (.act none (.ld (some 9) (.v 8) (some 2))) <|
    .st (.act none (.ex (some 10) (.call fn_laws_toState [.v 9]))) K75_3)) K75_2
@[simp] def W75_4 := @C.wpe _ _ K75_4.eq_1
def K75_5 : C := .cond 4 (.v 7) (.skip) (.exit 0)
@[simp] def W75_5 := @C.wpe _ _ K75_5.eq_1
def K75_6 : C := .seq (.seq (.pl <| .st (.ext 4 4) <|
    .st (.act none (.px (some 4) (.mv (.v 3)))) <|
    .st (.act none (.px (some 5) (.mv (.v 0)))) <|
    .st (.act none (.px (some 6) (.lenV (.v 5)))) <|
    .st (.act none (.px (some 7) (.bin .lss (.v 4) (.v 6)))) .done) K75_5) K75_4
@[simp] def W75_6 := @C.wpe _ _ K75_6.eq_1
def K75_7 : C := .block 0 (.loop 4 [1] K75_6)
@[simp] def W75_7 := @C.wpe _ _ K75_7.eq_1
def K75_8 : C := .seq (.seq (.pl <| .st (.ext 4 0) <|
    .st (.act none (.px (some 3) (.mv (.c (.int .i64 0))))) .done) K75_7) K75_1
@[simp] def W75_8 := @C.wpe _ _ K75_8.eq_1
def K75_9 : Pl := .st (.act none (.px (some 2) (.mv (.v 6)))) .done
@[simp] def W75_9 := @Pl.wpe _ _ K75_9.eq_1
def K75_10 : C := .seq (.pl <| .st (.ext 4 3) <|
    .st (.act none (.px (some 4) (.mv (.v 0)))) <|
    .st (.act none (.px (some 5) (.lenV (.v 4)))) <|
    .st (.act none (.ex (some 6) (.mks 48 2 [.slice none 0 0, .slice none 0 0] (.v 5) (.v 5)))) K75_9) K75_8
@[simp] def W75_10 := @C.wpe _ _ K75_10.eq_1
def B_laws_toStateS : C := .seq (.pl <| .st (.ext 4 0) <|
    .st (.act none (.px (some 1) (.mv (.c (.slice none 0 0))))) .done) K75_10
@[simp] def WB_laws_toStateS := @C.wpe _ _ B_laws_toStateS.eq_1
def R_laws_toStateS : FIR := ⟨B_laws_toStateS, 4, [(1, none)]⟩
theorem IR_laws_toStateS : cfun Try.prog H_laws_toStateS Try.f75 = some R_laws_toStateS := by kernel_rfl
theorem EN_laws_toStateS {args : List Value} {h : Heap} {k : Value → Heap → Prop} (hargs : args.length = 1) (hw : B_laws_toStateS.wp Try.prog (retQ [(1, none)] k) (env0 args 4) h) : CallE Try.prog fn_laws_toStateS args h k := enter Try.func75 rfl IR_laws_toStateS hargs hw

def H_slices_ContainsFunc_S_S_int_S_int : Hint := ⟨[(0, false), (1, false), (4, false)], []⟩
def K127_1 : Pl := .st (.act none (.px (some 6) (.bin .geq (.v 5) (.c (.int .i64 0))))) <|
    .st (.act none (.px (some 2) (.mv (.v 6)))) .done
@[simp] def W127_1 := @Pl.wpe _ _ K127_1.eq_1
def K127_2 : C := .seq (.pl <| .st (.ext 3 4) <|
    .st (.act none (.px (some 3) (.mv (.v 0)))) <|
    .st (.act none (.px (some 4) (.mv (.v 1)))) <|
    .st (.act none (.ex (some 5) (.call fn_slices_IndexFunc_S_S_int_S_int [.v 3, .v 4]))) K127_1) (.ret)
@[simp] def W127_2 := @C.wpe _ _ K127_2.eq_1
def B_slices_ContainsFunc_S_S_int_S_int : C := .seq (.pl <| .st (.ext 3 0) <|
    .st (.act none (.px (some 2) (.mv (.c (.bool false))))) .done) K127_2
@[simp] def WB_slices_ContainsFunc_S_S_int_S_int := @C.wpe _ _ B_slices_ContainsFunc_S_S_int_S_int.eq_1
def R_slices_ContainsFunc_S_S_int_S_int : FIR := ⟨B_slices_ContainsFunc_S_S_int_S_int, 3, [(2, none)]⟩
theorem IR_slices_ContainsFunc_S_S_int_S_int : cfun Try.prog H_slices_ContainsFunc_S_S_int_S_int Try.f127 = some R_slices_ContainsFunc_S_S_int_S_int := by kernel_rfl
theorem EN_slices_ContainsFunc_S_S_int_S_int {args : List Value} {h : Heap} {k : Value → Heap → Prop} (hargs : args.length = 2) (hw : B_slices_ContainsFunc_S_S_int_S_int.wp Try.prog (retQ [(2, none)] k) (env0 args 3) h) : CallE Try.prog fn_slices_ContainsFunc_S_S_int_S_int args h k := enter Try.func127 rfl IR_slices_ContainsFunc_S_S_int_S_int hargs hw

def H_slices_ContainsFunc_S_impl_State_impl_State : Hint := ⟨[(0, false), (1, false), (4, false)], []⟩
def K125_1 : Pl := .st (.act none (.px (some 6) (.bin .geq (.v 5) (.c (.int .i64 0))))) <|
    .st (.act none (.px (some 2) (.mv (.v 6)))) .done
@[simp] def W125_1 := @Pl.wpe _ _ K125_1.eq_1
def K125_2 : C := .seq (.pl <| .st (.ext 3 4) <|
    .st (.act none (.px (some 3) (.mv (.v 0)))) <|
    .st (.act none (.px (some 4) (.mv (.v 1)))) <|
    .st (.act none (.ex (some 5) (.call fn_slices_IndexFunc_S_impl_State_impl_State [.v 3, .v 4]))) K125_1) (.ret)
@[simp] def W125_2 := @C.wpe _ _ K125_2.eq_1
def B_slices_ContainsFunc_S_impl_State_impl_State : C := .seq (.pl <| .st (.ext 3 0) <|
    .st (.act none (.px (some 2) (.mv (.c (.bool false))))) .done) K125_2
@[simp] def WB_slices_ContainsFunc_S_impl_State_impl_State := @C.wpe _ _ B_slices_ContainsFunc_S_impl_State_impl_State.eq_1
def R_slices_ContainsFunc_S_impl_State_impl_State : FIR := ⟨B_slices_ContainsFunc_S_impl_State_impl_State, 3, [(2, none)]⟩
theorem IR_slices_ContainsFunc_S_impl_State_impl_State : cfun Try.prog H_slices_ContainsFunc_S_impl_State_impl_State Try.f125 = some R_slices_ContainsFunc_S_impl_State_impl_State := by kernel_rfl
theorem EN_slices_ContainsFunc_S_impl_State_impl_State {args : List Value} {h : Heap} {k : Value → Heap → Prop} (hargs : args.length = 2) (hw : B_slices_ContainsFunc_S_impl_State_impl_State.wp Try.prog (retQ [(2, none)] k) (env0 args 3) h) : CallE Try.prog fn_slices_ContainsFunc_S_impl_State_impl_State args h k := enter Try.func125 rfl IR_slices_ContainsFunc_S_impl_State_impl_State hargs hw

def H_slices_Contains_S_int_int : Hint := ⟨[(0, false), (1, false), (4, false)], []⟩
def K163_1 : Pl := .st (.act none (.px (some 6) (.bin .geq (.v 5) (.c (.int .i64 0))))) <|
    .st (.act none (.px (some 2) (.mv (.v 6)))) .done
@[simp] def W163_1 := @Pl.wpe _ _ K163_1.eq_1
def K163_2 : C := .seq (.pl <| .st (.ext 3 4) <|
    .st (.act none (.px (some 3) (.mv (.v 0)))) <|
    .st (.act none (.px (some 4) (.mv (.v 1)))) <|
    .st (.act none (.ex (some 5) (.call fn_slices_Index_S_int_int [.v 3, .v 4]))) K163_1) (.ret)
@[simp] def W163_2 := @C.wpe _ _ K163_2.eq_1
def B_slices_Contains_S_int_int : C := .seq (.pl <| .st (.ext 3 0) <|
    .st (.act none (.px (some 2) (.mv (.c (.bool false))))) .done) K163_2
@[simp] def WB_slices_Contains_S_int_int := @C.wpe _ _ B_slices_Contains_S_int_int.eq_1
def R_slices_Contains_S_int_int : FIR := ⟨B_slices_Contains_S_int_int, 3, [(2, none)]⟩
theorem IR_slices_Contains_S_int_int : cfun Try.prog H_slices_Contains_S_int_int Try.f163 = some R_slices_Contains_S_int_int := by kernel_rfl
theorem EN_slices_Contains_S_int_int {args : List Value} {h : Heap} {k : Value → Heap → Prop} (hargs : args.length = 2) (hw : B_slices_Contains_S_int_int.wp Try.prog (retQ [(2, none)] k) (env0 args 3) h) : CallE Try.prog fn_slices_Contains_S_int_int args h k := enter Try.func163 rfl IR_slices_Contains_S_int_int hargs hw

def H_slices_IndexFunc_S_S_int_S_int : Hint := ⟨[(0, false), (1, false), (4, false), (5, false), (7, false), (8, false)], [[2, 3]]⟩
def K162_1 : C := .seq (.pl <| .st (.ext 6 0) <|
    .st (.act none (.px (some 2) (.mv (.c (.int .i64 (-1)))))) .done) (.ret)
@[simp] def W162_1 := @C.wpe _ _ K162_1.eq_1
def K162_2 : C := .pl <| .st (.ext 6 1) <|
    .st (.act none (.px (some 6) (.bin .add (.v 5) (.c (.int .i64 1))))) <|
    .st (.act none (.px (some 5) (.mv (.v 6)))) .done
@[simp] def W162_2 := @C.wpe _ _ K162_2.eq_1
def K162_3 : C := .seq (.pl <| .st (.ext 6 1) <|
    .st (.act none (.px (some 6) (.mv (.v 3)))) <|
    .st (.act none (.px (some 2) (.mv (.v 6)))) .done) (.ret)
@[simp] def W162_3 := @C.wpe _ _ K162_3.eq_1
def K162_4 : C := .cond 6 (.v 11) K162_3 (.skip)
@[simp] def W162_4 := @C.wpe _ _ K162_4.eq_1
def K162_5 : C := .seq (.pl <| .st (.ext 6 6) <|
    .st (.act none (.px (some 6) (.mv (.v 1)))) <|
    .st (.act none (.px (some 7) (.mv (.v 0)))) <|
    .st (.act none (.px (some 8) (.mv (.v 3)))) <|
    .st (.act none (.px (some 9) (.ia 1 (.v 7) (.v 8)))) <|
    .st (.act none (.ld (some 10) (.v 9) none)) <|
    .st (.act none (.ex (some 11) (.callv (.v 6) [.v 10]))) .done) K162_4
@[simp] def W162_5 := @C.wpe _ _ K162_5.eq_1
def K162_6 : C := .seq (.block 1 (.seq (.pl <| .st (.ext 6 1) <|
    .st (.act none (.px (some 6) (.mv (.v 5)))) <|
    .st (.act none (.px (some 3) (.mv (.v 6)))) .done) K162_5)) K162_2
@[simp] def W162_6 := @C.wpe _ _ K162_6.eq_1
def K162_7 : C := .seq (.cond 6 (.v 6) (.skip) (.exit 0)) K162_6
@[simp] def W162_7 := @C.wpe _ _ K162_7.eq_1
def K162_8 : C := .seq (.pl <| .st (.ext 6 1) <|
    .st (.act none (.px (some 6) (.bin .lss (.v 5) (.v 4)))) .done) K162_7
@[simp] def W162_8 := @C.wpe _ _ K162_8.eq_1
def K162_9 : C := .block 0 (.loop 6 [2, 3] K162_8)
@[simp] def W162_9 := @C.wpe _ _ K162_9.eq_1
def K162_10 : C := .seq (.seq (.pl <| .st (.ext 6 1) <|
    .st (.act none (.px (some 6) (.mv (.v 0)))) <|
    .st (.act none (.px (some 4) (.lenV (.v 6)))) <|
    .st (.act none (.px (some 5) (.mv (.c (.int .i64 0))))) .done) K162_9) K162_1
@[simp] def W162_10 := @C.wpe _ _ K162_10.eq_1
def B_slices_IndexFunc_S_S_int_S_int : C := .seq (.pl <| .st (.ext 6 0) <|
    .st (.act none (.px (some 2) (.mv (.c (.int .i64 0))))) .done) K162_10
@[simp] def WB_slices_IndexFunc_S_S_int_S_int := @C.wpe _ _ B_slices_IndexFunc_S_S_int_S_int.eq_1
def R_slices_IndexFunc_S_S_int_S_int : FIR := ⟨B_slices_IndexFunc_S_S_int_S_int, 6, [(2, none)]⟩
theorem IR_slices_IndexFunc_S_S_int_S_int : cfun Try.prog H_slices_IndexFunc_S_S_int_S_int Try.f162 = some R_slices_IndexFunc_S_S_int_S_int := by kernel_rfl
theorem EN_slices_IndexFunc_S_S_int_S_int {args : List Value} {h : Heap} {k : Value → Heap → Prop} (hargs : args.length = 2) (hw : B_slices_IndexFunc_S_S_int_S_int.wp Try.prog (retQ [(2, none)] k) (env0 args 6) h) : CallE Try.prog fn_slices_IndexFunc_S_S_int_S_int args h k := enter Try.func162 rfl IR_slices_IndexFunc_S_S_int_S_int hargs hw

def H_slices_IndexFunc_S_impl_State_impl_State : Hint := ⟨[(0, false), (1, false), (4, false), (5, false), (7, false), (8, false)], [[2, 3]]⟩
def K161_1 : C := .seq (.pl <| .st (.ext 6 0) <|
    .st (.act none (.px (some 2) (.mv (.c (.int .i64 (-1)))))) .done) (.ret)
@[simp] def W161_1 := @C.wpe _ _ K161_1.eq_1
def K161_2 : C := .pl <| .st (.ext 6 1) <|
    .st (.act none (.px (some 6) (.bin .add (.v 5) (.c (.int .i64 1))))) <|
    .st (.act none (.px (some 5) (.mv (.v 6)))) .done
@[simp] def W161_2 := @C.wpe _ _ K161_2.eq_1
def K161_3 : C := .seq (.pl <| .st (.ext 6 1) <|
    .st (.act none (.px (some 6) (.mv (.v 3)))) <|
    .st (.act none (.px (some 2) (.mv (.v 6)))) .done) (.ret)
@[simp] def W161_3 := @C.wpe _ _ K161_3.eq_1
def K161_4 : C := .cond 6 (.v 11) K161_3 (.skip)
@[simp] def W161_4 := @C.wpe _ _ K161_4.eq_1
def K161_5 : C := .seq (.pl <| .st (.ext 6 6) <|
    .st (.act none (.px (some 6) (.mv (.v 1)))) <|
    .st (.act none (.px (some 7) (.mv (.v 0)))) <|
    .st (.act none (.px (some 8) (.mv (.v 3)))) <|
    .st (.act none (.px (some 9) (.ia 2 (.v 7) (.v 8)))) <|
    .st (.act none (.ld (some 10) (.v 9) (some 2))) <|
    .st (.act none (.ex (some 11) (.callv (.v 6) [.v 10]))) .done) K161_4
@[simp] def W161_5 := @C.wpe _ _ K161_5.eq_1
def K161_6 : C := .seq (.block 1 (.seq (.pl <| .st (.ext 6 1) <|
    .st (.act none (.px (some 6) (.mv (.v 5)))) <|
    .st (.act none (.px (some 3) (.mv (.v 6)))) .done) K161_5)) K161_2
@[simp] def W161_6 := @C.wpe _ _ K161_6.eq_1
def K161_7 : C := .seq (.cond 6 (.v 6) (.skip) (.exit 0)) K161_6
@[simp] def W161_7 := @C.wpe _ _ K161_7.eq_1
def K161_8 : C := .seq (.pl <| .st (.ext 6 1) <|
    .st (.act none (.px (some 6) (.bin .lss (.v 5) (.v 4)))) .done) K161_7
@[simp] def W161_8 := @C.wpe _ _ K161_8.eq_1
def K161_9 : C := .block 0 (.loop 6 [2, 3] K161_8)
@[simp] def W161_9 := @C.wpe _ _ K161_9.eq_1
def K161_10 : C := .seq (.seq (.pl <| .st (.ext 6 1) <|
    .st (.act none (.px (some 6) (.mv (.v 0)))) <|
    .st (.act none (.px (some 4) (.lenV (.v 6)))) <|
    .st (.act none (.px (some 5) (.mv (.c (.int .i64 0))))) .done) K161_9) K161_1
@[simp] def W161_10 := @C.wpe _ _ K161_10.eq_1
def B_slices_IndexFunc_S_impl_State_impl_State : C := .seq (.pl <| .st (.ext 6 0) <|
    .st (.act none (.px (some 2) (.mv (.c (.int .i64 0))))) .done) K161_10
@[simp] def WB_slices_IndexFunc_S_impl_State_impl_State := @C.wpe _ _ B_slices_IndexFunc_S_impl_State_impl_State.eq_1
def R_slices_IndexFunc_S_impl_State_impl_State : FIR := ⟨B_slices_IndexFunc_S_impl_State_impl_State, 6, [(2, none)]⟩
theorem IR_slices_IndexFunc_S_impl_State_impl_State : cfun Try.prog H_slices_IndexFunc_S_impl_State_impl_State Try.f161 = some R_slices_IndexFunc_S_impl_State_impl_State := by kernel_rfl
theorem EN_slices_IndexFunc_S_impl_State_impl_State {args : List Value} {h : Heap} {k : Value → Heap → Prop} (hargs : args.length = 2) (hw : B_slices_IndexFunc_S_impl_State_impl_State.wp Try.prog (retQ [(2, none)] k) (env0 args 6) h) : CallE Try.prog fn_slices_IndexFunc_S_impl_State_impl_State args h k := enter Try.func161 rfl IR_slices_IndexFunc_S_impl_State_impl_State hargs hw

def H_slices_Index_S_int_int : Hint := ⟨[(0, false), (1, false), (4, false), (5, false), (7, false), (8, false)], [[2, 3]]⟩
def K190_1 : C := .seq (.pl <| .st (.ext 6 0) <|
    .st (.act none (.px (some 2) (.mv (.c (.int .i64 (-1)))))) .done) (.ret)
@[simp] def W190_1 := @C.wpe _ _ K190_1.eq_1
def K190_2 : C := .pl <| .st (.ext 6 1) <|
    .st (.act none (.px (some 6) (.bin .add (.v 5) (.c (.int .i64 1))))) <|
    .st (.act none (.px (some 5) (.mv (.v 6)))) .done
@[simp] def W190_2 := @C.wpe _ _ K190_2.eq_1
def K190_3 : C := .seq (.pl <| .st (.ext 6 1) <|
    .st (.act none (.px (some 6) (.mv (.v 3)))) <|
    .st (.act none (.px (some 2) (.mv (.v 6)))) .done) (.ret)
@[simp] def W190_3 := @C.wpe _ _ K190_3.eq_1
def K190_4 : C := .cond 6 (.v 11) K190_3 (.skip)
@[simp] def W190_4 := @C.wpe _ _ K190_4.eq_1
def K190_5 : C := .seq (.pl <| .st (.ext 6 6) <|
    .st (.act none (.px (some 6) (.mv (.v 1)))) <|
    .st (.act none (.px (some 7) (.mv (.v 0)))) <|
    .st (.act none (.px (some 8) (.mv (.v 3)))) <|
    .st (.act none (.px (some 9) (.ia 1 (.v 7) (.v 8)))) <|
    .st (.act none (.ld (some 10) (.v 9) none)) <|
    .st (.act none (.px (some 11) (.bin .eql (.v 6) (.v 10)))) .done) K190_4
@[simp] def W190_5 := @C.wpe _ _ K190_5.eq_1
def K190_6 : C := .seq (.block 1 (.seq (.pl <| .st (.ext 6 1) <|
    .st (.act none (.px (some 6) (.mv (.v 5)))) <|
    .st (.act none (.px (some 3) (.mv (.v 6)))) .done) K190_5)) K190_2
@[simp] def W190_6 := @C.wpe _ _ K190_6.eq_1
def K190_7 : C := .seq (.cond 6 (.v 6) (.skip) (.exit 0)) K190_6
@[simp] def W190_7 := @C.wpe _ _ K190_7.eq_1
def K190_8 : C := .seq (.pl <| .st (.ext 6 1) <|
    .st (.act none (.px (some 6) (.bin .lss (.v 5) (.v 4)))) .done) K190_7
@[simp] def W190_8 := @C.wpe _ _ K190_8.eq_1
def K190_9 : C := .block 0 (.loop 6 [2, 3] K190_8)
@[simp] def W190_9 := @C.wpe _ _ K190_9.eq_1
def K190_10 : C := .seq (.seq (.pl <| .st (.ext 6 1) <|
    .st (.act none (.px (some 6) (.mv (.v 0)))) <|
    .st (.act none (.px (some 4) (.lenV (.v 6)))) <|
    .st (.act none (.px (some 5) (.mv (.c (.int .i64 0))))) .done) K190_9) K190_1
@[simp] def W190_10 := @C.wpe _ _ K190_10.eq_1
def B_slices_Index_S_int_int : C := .seq (.pl <| .st (.ext 6 0) <|
    .st (.act none (.px (some 2) (.mv (.c (.int .i64 0))))) .done) K190_10
@[simp] def WB_slices_Index_S_int_int := @C.wpe _ _ B_slices_Index_S_int_int.eq_1
def R_slices_Index_S_int_int : FIR := ⟨B_slices_Index_S_int_int, 6, [(2, none)]⟩
theorem IR_slices_Index_S_int_int : cfun Try.prog H_slices_Index_S_int_int Try.f190 = some R_slices_Index_S_int_int := by kernel_rfl
theorem EN_slices_Index_S_int_int {args : List Value} {h : Heap} {k : Value → Heap → Prop} (hargs : args.length = 2) (hw : B_slices_Index_S_int_int.wp Try.prog (retQ [(2, none)] k) (env0 args 6) h) : CallE Try.prog fn_slices_Index_S_int_int args h k := enter Try.func190 rfl IR_slices_Index_S_int_int hargs hw

def H_spec_GraphValid : Hint := ⟨[(0, false), (1, true), (2, false), (3, false), (4, false)], [[0, 2, 4], [0, 2]]⟩
def K73_1 : C := .seq (.pl <| .st (.ext 5 0) <|
    .st (.act none (.px (some 2) (.mv (.c (.bool true))))) .done) (.ret)
@[simp] def W73_1 := @C.wpe _ _ K73_1.eq_1
def K73_2 : C := .pl <| .st (.ext 5 2) <|
    .st (.act none (.px (some 5) (.mv (.v 3)))) <|
    .st (.act none (.px (some 6) (.bin .add (.v 5) (.c (.int .i64 1))))) <|
    .st (.act none (.px (some 3) (.mv (.v 6)))) .done
@[simp] def W73_2 := @C.wpe _ _ K73_2.eq_1
def K73_3 : C := .pl <| .st (.ext 5 2) <|
    .st (.act none (.px (some 5) (.mv (.v 4)))) <|
    .st (.act none (.px (some 6) (.bin .add (.v 5) (.c (.int .i64 1))))) <|
    .st (.act none (.px (some 4) (.mv (.v 6)))) .done
@[simp] def W73_3 := @C.wpe _ _ K73_3.eq_1
def K73_4 : C := .seq (.pl <| .st (.ext 5 0) <|
    .st (.act none (.px (some 2) (.mv (.c (.bool false))))) .done) (.ret)
@[simp] def W73_4 := @C.wpe _ _ K73_4.eq_1
def K73_5 : C := .cond 5 (.v 45) K73_4 (.skip)
@[simp] def W73_5 := @C.wpe _ _ K73_5.eq_1
def K73_6 : Pl := .st (.act none (.px (some 45) (.pick (.v 28) (.c (.bool true)) (.v 44)))) .done
@[simp] def W73_6 := @Pl.wpe _ _ K73_6.eq_1
def K73_7 : C := .seq (.block 3 (.seq (.pl <| .st (.ext 5 41) <|
    .st (.act none (.als 5 none 1)) <|
    .st (.act none (.pget (some 6) (some 5) 1 1 none)) <|
    .st (.act none (.px (some 7) (.mv (.v 3)))) <|
    .st (.act none (.px (some 8) (.ia 1 (.v 6) (.v 7)))) <|
    .st (.act none (.ld (some 9) (.v 8) none)) <|
    .st (.act none (.px (some 10) (.mv (.v 4)))) <|
    .st (.act none (.px (some 11) (.ia 1 (.v 9) (.v 10)))) <|
    .st (.act none (.ld (some 12) (.v 11) none)) <|
    .st (.act none (.px (some 13) (.bin .lss (.v 12) (.c (.int .i64 0))))) <|
    .st (.act none (.px (some 14) (.mv (.v 13)))) <|
    .st (.act (some (.v 14, false)) (.als 15 none 1)) <|
    .st (.act (some (.v 14, false)) (.pget (some 16) (some 15) 1 1 none)) <|
    .st (.act (some (.v 14, false)) (.px (some 17) (.mv (.v 3)))) <|
    .st (.act (some (.v 14, false)) (.px (some 18) (.ia 1 (.v 16) (.v 17)))) <|
    .st (.act (some (.v 14, false)) (.ld (some 19) (.v 18) none)) <|
    .st (.act (some (.v 14, false)) (.px (some 20) (.mv (.v 4)))) <|
    .st (.act (some (.v 14, false)) (.px (some 21) (.ia 1 (.v 19) (.v 20)))) <|
    .st (.act (some (.v 14, false)) (.ld (some 22) (.v 21) none)) <|
    .st (.act (some (.v 14, false)) (.als 23 none 1)) <|
    .st (.act (some (.v 14, false)) (.pget (some 24) (some 23) 1 0 none)) <|
    .st (.act (some (.v 14, false)) (.px (some 25) (.lenV (.v 24)))) <|
    .st (.act (some (.v 14, false)) (.px (some 26) (.bin .geq (.v 22) (.v 25)))) <|
    .st (.act none (.px (some 27) (.pick (.v 14) (.c (.bool true)) (.v 26)))) <|
    .st (.act none (.px (some 28) (.mv (.v 27)))) <|
    .st (.act (some (.v 28, false)) (.als 29 none 1)) <|
    .st (.act (some (.v 28, false)) (.pget (some 30) (some 29) 1 1 none)) <|
    .st (.act (some (.v 28, false)) (.px (some 31) (.mv (.v 3)))) <|
    .st (.act (some (.v 28, false)) (.px (some 32) (.ia 1 (.v 30) (.v 31)))) <|
    .st (.act (some (.v 28, false)) (.ld (some 33) (.v 32) none)) <|
    .st (.act (some (.v 28, false)) (.px (some 34) (.mv (.v 4)))) <|
    .st (.act (some (.v 28, false)) (.px (some 35) (.sliceV 1 (.v 33) none (some (.v 34)) none))) <|
    .st (.act (some (.v 28, false)) (.als 36 none 1)) <|
    .st (.act (some (.v 28, false)) (.pget (some 37) (some 36) 1 1 none)) <|
    .st (.act (some (.v 28, false)) (.px (some 38) (.mv (.v 3)))) <|
    .st (.act (some (.v 28, false)) (.px (some 39) (.ia 1 (.v 37) (.v 38)))) <|
    .st (.act (some (.v 28, false)) (.ld (some 40) (.v 39) none)) <|
    .st (.act (some (.v 28, false)) (.px (some 41) (.mv (.v 4)))) <|
    .st (.act (some (.v 28, false)) (.px (some 42) (.ia 1 (.v 40) (.v 41)))) <|
    .st (.act (some (.v 28, false)) (.ld (some 43) (.v 42) none)) <|
    .st (.act (some (.v 28, false)) (.ex (some 44) (.call fn_spec_l4In [.v 35, .v 43]))) K73_6) K73_5)) K73_3
@[simp] def W73_7 := @C.wpe _ _ K73_7.eq_1
def K73_8 : C := .cond 5 (.v 12) (.skip) (.exit 2)
@[simp] def W73_8 := @C.wpe _ _ K73_8.eq_1
def K73_9 : C := .seq (.seq (.pl <| .st (.ext 5 8) <|
    .st (.act none (.px (some 5) (.mv (.v 4)))) <|
    .st (.act none (.als 6 none 1)) <|
    .st (.act none (.pget (some 7) (some 6) 1 1 none)) <|
    .st (.act none (.px (some 8) (.mv (.v 3)))) <|
    .st (.act none (.px (some 9) (.ia 1 (.v 7) (.v 8)))) <|
    .st (.act none (.ld (some 10) (.v 9) none)) <|
    .st (.act none (.px (some 11) (.lenV (.v 10)))) <|
    .st (.act none (.px (some 12) (.bin .lss (.v 5) (.v 11)))) .done) K73_8) K73_7
@[simp] def W73_9 := @C.wpe _ _ K73_9.eq_1
def K73_10 : C := .block 2 (.loop 5 [0, 2] K73_9)
@[simp] def W73_10 := @C.wpe _ _ K73_10.eq_1
def K73_11 : C := .seq (.pl <| .st (.ext 5 0) <|
    .st (.act none (.px (some 4) (.mv (.c (.int .i64 0))))) .done) K73_10
@[simp] def W73_11 := @C.wpe _ _ K73_11.eq_1
def K73_12 : C := .seq (.pl <| .st (.ext 5 0) <|
    .st (.act none (.px (some 2) (.mv (.c (.bool false))))) .done) (.ret)
@[simp] def W73_12 := @C.wpe _ _ K73_12.eq_1
def K73_13 : C := .cond 5 (.v 33) K73_12 (.skip)
@[simp] def W73_13 := @C.wpe _ _ K73_13.eq_1
def K73_14 : Pl := .st (.act (some (.v 24, false)) (.px (some 32) (.un .not (.v 31)))) <|
    .st (.act none (.px (some 33) (.pick (.v 24) (.c (.bool true)) (.v 32)))) .done
@[simp] def W73_14 := @Pl.wpe _ _ K73_14.eq_1
def K73_15 : C := .seq (.block 1 (.seq (.seq (.pl <| .st (.ext 5 29) <|
    .st (.act none (.als 5 none 1)) <|
    .st (.act none (.pget (some 6) (some 5) 1 1 none)) <|
    .st (.act none (.px (some 7) (.mv (.v 3)))) <|
    .st (.act none (.px (some 8) (.ia 1 (.v 6) (.v 7)))) <|
    .st (.act none (.ld (some 9) (.v 8) none)) <|
    .st (.act none (.px (some 10) (.lenV (.v 9)))) <|
    .st (.act none (.px (some 11) (.bin .lss (.v 10) (.c (.int .i64 1))))) <|
    .st (.act none (.px (some 12) (.mv (.v 11)))) <|
    .st (.act (some (.v 12, false)) (.als 13 none 1)) <|
    .st (.act (some (.v 12, false)) (.pget (some 14) (some 13) 1 1 none)) <|
    .st (.act (some (.v 12, false)) (.px (some 15) (.mv (.v 3)))) <|
    .st (.act (some (.v 12, false)) (.px (some 16) (.ia 1 (.v 14) (.v 15)))) <|
    .st (.act (some (.v 12, false)) (.ld (some 17) (.v 16) none)) <|
    .st (.act (some (.v 12, false)) (.px (some 18) (.lenV (.v 17)))) <|
    .st (.act (some (.v 12, false)) (.als 19 none 1)) <|
    .st (.act (some (.v 12, false)) (.pget (some 20) (some 19) 1 0 none)) <|
    .st (.act (some (.v 12, false)) (.px (some 21) (.lenV (.v 20)))) <|
    .st (.act (some (.v 12, false)) (.px (some 22) (.bin .gtr (.v 18) (.v 21)))) <|
    .st (.act none (.px (some 23) (.pick (.v 12) (.c (.bool true)) (.v 22)))) <|
    .st (.act none (.px (some 24) (.mv (.v 23)))) <|
    .st (.act (some (.v 24, false)) (.als 25 none 1)) <|
    .st (.act (some (.v 24, false)) (.pget (some 26) (some 25) 1 0 none)) <|
    .st (.act (some (.v 24, false)) (.px (some 27) (.mv (.v 3)))) <|
    .st (.act (some (.v 24, false)) (.px (some 28) (.ia 2 (.v 26) (.v 27)))) <|
    .st (.act (some (.v 24, false)) (.px (some 29) (.fa 1 (.v 28)))) <|
    .st (.act (some (.v 24, false)) (.ld (some 30) (.v 29) none)) <|
    .st (.act (some (.v 24, false)) (.ex (some 31) (.call fn_spec_l1Vals [.v 30]))) K73_14) K73_13) K73_11)) K73_2
@[simp] def W73_15 := @C.wpe _ _ K73_15.eq_1
def K73_16 : C := .cond 5 (.v 9) (.skip) (.exit 0)
@[simp] def W73_16 := @C.wpe _ _ K73_16.eq_1
def K73_17 : C := .seq (.seq (.pl <| .st (.ext 5 5) <|
    .st (.act none (.px (some 5) (.mv (.v 3)))) <|
    .st (.act none (.als 6 none 1)) <|
    .st (.act none (.pget (some 7) (some 6) 1 1 none)) <|
    .st (.act none (.px (some 8) (.lenV (.v 7)))) <|
    .st (.act none (.px (some 9) (.bin .lss (.v 5) (.v 8)))) .done) K73_16) K73_15
@[simp] def W73_17 := @C.wpe _ _ K73_17.eq_1
def K73_18 : C := .block 0 (.loop 5 [0, 2, 4] K73_17)
@[simp] def W73_18 := @C.wpe _ _ K73_18.eq_1
def K73_19 : C := .seq (.seq (.pl <| .st (.ext 5 0) <|
    .st (.act none (.px (some 3) (.mv (.c (.int .i64 0))))) .done) K73_18) K73_1
@[simp] def W73_19 := @C.wpe _ _ K73_19.eq_1
def K73_20 : C := .seq (.pl <| .st (.ext 5 0) <|
    .st (.act none (.px (some 2) (.mv (.c (.bool false))))) .done) (.ret)
@[simp] def W73_20 := @C.wpe _ _ K73_20.eq_1
def K73_21 : C := .cond 5 (.v 23) K73_20 (.skip)
@[simp] def W73_21 := @C.wpe _ _ K73_21.eq_1
def K73_22 : C := .seq (.seq (.pl <| .st (.ext 5 19) <|
    .st (.act none (.als 5 none 1)) <|
    .st (.act none (.pget (some 6) (some 5) 1 0 none)) <|
    .st (.act none (.px (some 7) (.lenV (.v 6)))) <|
    .st (.act none (.px (some 8) (.bin .lss (.v 7) (.c (.int .i64 1))))) <|
    .st (.act none (.px (some 9) (.mv (.v 8)))) <|
    .st (.act (some (.v 9, false)) (.als 10 none 1)) <|
    .st (.act (some (.v 9, false)) (.pget (some 11) (some 10) 1 0 none)) <|
    .st (.act (some (.v 9, false)) (.px (some 12) (.lenV (.v 11)))) <|
    .st (.act (some (.v 9, false)) (.px (some 13) (.bin .gtr (.v 12) (.c (.int .i64 60))))) <|
    .st (.act none (.px (some 14) (.pick (.v 9) (.c (.bool true)) (.v 13)))) <|
    .st (.act none (.px (some 15) (.mv (.v 14)))) <|
    .st (.act (some (.v 15, false)) (.als 16 none 1)) <|
    .st (.act (some (.v 15, false)) (.pget (some 17) (some 16) 1 1 none)) <|
    .st (.act (some (.v 15, false)) (.px (some 18) (.lenV (.v 17)))) <|
    .st (.act (some (.v 15, false)) (.als 19 none 1)) <|
    .st (.act (some (.v 15, false)) (.pget (some 20) (some 19) 1 0 none)) <|
    .st (.act (some (.v 15, false)) (.px (some 21) (.lenV (.v 20)))) <|
    .st (.act (some (.v 15, false)) (.px (some 22) (.bin .neq (.v 18) (.v 21)))) <|
    .st (.act none (.px (some 23) (.pick (.v 15) (.c (.bool true)) (.v 22)))) .done) K73_21) K73_19
@[simp] def W73_22 := @C.wpe _ _ K73_22.eq_1
def B_spec_GraphValid : C := .seq (.pl <| .st (.ext 5 0) <|
    .st (.act none (.pnew 1 (.v 0) [])) <|
    .st (.act none (.px (some 2) (.mv (.c (.bool false))))) .done) K73_22
@[simp] def WB_spec_GraphValid := @C.wpe _ _ B_spec_GraphValid.eq_1
def R_spec_GraphValid : FIR := ⟨B_spec_GraphValid, 5, [(2, none)]⟩
theorem IR_spec_GraphValid : cfun Try.prog H_spec_GraphValid Try.f73 = some R_spec_GraphValid := by kernel_rfl
theorem EN_spec_GraphValid {args : List Value} {h : Heap} {k : Value → Heap → Prop} (hargs : args.length = 1) (hw : B_spec_GraphValid.wp Try.prog (retQ [(2, none)] k) (env0 args 5) h) : CallE Try.prog fn_spec_GraphValid args h k := enter Try.func73 rfl IR_spec_GraphValid hargs hw

def H_spec_LabelGraph : Hint := ⟨[(0, false), (1, false), (2, true), (4, false), (5, false)], []⟩
def K25_1 : Pl := .st (.act none (.px (some 3) (.mv (.v 7)))) <|
    .st (.act none (.px (some 4) (.mv (.c (.bool true))))) .done
@[simp] def W25_1 := @Pl.wpe _ _ K25_1.eq_1
def K25_2 : C := .seq (.pl <| .st (.ext 5 3) <|
    .st (.act none (.pget (some 5) none 2 0 (some 2))) <|
    .st (.act none (.px (some 6) (.mv (.v 1)))) <|
    .st (.act none (.ex (some 7) (.call fn_spec_l8Letters [.v 5, .v 6]))) K25_1) (.ret)
@[simp] def W25_2 := @C.wpe _ _ K25_2.eq_1
def K25_3 : Pl := .st (.act none (.px (some 3) (.mv (.v 5)))) <|
    .st (.act none (.px (some 4) (.mv (.c (.bool false))))) .done
@[simp] def W25_3 := @Pl.wpe _ _ K25_3.eq_1
def K25_4 : C := .seq (.pl <| .st (.ext 5 1) <|
    .st (.act none (.ex (some 5) (.bls 1 0 [.int .i64 0] []))) K25_3) (.ret)
@[simp] def W25_4 := @C.wpe _ _ K25_4.eq_1
def K25_5 : C := .cond 5 (.v 12) K25_4 (.skip)
@[simp] def W25_5 := @C.wpe _ _ K25_5.eq_1
def K25_6 : Pl := .st (.act (some (.v 8, false)) (.px (some 11) (.un .not (.v 10)))) <|
    .st (.act none (.px (some 12) (.pick (.v 8) (.c (.bool true)) (.v 11)))) .done
@[simp] def W25_6 := @Pl.wpe _ _ K25_6.eq_1
def K25_7 : Pl := .st (.act none (.px (some 7) (.un .not (.v 6)))) <|
    .st (.act none (.px (some 8) (.mv (.v 7)))) <|
    .st (.act (some (.v 8, false)) (.px (some 9) (.mv (.v 1)))) <|
    .st (.act (some (.v 8, false)) (.ex (some 10) (.call fn_spec_LabelsValid [.v 9]))) K25_6
@[simp] def W25_7 := @Pl.wpe _ _ K25_7.eq_1
def K25_8 : C := .seq (.seq (.pl <| .st (.ext 5 8) <|
    .st (.act none (.pget (some 5) none 2 0 (some 2))) <|
    .st (.act none (.ex (some 6) (.call fn_spec_GraphValid [.v 5]))) K25_7) K25_5) K25_2
@[simp] def W25_8 := @C.wpe _ _ K25_8.eq_1
def B_spec_LabelGraph : C := .seq (.pl <| .st (.ext 5 0) <|
    .st (.act none (.pnew 2 (.v 0) [])) <|
    .st (.act none (.px (some 3) (.mv (.c (.slice none 0 0))))) <|
    .st (.act none (.px (some 4) (.mv (.c (.bool false))))) .done) K25_8
@[simp] def WB_spec_LabelGraph := @C.wpe _ _ B_spec_LabelGraph.eq_1
def R_spec_LabelGraph : FIR := ⟨B_spec_LabelGraph, 5, [(3, none), (4, none)]⟩
theorem IR_spec_LabelGraph : cfun Try.prog H_spec_LabelGraph Try.f25 = some R_spec_LabelGraph := by kernel_rfl
theorem EN_spec_LabelGraph {args : List Value} {h : Heap} {k : Value → Heap → Prop} (hargs : args.length = 2) (hw : B_spec_LabelGraph.wp Try.prog (retQ [(3, none), (4, none)] k) (env0 args 5) h) : CallE Try.prog fn_spec_LabelGraph args h k := enter Try.func25 rfl IR_spec_LabelGraph hargs hw

def H_spec_l1Bool : Hint := ⟨[(0, false), (2, false)], []⟩
def K189_1 : C := .seq (.pl <| .st (.ext 2 0) <|
    .st (.act none (.px (some 1) (.mv (.c (.int .i64 0))))) .done) (.ret)
@[simp] def W189_1 := @C.wpe _ _ K189_1.eq_1
def K189_2 : C := .seq (.pl <| .st (.ext 2 0) <|
    .st (.act none (.px (some 1) (.mv (.c (.int .i64 1))))) .done) (.ret)
@[simp] def W189_2 := @C.wpe _ _ K189_2.eq_1
def K189_3 : C := .cond 2 (.v 2) K189_2 (.skip)
@[simp] def W189_3 := @C.wpe _ _ K189_3.eq_1
def K189_4 : C := .seq (.seq (.pl <| .st (.ext 2 1) <|
    .st (.act none (.px (some 2) (.mv (.v 0)))) .done) K189_3) K189_1
@[simp] def W189_4 := @C.wpe _ _ K189_4.eq_1
def B_spec_l1Bool : C := .seq (.pl <| .st (.ext 2 0) <|
    .st (.act none (.px (some 1) (.mv (.c (.int .i64 0))))) .done) K189_4
@[simp] def WB_spec_l1Bool := @C.wpe _ _ B_spec_l1Bool.eq_1
def R_spec_l1Bool : FIR := ⟨B_spec_l1Bool, 2, [(1, none)]⟩
theorem IR_spec_l1Bool : cfun Try.prog H_spec_l1Bool Try.f189 = some R_spec_l1Bool := by kernel_rfl
theorem EN_spec_l1Bool {args : List Value} {h : Heap} {k : Value → Heap → Prop} (hargs : args.length = 1) (hw : B_spec_l1Bool.wp Try.prog (retQ [(1, none)] k) (env0 args 2) h) : CallE Try.prog fn_spec_l1Bool args h k := enter Try.func189 rfl IR_spec_l1Bool hargs hw

def H_spec_l1Eval : Hint := ⟨[(0, false), (1, false), (2, true), (4, false), (5, false), (6, false), (8, false), (43, false)], []⟩
def K160_1 : C := .seq (.pl <| .st (.ext 8 6) <|
    .st (.act none (.px (some 8) (.mv (.v 4)))) <|
    .st (.act none (.px (some 9) (.mv (.v 5)))) <|
    .st (.act none (.px (some 10) (.bin .sub (.v 8) (.v 9)))) <|
    .st (.act none (.px (some 11) (.bin .add (.v 10) (.c (.int .i64 3))))) <|
    .st (.act none (.px (some 12) (.bin .add (.v 11) (.c (.int .i64 1))))) <|
    .st (.act none (.px (some 13) (.bin .rem (.v 12) (.c (.int .i64 4))))) <|
    .st (.act none (.px (some 3) (.mv (.v 13)))) .done) (.ret)
@[simp] def W160_1 := @C.wpe _ _ K160_1.eq_1
def K160_2 : Pl := .st (.act none (.px (some 3) (.mv (.v 14)))) .done
@[simp] def W160_2 := @Pl.wpe _ _ K160_2.eq_1
def K160_3 : C := .seq (.pl <| .st (.ext 8 7) <|
    .st (.act none (.px (some 8) (.mv (.v 4)))) <|
    .st (.act none (.px (some 9) (.bin .neq (.v 8) (.c (.int .i64 0))))) <|
    .st (.act none (.px (some 10) (.mv (.v 9)))) <|
    .st (.act (some (.v 10, true)) (.px (some 11) (.mv (.v 5)))) <|
    .st (.act (some (.v 10, true)) (.px (some 12) (.bin .neq (.v 11) (.c (.int .i64 0))))) <|
    .st (.act none (.px (some 13) (.pick (.v 10) (.v 12) (.c (.bool false))))) <|
    .st (.act none (.ex (some 14) (.call fn_spec_l1Bool [.v 13]))) K160_2) (.ret)
@[simp] def W160_3 := @C.wpe _ _ K160_3.eq_1
def K160_4 : Pl := .st (.act none (.px (some 3) (.mv (.v 14)))) .done
@[simp] def W160_4 := @Pl.wpe _ _ K160_4.eq_1
def K160_5 : C := .seq (.pl <| .st (.ext 8 7) <|
    .st (.act none (.px (some 8) (.mv (.v 4)))) <|
    .st (.act none (.px (some 9) (.bin .neq (.v 8) (.c (.int .i64 0))))) <|
    .st (.act none (.px (some 10) (.mv (.v 9)))) <|
    .st (.act (some (.v 10, false)) (.px (some 11) (.mv (.v 5)))) <|
    .st (.act (some (.v 10, false)) (.px (some 12) (.bin .neq (.v 11) (.c (.int .i64 0))))) <|
    .st (.act none (.px (some 13) (.pick (.v 10) (.c (.bool true)) (.v 12)))) <|
    .st (.act none (.ex (some 14) (.call fn_spec_l1Bool [.v 13]))) K160_4) (.ret)
@[simp] def W160_5 := @C.wpe _ _ K160_5.eq_1
def K160_6 : Pl := .st (.act none (.px (some 3) (.mv (.v 11)))) .done
@[simp] def W160_6 := @Pl.wpe _ _ K160_6.eq_1
def K160_7 : C := .seq (.pl <| .st (.ext 8 4) <|
    .st (.act none (.px (some 8) (.mv (.v 4)))) <|
    .st (.act none (.px (some 9) (.mv (.v 5)))) <|
    .st (.act none (.px (some 10) (.bin .eql (.v 8) (.v 9)))) <|
    .st (.act none (.ex (some 11) (.call fn_spec_l1Bool [.v 10]))) K160_6) (.ret)
@[simp] def W160_7 := @C.wpe _ _ K160_7.eq_1
def K160_8 : Pl := .st (.act none (.px (some 3) (.mv (.v 11)))) .done
@[simp] def W160_8 := @Pl.wpe _ _ K160_8.eq_1
def K160_9 : C := .seq (.pl <| .st (.ext 8 4) <|
    .st (.act none (.px (some 8) (.mv (.v 4)))) <|
    .st (.act none (.px (some 9) (.mv (.v 5)))) <|
    .st (.act none (.px (some 10) (.bin .lss (.v 8) (.v 9)))) <|
    .st (.act none (.ex (some 11) (.call fn_spec_l1Bool [.v 10]))) K160_8) (.ret)
@[simp] def W160_9 := @C.wpe _ _ K160_9.eq_1
def K160_10 : C := .seq (.pl <| .st (.ext 8 4) <|
    .st (.act none (.px (some 8) (.mv (.v 4)))) <|
    .st (.act none (.px (some 9) (.mv (.v 5)))) <|
    .st (.act none (.px (some 10) (.bin .add (.v 8) (.v 9)))) <|
    .st (.act none (.px (some 11) (.bin .rem (.v 10) (.c (.int .i64 4))))) <|
    .st (.act none (.px (some 3) (.mv (.v 11)))) .done) (.ret)
@[simp] def W160_10 := @C.wpe _ _ K160_10.eq_1
def K160_11 : C := .cond 8 (.v 9) K160_10 (.skip)
@[simp] def W160_11 := @C.wpe _ _ K160_11.eq_1
def K160_12 : C := .seq (.pl <| .st (.ext 8 2) <|
    .st (.act none (.px (some 8) (.bin .eql (.v 7) (.c (.int .i64 8))))) <|
    .st (.act none (.px (some 9) (.mv (.v 8)))) .done) K160_11
@[simp] def W160_12 := @C.wpe _ _ K160_12.eq_1
def K160_13 : C := .cond 8 (.v 9) K160_9 K160_12
@[simp] def W160_13 := @C.wpe _ _ K160_13.eq_1
def K160_14 : C := .seq (.pl <| .st (.ext 8 2) <|
    .st (.act none (.px (some 8) (.bin .eql (.v 7) (.c (.int .i64 7))))) <|
    .st (.act none (.px (some 9) (.mv (.v 8)))) .done) K160_13
@[simp] def W160_14 := @C.wpe _ _ K160_14.eq_1
def K160_15 : C := .cond 8 (.v 9) K160_7 K160_14
@[simp] def W160_15 := @C.wpe _ _ K160_15.eq_1
def K160_16 : C := .seq (.pl <| .st (.ext 8 2) <|
    .st (.act none (.px (some 8) (.bin .eql (.v 7) (.c (.int .i64 6))))) <|
    .st (.act none (.px (some 9) (.mv (.v 8)))) .done) K160_15
@[simp] def W160_16 := @C.wpe _ _ K160_16.eq_1
def K160_17 : C := .cond 8 (.v 9) K160_5 K160_16
@[simp] def W160_17 := @C.wpe _ _ K160_17.eq_1
def K160_18 : C := .seq (.pl <| .st (.ext 8 2) <|
    .st (.act none (.px (some 8) (.bin .eql (.v 7) (.c (.int .i64 5))))) <|
    .st (.act none (.px (some 9) (.mv (.v 8)))) .done) K160_17
@[simp] def W160_18 := @C.wpe _ _ K160_18.eq_1
def K160_19 : C := .cond 8 (.v 9) K160_3 K160_18
@[simp] def W160_19 := @C.wpe _ _ K160_19.eq_1
def K160_20 : C := .block 1 (.seq (.pl <| .st (.ext 8 2) <|
    .st (.act none (.px (some 8) (.bin .eql (.v 7) (.c (.int .i64 4))))) <|
    .st (.act none (.px (some 9) (.mv (.v 8)))) .done) K160_19)
@[simp] def W160_20 := @C.wpe _ _ K160_20.eq_1
def K160_21 : C := .seq (.seq (.pl <| .st (.ext 8 1) <|
    .st (.act none (.als 8 none 2)) <|
    .st (.act none (.pget (some 7) (some 8) 2 0 none)) .done) K160_20) K160_1
@[simp] def W160_21 := @C.wpe _ _ K160_21.eq_1
def K160_22 : Pl := .st (.act none (.px (some 5) (.mv (.v 13)))) .done
@[simp] def W160_22 := @Pl.wpe _ _ K160_22.eq_1
def K160_23 : C := .seq (.pl <| .st (.ext 8 6) <|
    .st (.act none (.als 8 none 2)) <|
    .st (.act none (.pget (some 9) (some 8) 2 2 none)) <|
    .st (.act none (.px (some 10) (.ia 3 (.v 9) (.c (.int .i64 1))))) <|
    .st (.act none (.ld (some 11) (.v 10) (some 3))) <|
    .st (.act none (.px (some 12) (.mv (.v 1)))) <|
    .st (.act none (.ex (some 13) (.call fn_spec_l1Eval [.v 11, .v 12]))) K160_22) K160_21
@[simp] def W160_23 := @C.wpe _ _ K160_23.eq_1
def K160_24 : Pl := .st (.act none (.px (some 4) (.mv (.v 13)))) .done
@[simp] def W160_24 := @Pl.wpe _ _ K160_24.eq_1
def K160_25 : C := .seq (.pl <| .st (.ext 8 6) <|
    .st (.act none (.als 8 none 2)) <|
    .st (.act none (.pget (some 9) (some 8) 2 2 none)) <|
    .st (.act none (.px (some 10) (.ia 3 (.v 9) (.c (.int .i64 0))))) <|
    .st (.act none (.ld (some 11) (.v 10) (some 3))) <|
    .st (.act none (.px (some 12) (.mv (.v 1)))) <|
    .st (.act none (.ex (some 13) (.call fn_spec_l1Eval [.v 11, .v 12]))) K160_24) K160_23
@[simp] def W160_25 := @C.wpe _ _ K160_25.eq_1
def K160_26 : C := .seq (.pl <| .st (.ext 8 2) <|
    .st (.act none (.als 8 none 2)) <|
    .st (.act none (.pget (some 9) (some 8) 2 1 none)) <|
    .st (.act none (.px (some 3) (.mv (.v 9)))) .done) (.ret)
@[simp] def W160_26 := @C.wpe _ _ K160_26.eq_1
def K160_27 : C := .seq (.pl <| .st (.ext 8 5) <|
    .st (.act none (.px (some 8) (.mv (.v 1)))) <|
    .st (.act none (.als 9 none 2)) <|
    .st (.act none (.pget (some 10) (some 9) 2 1 none)) <|
    .st (.act none (.px (some 11) (.ia 1 (.v 8) (.v 10)))) <|
    .st (.act none (.ld (some 12) (.v 11) none)) <|
    .st (.act none (.px (some 3) (.mv (.v 12)))) .done) (.ret)
@[simp] def W160_27 := @C.wpe _ _ K160_27.eq_1
def K160_28 : Pl := .st (.act none (.px (some 3) (.mv (.v 15)))) .done
@[simp] def W160_28 := @Pl.wpe _ _ K160_28.eq_1
def K160_29 : Pl := .st (.act none (.px (some 14) (.bin .eql (.v 13) (.c (.int .i64 0))))) <|
    .st (.act none (.ex (some 15) (.call fn_spec_l1Bool [.v 14]))) K160_28
@[simp] def W160_29 := @Pl.wpe _ _ K160_29.eq_1
def K160_30 : C := .seq (.pl <| .st (.ext 8 8) <|
    .st (.act none (.als 8 none 2)) <|
    .st (.act none (.pget (some 9) (some 8) 2 2 none)) <|
    .st (.act none (.px (some 10) (.ia 3 (.v 9) (.c (.int .i64 0))))) <|
    .st (.act none (.ld (some 11) (.v 10) (some 3))) <|
    .st (.act none (.px (some 12) (.mv (.v 1)))) <|
    .st (.act none (.ex (some 13) (.call fn_spec_l1Eval [.v 11, .v 12]))) K160_29) (.ret)
@[simp] def W160_30 := @C.wpe _ _ K160_30.eq_1
def K160_31 : C := .cond 8 (.v 9) K160_30 (.skip)
@[simp] def W160_31 := @C.wpe _ _ K160_31.eq_1
def K160_32 : C := .seq (.pl <| .st (.ext 8 2) <|
    .st (.act none (.px (some 8) (.bin .eql (.v 6) (.c (.int .i64 3))))) <|
    .st (.act none (.px (some 9) (.mv (.v 8)))) .done) K160_31
@[simp] def W160_32 := @C.wpe _ _ K160_32.eq_1
def K160_33 : C := .cond 8 (.v 9) K160_27 K160_32
@[simp] def W160_33 := @C.wpe _ _ K160_33.eq_1
def K160_34 : C := .seq (.pl <| .st (.ext 8 2) <|
    .st (.act none (.px (some 8) (.bin .eql (.v 6) (.c (.int .i64 2))))) <|
    .st (.act none (.px (some 9) (.mv (.v 8)))) .done) K160_33
@[simp] def W160_34 := @C.wpe _ _ K160_34.eq_1
def K160_35 : C := .cond 8 (.v 9) K160_26 K160_34
@[simp] def W160_35 := @C.wpe _ _ K160_35.eq_1
def K160_36 : C := .block 0 (.seq (.pl <| .st (.ext 8 2) <|
    .st (.act none (.px (some 8) (.bin .eql (.v 6) (.c (.int .i64 1))))) <|
    .st (.act none (.px (some 9) (.mv (.v 8)))) .done) K160_35)
@[simp] def W160_36 := @C.wpe _ _ K160_36.eq_1
def K160_37 : C := .seq (.seq (.pl <| .st (.ext 8 1) <|
    .st (.act none (.als 8 none 2)) <|
    .st (.act none (.pget (some 6) (some 8) 2 0 none)) .done) K160_36) K160_25
@[simp] def W160_37 := @C.wpe _ _ K160_37.eq_1
def B_spec_l1Eval : C := .seq (.pl <| .st (.ext 8 0) <|
    .st (.act none (.pnew 2 (.v 0) [])) <|
    .st (.act none (.px (some 3) (.mv (.c (.int .i64 0))))) .done) K160_37
@[simp] def WB_spec_l1Eval := @C.wpe _ _ B_spec_l1Eval.eq_1
def R_spec_l1Eval : FIR := ⟨B_spec_l1Eval, 8, [(3, none)]⟩
theorem IR_spec_l1Eval : cfun Try.prog H_spec_l1Eval Try.f160 = some R_spec_l1Eval := by kernel_rfl
theorem EN_spec_l1Eval {args : List Value} {h : Heap} {k : Value → Heap → Prop} (hargs : args.length = 2) (hw : B_spec_l1Eval.wp Try.prog (retQ [(3, none)] k) (env0 args 8) h) : CallE Try.prog fn_spec_l1Eval args h k := enter Try.func160 rfl IR_spec_l1Eval hargs hw

def H_spec_l4In : Hint := ⟨[(0, false), (1, false), (4, false), (5, false)], [[2]]⟩
def K123_1 : C := .seq (.pl <| .st (.ext 4 0) <|
    .st (.act none (.px (some 2) (.mv (.c (.bool false))))) .done) (.ret)
@[simp] def W123_1 := @C.wpe _ _ K123_1.eq_1
def K123_2 : C := .pl <| .st (.ext 4 2) <|
    .st (.act none (.px (some 4) (.mv (.v 3)))) <|
    .st (.act none (.px (some 5) (.bin .add (.v 4) (.c (.int .i64 1))))) <|
    .st (.act none (.px (some 3) (.mv (.v 5)))) .done
@[simp] def W123_2 := @C.wpe _ _ K123_2.eq_1
def K123_3 : C := .seq (.pl <| .st (.ext 4 0) <|
    .st (.act none (.px (some 2) (.mv (.c (.bool true))))) .done) (.ret)
@[simp] def W123_3 := @C.wpe _ _ K123_3.eq_1
def K123_4 : C := .cond 4 (.v 9) K123_3 (.skip)
@[simp] def W123_4 := @C.wpe _ _ K123_4.eq_1
def K123_5 : C := .seq (.block 1 (.seq (.pl <| .st (.ext 4 6) <|
    .st (.act none (.px (some 4) (.mv (.v 0)))) <|
    .st (.act none (.px (some 5) (.mv (.v 3)))) <|
    .st (.act none (.px (some 6) (.ia 1 (.v 4) (.v 5)))) <|
    .st (.act none (.ld (some 7) (.v 6) none)) <|
    .st (.act none (.px (some 8) (.mv (.v 1)))) <|
    .st (.act none (.px (some 9) (.bin .eql (.v 7) (.v 8)))) .done) K123_4)) K123_2
@[simp] def W123_5 := @C.wpe _ _ K123_5.eq_1
def K123_6 : C := .cond 4 (.v 7) (.skip) (.exit 0)
@[simp] def W123_6 := @C.wpe _ _ K123_6.eq_1
def K123_7 : C := .seq (.seq (.pl <| .st (.ext 4 4) <|
    .st (.act none (.px (some 4) (.mv (.v 3)))) <|
    .st (.act none (.px (some 5) (.mv (.v 0)))) <|
    .st (.act none (.px (some 6) (.lenV (.v 5)))) <|
    .st (.act none (.px (some 7) (.bin .lss (.v 4) (.v 6)))) .done) K123_6) K123_5
@[simp] def W123_7 := @C.wpe _ _ K123_7.eq_1
def K123_8 : C := .block 0 (.loop 4 [2] K123_7)
@[simp] def W123_8 := @C.wpe _ _ K123_8.eq_1
def K123_9 : C := .seq (.seq (.pl <| .st (.ext 4 0) <|
    .st (.act none (.px (some 3) (.mv (.c (.int .i64 0))))) .done) K123_8) K123_1
@[simp] def W123_9 := @C.wpe _ _ K123_9.eq_1
def B_spec_l4In : C := .seq (.pl <| .st (.ext 4 0) <|
    .st (.act none (.px (some 2) (.mv (.c (.bool false))))) .done) K123_9
@[simp] def WB_spec_l4In := @C.wpe _ _ B_spec_l4In.eq_1
def R_spec_l4In : FIR := ⟨B_spec_l4In, 4, [(2, none)]⟩
theorem IR_spec_l4In : cfun Try.prog H_spec_l4In Try.f123 = some R_spec_l4In := by kernel_rfl
theorem EN_spec_l4In {args : List Value} {h : Heap} {k : Value → Heap → Prop} (hargs : args.length = 2) (hw : B_spec_l4In.wp Try.prog (retQ [(2, none)] k) (env0 args 4) h) : CallE Try.prog fn_spec_l4In args h k := enter Try.func123 rfl IR_spec_l4In hargs hw

def H_spec_l8Letter : Hint := ⟨[(0, false), (1, false), (2, true), (4, false), (5, false), (6, false)], [[0, 3]]⟩
def K124_1 : C := .seq (.pl <| .st (.ext 6 1) <|
    .st (.act none (.px (some 6) (.mv (.v 4)))) <|
    .st (.act none (.px (some 3) (.mv (.v 6)))) .done) (.ret)
@[simp] def W124_1 := @C.wpe _ _ K124_1.eq_1
def K124_2 : C := .pl <| .st (.ext 6 2) <|
    .st (.act none (.px (some 6) (.mv (.v 5)))) <|
    .st (.act none (.px (some 7) (.bin .add (.v 6) (.c (.int .i64 1))))) <|
    .st (.act none (.px (some 5) (.mv (.v 7)))) .done
@[simp] def W124_2 := @C.wpe _ _ K124_2.eq_1
def K124_3 : C := .pl <| .st (.ext 6 5) <|
    .st (.act none (.px (some 6) (.mv (.v 4)))) <|
    .st (.act none (.px (some 7) (.mv (.v 5)))) <|
    .st (.act none (.px (some 8) (.conv .u64 (.v 7)))) <|
    .st (.act none (.px (some 9) (.bin .shl (.c (.int .i64 1)) (.v 8)))) <|
    .st (.act none (.px (some 10) (.bin .or (.v 6) (.v 9)))) <|
    .st (.act none (.px (some 4) (.mv (.v 10)))) .done
@[simp] def W124_3 := @C.wpe _ _ K124_3.eq_1
def K124_4 : C := .cond 6 (.v 13) K124_3 (.skip)
@[simp] def W124_4 := @C.wpe _ _ K124_4.eq_1
def K124_5 : Pl := .st (.act none (.px (some 13) (.bin .neq (.v 12) (.c (.int .i64 0))))) .done
@[simp] def W124_5 := @Pl.wpe _ _ K124_5.eq_1
def K124_6 : C := .seq (.block 1 (.seq (.pl <| .st (.ext 6 8) <|
    .st (.act none (.px (some 6) (.mv (.v 1)))) <|
    .st (.act none (.px (some 7) (.mv (.v 5)))) <|
    .st (.act none (.px (some 8) (.ia 3 (.v 6) (.v 7)))) <|
    .st (.act none (.ld (some 9) (.v 8) (some 3))) <|
    .st (.act none (.als 10 none 2)) <|
    .st (.act none (.pget (some 11) (some 10) 2 1 none)) <|
    .st (.act none (.ex (some 12) (.call fn_spec_l1Eval [.v 9, .v 11]))) K124_5) K124_4)) K124_2
@[simp] def W124_6 := @C.wpe _ _ K124_6.eq_1
def K124_7 : C := .cond 6 (.v 9) (.skip) (.exit 0)
@[simp] def W124_7 := @C.wpe _ _ K124_7.eq_1
def K124_8 : C := .seq (.seq (.pl <| .st (.ext 6 4) <|
    .st (.act none (.px (some 6) (.mv (.v 5)))) <|
    .st (.act none (.px (some 7) (.mv (.v 1)))) <|
    .st (.act none (.px (some 8) (.lenV (.v 7)))) <|
    .st (.act none (.px (some 9) (.bin .lss (.v 6) (.v 8)))) .done) K124_7) K124_6
@[simp] def W124_8 := @C.wpe _ _ K124_8.eq_1
def K124_9 : C := .block 0 (.loop 6 [0, 3] K124_8)
@[simp] def W124_9 := @C.wpe _ _ K124_9.eq_1
def K124_10 : C := .seq (.seq (.pl <| .st (.ext 6 0) <|
    .st (.act none (.px (some 5) (.mv (.c (.int .i64 0))))) .done) K124_9) K124_1
@[simp] def W124_10 := @C.wpe _ _ K124_10.eq_1
def K124_11 : C := .seq (.pl <| .st (.ext 6 0) <|
    .st (.act none (.px (some 4) (.mv (.c (.int .i64 0))))) .done) K124_10
@[simp] def W124_11 := @C.wpe _ _ K124_11.eq_1
def B_spec_l8Letter : C := .seq (.pl <| .st (.ext 6 0) <|
    .st (.act none (.pnew 2 (.v 0) [])) <|
    .st (.act none (.px (some 3) (.mv (.c (.int .i64 0))))) .done) K124_11
@[simp] def WB_spec_l8Letter := @C.wpe _ _ B_spec_l8Letter.eq_1
def R_spec_l8Letter : FIR := ⟨B_spec_l8Letter, 6, [(3, none)]⟩
theorem IR_spec_l8Letter : cfun Try.prog H_spec_l8Letter Try.f124 = some R_spec_l8Letter := by kernel_rfl
theorem EN_spec_l8Letter {args : List Value} {h : Heap} {k : Value → Heap → Prop} (hargs : args.length = 2) (hw : B_spec_l8Letter.wp Try.prog (retQ [(3, none)] k) (env0 args 6) h) : CallE Try.prog fn_spec_l8Letter args h k := enter Try.func124 rfl IR_spec_l8Letter hargs hw

def H_spec_l8Letters : Hint := ⟨[(0, false), (1, false), (2, true), (4, false), (5, false), (6, false)], [[0, 3]]⟩
def K74_1 : C := .seq (.pl <| .st (.ext 6 1) <|
    .st (.act none (.px (some 6) (.mv (.v 4)))) <|
    .st (.act none (.px (some 3) (.mv (.v 6)))) .done) (.ret)
@[simp] def W74_1 := @C.wpe _ _ K74_1.eq_1
def K74_2 : C := .pl <| .st (.ext 6 2) <|
    .st (.act none (.px (some 6) (.mv (.v 5)))) <|
    .st (.act none (.px (some 7) (.bin .add (.v 6) (.c (.int .i64 1))))) <|
    .st (.act none (.px (some 5) (.mv (.v 7)))) .done
@[simp] def W74_2 := @C.wpe _ _ K74_2.eq_1
def K74_3 : Pl := .st (.act none (.px (some 4) (.mv (.v 15)))) .done
@[simp] def W74_3 := @Pl.wpe _ _ K74_3.eq_1
def K74_4 : Pl := .st (.act none (.psl 14 [.int .i64 0] [(0, 1, .v 13)])) <|
    .st (.act none (.ex (some 15) (.app 8 1 [.int .i64 0] (.o (.v 6)) (.p 1 14)))) K74_3
@[simp] def W74_4 := @Pl.wpe _ _ K74_4.eq_1
def K74_5 : C := .seq (.block 1 (.pl <| .st (.ext 6 10) <|
    .st (.act none (.px (some 6) (.mv (.v 4)))) <|
    .st (.act none (.als 7 none 2)) <|
    .st (.act none (.pget (some 8) (some 7) 2 0 none)) <|
    .st (.act none (.px (some 9) (.mv (.v 5)))) <|
    .st (.act none (.px (some 10) (.ia 2 (.v 8) (.v 9)))) <|
    .st (.act none (.ld (some 11) (.v 10) (some 2))) <|
    .st (.act none (.px (some 12) (.mv (.v 1)))) <|
    .st (.act none (.ex (some 13) (.call fn_spec_l8Letter [.v 11, .v 12]))) K74_4)) K74_2
@[simp] def W74_5 := @C.wpe _ _ K74_5.eq_1
def K74_6 : C := .cond 6 (.v 10) (.skip) (.exit 0)
@[simp] def W74_6 := @C.wpe _ _ K74_6.eq_1
def K74_7 : C := .seq (.seq (.pl <| .st (.ext 6 5) <|
    .st (.act none (.px (some 6) (.mv (.v 5)))) <|
    .st (.act none (.als 7 none 2)) <|
    .st (.act none (.pget (some 8) (some 7) 2 0 none)) <|
    .st (.act none (.px (some 9) (.lenV (.v 8)))) <|
    .st (.act none (.px (some 10) (.bin .lss (.v 6) (.v 9)))) .done) K74_6) K74_5
@[simp] def W74_7 := @C.wpe _ _ K74_7.eq_1
def K74_8 : C := .block 0 (.loop 6 [0, 3] K74_7)
@[simp] def W74_8 := @C.wpe _ _ K74_8.eq_1
def K74_9 : C := .seq (.seq (.pl <| .st (.ext 6 0) <|
    .st (.act none (.px (some 5) (.mv (.c (.int .i64 0))))) .done) K74_8) K74_1
@[simp] def W74_9 := @C.wpe _ _ K74_9.eq_1
def K74_10 : Pl := .st (.act none (.px (some 4) (.mv (.v 6)))) .done
@[simp] def W74_10 := @Pl.wpe _ _ K74_10.eq_1
def K74_11 : C := .seq (.pl <| .st (.ext 6 1) <|
    .st (.act none (.ex (some 6) (.bls 1 0 [.int .i64 0] []))) K74_10) K74_9
@[simp] def W74_11 := @C.wpe _ _ K74_11.eq_1
def B_spec_l8Letters : C := .seq (.pl <| .st (.ext 6 0) <|
    .st (.act none (.pnew 2 (.v 0) [])) <|
    .st (.act none (.px (some 3) (.mv (.c (.slice none 0 0))))) .done) K74_11
@[simp] def WB_spec_l8Letters := @C.wpe _ _ B_spec_l8Letters.eq_1
def R_spec_l8Letters : FIR := ⟨B_spec_l8Letters, 6, [(3, none)]⟩
theorem IR_spec_l8Letters : cfun Try.prog H_spec_l8Letters Try.f74 = some R_spec_l8Letters := by kernel_rfl
theorem EN_spec_l8Letters {args : List Value} {h : Heap} {k : Value → Heap → Prop} (hargs : args.length = 2) (hw : B_spec_l8Letters.wp Try.prog (retQ [(3, none)] k) (env0 args 6) h) : CallE Try.prog fn_spec_l8Letters args h k := enter Try.func74 rfl IR_spec_l8Letters hargs hw


end Go.Proofs.Ythgimpheeemooaa
