/-
  Texts of this proof, one behind the other.
-/
import Derived.Test.YthgimpheeemooaaM3
/-
  Bodies of functions in the small language, as a program printed them, and that each is what the translation gives.
-/
namespace Go.Proofs.Ythgimpheeemooaa
open Go
set_option linter.all false
set_option linter.defProp false
set_option maxRecDepth 1000000

def H_impl_ApplyStep : Hint := ⟨[(0, false), (1, false), (2, false), (3, true), (4, true), (5, true), (6, true), (7, false)], []⟩
def K45_1 : Pl := .st (.act none (.pset none 6 0 2 (.v 11))) <|
    .st (.act none (.px (some 7) (.mv (.c (.bool true))))) .done
@[simp] def W45_1 := @Pl.wpe _ _ K45_1.eq_1
def K45_2 : C := .seq (.pl <| .st (.ext 8 4) <|
    .st (.act none (.pget (some 8) none 3 0 (some 2))) <|
    .st (.act none (.pget (some 9) none 4 0 (some 2))) <|
    .st (.act none (.pget (some 10) none 5 0 (some 4))) <|
    .st (.act none (.ex (some 11) (.call fn_impl_System_after [.v 8, .v 9, .v 10]))) K45_1) (.ret)
@[simp] def W45_2 := @C.wpe _ _ K45_2.eq_1
def K45_3 : C := .seq (.pl <| .st (.ext 8 1) <|
    .st (.act none (.px (some 8) (.build [.slice none 0 0, .slice none 0 0] []))) <|
    .st (.act none (.pset none 6 0 2 (.v 8))) <|
    .st (.act none (.px (some 7) (.mv (.c (.bool false))))) .done) (.ret)
@[simp] def W45_3 := @C.wpe _ _ K45_3.eq_1
def K45_4 : C := .cond 8 (.v 13) K45_3 (.skip)
@[simp] def W45_4 := @C.wpe _ _ K45_4.eq_1
def K45_5 : Pl := .st (.act none (.px (some 13) (.un .not (.v 12)))) .done
@[simp] def W45_5 := @Pl.wpe _ _ K45_5.eq_1
def K45_6 : Pl := .st (.act none (.ex (some 12) (.call fn_slices_Contains_S_impl_Step_impl_Step [.v 10, .v 11]))) K45_5
@[simp] def W45_6 := @Pl.wpe _ _ K45_6.eq_1
def K45_7 : C := .seq (.seq (.pl <| .st (.ext 8 6) <|
    .st (.act none (.pget (some 8) none 3 0 (some 2))) <|
    .st (.act none (.pget (some 9) none 4 0 (some 2))) <|
    .st (.act none (.pget (some 11) none 5 0 (some 4))) <|
    .st (.act none (.ex (some 10) (.call fn_impl_EnabledSteps [.v 8, .v 9]))) K45_6) K45_4) K45_2
@[simp] def W45_7 := @C.wpe _ _ K45_7.eq_1
def B_impl_ApplyStep : C := .seq (.pl <| .st (.ext 8 0) <|
    .st (.act none (.pnew 3 (.v 0) [])) <|
    .st (.act none (.pnew 4 (.v 1) [])) <|
    .st (.act none (.pnew 5 (.v 2) [])) <|
    .st (.act none (.pnew 6 (.c (.agg #[.slice none 0 0, .slice none 0 0])) [])) <|
    .st (.act none (.px (some 7) (.mv (.c (.bool false))))) .done) K45_7
@[simp] def WB_impl_ApplyStep := @C.wpe _ _ B_impl_ApplyStep.eq_1
def R_impl_ApplyStep : FIR := ⟨B_impl_ApplyStep, 8, [(6, some (some 2)), (7, none)]⟩
theorem IR_impl_ApplyStep : cfun Try.prog H_impl_ApplyStep Try.f45 = some R_impl_ApplyStep := by kernel_rfl
theorem EN_impl_ApplyStep {args : List Value} {h : Heap} {k : Value → Heap → Prop} (hargs : args.length = 3) (hw : B_impl_ApplyStep.wp Try.prog (retQ [(6, some (some 2)), (7, none)] k) (env0 args 8) h) : CallE Try.prog fn_impl_ApplyStep args h k := enter Try.func45 rfl IR_impl_ApplyStep hargs hw

def H_impl_EnabledSteps : Hint := ⟨[(0, false), (1, false), (2, true), (3, true), (4, false)], []⟩
def K92_1 : Pl := .st (.act none (.px (some 4) (.mv (.v 7)))) .done
@[simp] def W92_1 := @Pl.wpe _ _ K92_1.eq_1
def K92_2 : C := .seq (.pl <| .st (.ext 5 3) <|
    .st (.act none (.pget (some 5) none 2 0 (some 2))) <|
    .st (.act none (.pget (some 6) none 3 0 (some 2))) <|
    .st (.act none (.ex (some 7) (.call fn_impl_System_enabled [.v 5, .v 6]))) K92_1) (.ret)
@[simp] def W92_2 := @C.wpe _ _ K92_2.eq_1
def K92_3 : C := .seq (.pl <| .st (.ext 5 0) <|
    .st (.act none (.px (some 4) (.mv (.c (.slice none 0 0))))) .done) (.ret)
@[simp] def W92_3 := @C.wpe _ _ K92_3.eq_1
def K92_4 : C := .cond 5 (.v 8) K92_3 (.skip)
@[simp] def W92_4 := @C.wpe _ _ K92_4.eq_1
def K92_5 : Pl := .st (.act none (.px (some 8) (.un .not (.v 7)))) .done
@[simp] def W92_5 := @Pl.wpe _ _ K92_5.eq_1
def K92_6 : C := .seq (.seq (.pl <| .st (.ext 5 4) <|
    .st (.act none (.pget (some 5) none 2 0 (some 2))) <|
    .st (.act none (.pget (some 6) none 3 0 (some 2))) <|
    .st (.act none (.ex (some 7) (.call fn_impl_StateValid [.v 5, .v 6]))) K92_5) K92_4) K92_2
@[simp] def W92_6 := @C.wpe _ _ K92_6.eq_1
def B_impl_EnabledSteps : C := .seq (.pl <| .st (.ext 5 0) <|
    .st (.act none (.pnew 2 (.v 0) [])) <|
    .st (.act none (.pnew 3 (.v 1) [])) <|
    .st (.act none (.px (some 4) (.mv (.c (.slice none 0 0))))) .done) K92_6
@[simp] def WB_impl_EnabledSteps := @C.wpe _ _ B_impl_EnabledSteps.eq_1
def R_impl_EnabledSteps : FIR := ⟨B_impl_EnabledSteps, 5, [(4, none)]⟩
theorem IR_impl_EnabledSteps : cfun Try.prog H_impl_EnabledSteps Try.f92 = some R_impl_EnabledSteps := by kernel_rfl
theorem EN_impl_EnabledSteps {args : List Value} {h : Heap} {k : Value → Heap → Prop} (hargs : args.length = 2) (hw : B_impl_EnabledSteps.wp Try.prog (retQ [(4, none)] k) (env0 args 5) h) : CallE Try.prog fn_impl_EnabledSteps args h k := enter Try.func92 rfl IR_impl_EnabledSteps hargs hw

def H_impl_Expr_eval : Hint := ⟨[(0, false), (1, false), (2, true), (4, false), (5, false), (6, false), (8, false), (39, false)], []⟩
def K164_1 : C := .seq (.pl <| .st (.ext 8 6) <|
    .st (.act none (.px (some 8) (.mv (.v 4)))) <|
    .st (.act none (.px (some 9) (.mv (.v 5)))) <|
    .st (.act none (.px (some 10) (.bin .sub (.v 8) (.v 9)))) <|
    .st (.act none (.px (some 11) (.bin .add (.v 10) (.c (.int .i64 3))))) <|
    .st (.act none (.px (some 12) (.bin .add (.v 11) (.c (.int .i64 1))))) <|
    .st (.act none (.px (some 13) (.bin .rem (.v 12) (.c (.int .i64 4))))) <|
    .st (.act none (.px (some 3) (.mv (.v 13)))) .done) (.ret)
@[simp] def W164_1 := @C.wpe _ _ K164_1.eq_1
def K164_2 : Pl := .st (.act none (.px (some 3) (.mv (.v 14)))) .done
@[simp] def W164_2 := @Pl.wpe _ _ K164_2.eq_1
def K164_3 : C := .seq (.pl <| .st (.ext 8 7) <|
    .st (.act none (.px (some 8) (.mv (.v 4)))) <|
    .st (.act none (.px (some 9) (.bin .neq (.v 8) (.c (.int .i64 0))))) <|
    .st (.act none (.px (some 10) (.mv (.v 9)))) <|
    .st (.act (some (.v 10, true)) (.px (some 11) (.mv (.v 5)))) <|
    .st (.act (some (.v 10, true)) (.px (some 12) (.bin .neq (.v 11) (.c (.int .i64 0))))) <|
    .st (.act none (.px (some 13) (.pick (.v 10) (.v 12) (.c (.bool false))))) <|
    .st (.act none (.ex (some 14) (.call fn_impl_truth [.v 13]))) K164_2) (.ret)
@[simp] def W164_3 := @C.wpe _ _ K164_3.eq_1
def K164_4 : Pl := .st (.act none (.px (some 3) (.mv (.v 14)))) .done
@[simp] def W164_4 := @Pl.wpe _ _ K164_4.eq_1
def K164_5 : C := .seq (.pl <| .st (.ext 8 7) <|
    .st (.act none (.px (some 8) (.mv (.v 4)))) <|
    .st (.act none (.px (some 9) (.bin .neq (.v 8) (.c (.int .i64 0))))) <|
    .st (.act none (.px (some 10) (.mv (.v 9)))) <|
    .st (.act (some (.v 10, false)) (.px (some 11) (.mv (.v 5)))) <|
    .st (.act (some (.v 10, false)) (.px (some 12) (.bin .neq (.v 11) (.c (.int .i64 0))))) <|
    .st (.act none (.px (some 13) (.pick (.v 10) (.c (.bool true)) (.v 12)))) <|
    .st (.act none (.ex (some 14) (.call fn_impl_truth [.v 13]))) K164_4) (.ret)
@[simp] def W164_5 := @C.wpe _ _ K164_5.eq_1
def K164_6 : Pl := .st (.act none (.px (some 3) (.mv (.v 11)))) .done
@[simp] def W164_6 := @Pl.wpe _ _ K164_6.eq_1
def K164_7 : C := .seq (.pl <| .st (.ext 8 4) <|
    .st (.act none (.px (some 8) (.mv (.v 4)))) <|
    .st (.act none (.px (some 9) (.mv (.v 5)))) <|
    .st (.act none (.px (some 10) (.bin .eql (.v 8) (.v 9)))) <|
    .st (.act none (.ex (some 11) (.call fn_impl_truth [.v 10]))) K164_6) (.ret)
@[simp] def W164_7 := @C.wpe _ _ K164_7.eq_1
def K164_8 : Pl := .st (.act none (.px (some 3) (.mv (.v 11)))) .done
@[simp] def W164_8 := @Pl.wpe _ _ K164_8.eq_1
def K164_9 : C := .seq (.pl <| .st (.ext 8 4) <|
    .st (.act none (.px (some 8) (.mv (.v 4)))) <|
    .st (.act none (.px (some 9) (.mv (.v 5)))) <|
    .st (.act none (.px (some 10) (.bin .lss (.v 8) (.v 9)))) <|
    .st (.act none (.ex (some 11) (.call fn_impl_truth [.v 10]))) K164_8) (.ret)
@[simp] def W164_9 := @C.wpe _ _ K164_9.eq_1
def K164_10 : C := .seq (.pl <| .st (.ext 8 4) <|
    .st (.act none (.px (some 8) (.mv (.v 4)))) <|
    .st (.act none (.px (some 9) (.mv (.v 5)))) <|
    .st (.act none (.px (some 10) (.bin .add (.v 8) (.v 9)))) <|
    .st (.act none (.px (some 11) (.bin .rem (.v 10) (.c (.int .i64 4))))) <|
    .st (.act none (.px (some 3) (.mv (.v 11)))) .done) (.ret)
@[simp] def W164_10 := @C.wpe _ _ K164_10.eq_1
def K164_11 : C := .cond 8 (.v 9) K164_10 (.skip)
@[simp] def W164_11 := @C.wpe _ _ K164_11.eq_1
def K164_12 : C := .seq (.pl <| .st (.ext 8 2) <|
    .st (.act none (.px (some 8) (.bin .eql (.v 7) (.c (.int .i64 8))))) <|
    .st (.act none (.px (some 9) (.mv (.v 8)))) .done) K164_11
@[simp] def W164_12 := @C.wpe _ _ K164_12.eq_1
def K164_13 : C := .cond 8 (.v 9) K164_9 K164_12
@[simp] def W164_13 := @C.wpe _ _ K164_13.eq_1
def K164_14 : C := .seq (.pl <| .st (.ext 8 2) <|
    .st (.act none (.px (some 8) (.bin .eql (.v 7) (.c (.int .i64 7))))) <|
    .st (.act none (.px (some 9) (.mv (.v 8)))) .done) K164_13
@[simp] def W164_14 := @C.wpe _ _ K164_14.eq_1
def K164_15 : C := .cond 8 (.v 9) K164_7 K164_14
@[simp] def W164_15 := @C.wpe _ _ K164_15.eq_1
def K164_16 : C := .seq (.pl <| .st (.ext 8 2) <|
    .st (.act none (.px (some 8) (.bin .eql (.v 7) (.c (.int .i64 6))))) <|
    .st (.act none (.px (some 9) (.mv (.v 8)))) .done) K164_15
@[simp] def W164_16 := @C.wpe _ _ K164_16.eq_1
def K164_17 : C := .cond 8 (.v 9) K164_5 K164_16
@[simp] def W164_17 := @C.wpe _ _ K164_17.eq_1
def K164_18 : C := .seq (.pl <| .st (.ext 8 2) <|
    .st (.act none (.px (some 8) (.bin .eql (.v 7) (.c (.int .i64 5))))) <|
    .st (.act none (.px (some 9) (.mv (.v 8)))) .done) K164_17
@[simp] def W164_18 := @C.wpe _ _ K164_18.eq_1
def K164_19 : C := .cond 8 (.v 9) K164_3 K164_18
@[simp] def W164_19 := @C.wpe _ _ K164_19.eq_1
def K164_20 : C := .block 1 (.seq (.pl <| .st (.ext 8 2) <|
    .st (.act none (.px (some 8) (.bin .eql (.v 7) (.c (.int .i64 4))))) <|
    .st (.act none (.px (some 9) (.mv (.v 8)))) .done) K164_19)
@[simp] def W164_20 := @C.wpe _ _ K164_20.eq_1
def K164_21 : C := .seq (.seq (.pl <| .st (.ext 8 1) <|
    .st (.act none (.als 8 none 2)) <|
    .st (.act none (.pget (some 7) (some 8) 2 0 none)) .done) K164_20) K164_1
@[simp] def W164_21 := @C.wpe _ _ K164_21.eq_1
def K164_22 : Pl := .st (.act none (.px (some 5) (.mv (.v 13)))) .done
@[simp] def W164_22 := @Pl.wpe _ _ K164_22.eq_1
def K164_23 : C := .seq (.pl <| .st (.ext 8 6) <|
    .st (.act none (.als 8 none 2)) <|
    .st (.act none (.pget (some 9) (some 8) 2 2 none)) <|
    .st (.act none (.px (some 10) (.ia 3 (.v 9) (.c (.int .i64 1))))) <|
    .st (.act none (.ld (some 11) (.v 10) (some 3))) <|
    .st (.act none (.px (some 12) (.mv (.v 1)))) <|
    .st (.act none (.ex (some 13) (.call fn_impl_Expr_eval [.v 11, .v 12]))) K164_22) K164_21
@[simp] def W164_23 := @C.wpe _ _ K164_23.eq_1
def K164_24 : Pl := .st (.act none (.px (some 3) (.mv (.v 10)))) .done
@[simp] def W164_24 := @Pl.wpe _ _ K164_24.eq_1
def K164_25 : C := .seq (.pl <| .st (.ext 8 3) <|
    .st (.act none (.px (some 8) (.mv (.v 4)))) <|
    .st (.act none (.px (some 9) (.bin .eql (.v 8) (.c (.int .i64 0))))) <|
    .st (.act none (.ex (some 10) (.call fn_impl_truth [.v 9]))) K164_24) (.ret)
@[simp] def W164_25 := @C.wpe _ _ K164_25.eq_1
def K164_26 : C := .cond 8 (.v 10) K164_25 (.skip)
@[simp] def W164_26 := @C.wpe _ _ K164_26.eq_1
def K164_27 : C := .seq (.seq (.pl <| .st (.ext 8 3) <|
    .st (.act none (.als 8 none 2)) <|
    .st (.act none (.pget (some 9) (some 8) 2 0 none)) <|
    .st (.act none (.px (some 10) (.bin .eql (.v 9) (.c (.int .i64 3))))) .done) K164_26) K164_23
@[simp] def W164_27 := @C.wpe _ _ K164_27.eq_1
def K164_28 : Pl := .st (.act none (.px (some 4) (.mv (.v 13)))) .done
@[simp] def W164_28 := @Pl.wpe _ _ K164_28.eq_1
def K164_29 : C := .seq (.pl <| .st (.ext 8 6) <|
    .st (.act none (.als 8 none 2)) <|
    .st (.act none (.pget (some 9) (some 8) 2 2 none)) <|
    .st (.act none (.px (some 10) (.ia 3 (.v 9) (.c (.int .i64 0))))) <|
    .st (.act none (.ld (some 11) (.v 10) (some 3))) <|
    .st (.act none (.px (some 12) (.mv (.v 1)))) <|
    .st (.act none (.ex (some 13) (.call fn_impl_Expr_eval [.v 11, .v 12]))) K164_28) K164_27
@[simp] def W164_29 := @C.wpe _ _ K164_29.eq_1
def K164_30 : C := .seq (.pl <| .st (.ext 8 2) <|
    .st (.act none (.als 8 none 2)) <|
    .st (.act none (.pget (some 9) (some 8) 2 1 none)) <|
    .st (.act none (.px (some 3) (.mv (.v 9)))) .done) (.ret)
@[simp] def W164_30 := @C.wpe _ _ K164_30.eq_1
def K164_31 : C := .seq (.pl <| .st (.ext 8 5) <|
    .st (.act none (.px (some 8) (.mv (.v 1)))) <|
    .st (.act none (.als 9 none 2)) <|
    .st (.act none (.pget (some 10) (some 9) 2 1 none)) <|
    .st (.act none (.px (some 11) (.ia 1 (.v 8) (.v 10)))) <|
    .st (.act none (.ld (some 12) (.v 11) none)) <|
    .st (.act none (.px (some 3) (.mv (.v 12)))) .done) (.ret)
@[simp] def W164_31 := @C.wpe _ _ K164_31.eq_1
def K164_32 : C := .cond 8 (.v 9) K164_31 (.skip)
@[simp] def W164_32 := @C.wpe _ _ K164_32.eq_1
def K164_33 : C := .seq (.pl <| .st (.ext 8 2) <|
    .st (.act none (.px (some 8) (.bin .eql (.v 6) (.c (.int .i64 2))))) <|
    .st (.act none (.px (some 9) (.mv (.v 8)))) .done) K164_32
@[simp] def W164_33 := @C.wpe _ _ K164_33.eq_1
def K164_34 : C := .cond 8 (.v 9) K164_30 K164_33
@[simp] def W164_34 := @C.wpe _ _ K164_34.eq_1
def K164_35 : C := .block 0 (.seq (.pl <| .st (.ext 8 2) <|
    .st (.act none (.px (some 8) (.bin .eql (.v 6) (.c (.int .i64 1))))) <|
    .st (.act none (.px (some 9) (.mv (.v 8)))) .done) K164_34)
@[simp] def W164_35 := @C.wpe _ _ K164_35.eq_1
def K164_36 : C := .seq (.seq (.pl <| .st (.ext 8 1) <|
    .st (.act none (.als 8 none 2)) <|
    .st (.act none (.pget (some 6) (some 8) 2 0 none)) .done) K164_35) K164_29
@[simp] def W164_36 := @C.wpe _ _ K164_36.eq_1
def B_impl_Expr_eval : C := .seq (.pl <| .st (.ext 8 0) <|
    .st (.act none (.pnew 2 (.v 0) [])) <|
    .st (.act none (.px (some 3) (.mv (.c (.int .i64 0))))) .done) K164_36
@[simp] def WB_impl_Expr_eval := @C.wpe _ _ B_impl_Expr_eval.eq_1
def R_impl_Expr_eval : FIR := ⟨B_impl_Expr_eval, 8, [(3, none)]⟩
theorem IR_impl_Expr_eval : cfun Try.prog H_impl_Expr_eval Try.f164 = some R_impl_Expr_eval := by kernel_rfl
theorem EN_impl_Expr_eval {args : List Value} {h : Heap} {k : Value → Heap → Prop} (hargs : args.length = 2) (hw : B_impl_Expr_eval.wp Try.prog (retQ [(3, none)] k) (env0 args 8) h) : CallE Try.prog fn_impl_Expr_eval args h k := enter Try.func164 rfl IR_impl_Expr_eval hargs hw

def H_impl_StateSame : Hint := ⟨[(0, false), (1, false), (2, true), (3, true), (4, false)], []⟩
def K54_1 : Pl := .st (.act none (.px (some 16) (.pick (.v 10) (.v 15) (.c (.bool false))))) <|
    .st (.act none (.px (some 4) (.mv (.v 16)))) .done
@[simp] def W54_1 := @Pl.wpe _ _ K54_1.eq_1
def K54_2 : Pl := .st (.act none (.px (some 10) (.mv (.v 9)))) <|
    .st (.act (some (.v 10, true)) (.als 11 none 2)) <|
    .st (.act (some (.v 10, true)) (.pget (some 12) (some 11) 2 1 none)) <|
    .st (.act (some (.v 10, true)) (.als 13 none 3)) <|
    .st (.act (some (.v 10, true)) (.pget (some 14) (some 13) 3 1 none)) <|
    .st (.act (some (.v 10, true)) (.ex (some 15) (.call fn_slices_Equal_S_int_int [.v 12, .v 14]))) K54_1
@[simp] def W54_2 := @Pl.wpe _ _ K54_2.eq_1
def K54_3 : C := .seq (.pl <| .st (.ext 5 12) <|
    .st (.act none (.als 5 none 2)) <|
    .st (.act none (.pget (some 6) (some 5) 2 0 none)) <|
    .st (.act none (.als 7 none 3)) <|
    .st (.act none (.pget (some 8) (some 7) 3 0 none)) <|
    .st (.act none (.ex (some 9) (.call fn_slices_Equal_S_int_int [.v 6, .v 8]))) K54_2) (.ret)
@[simp] def W54_3 := @C.wpe _ _ K54_3.eq_1
def B_impl_StateSame : C := .seq (.pl <| .st (.ext 5 0) <|
    .st (.act none (.pnew 2 (.v 0) [])) <|
    .st (.act none (.pnew 3 (.v 1) [])) <|
    .st (.act none (.px (some 4) (.mv (.c (.bool false))))) .done) K54_3
@[simp] def WB_impl_StateSame := @C.wpe _ _ B_impl_StateSame.eq_1
def R_impl_StateSame : FIR := ⟨B_impl_StateSame, 5, [(4, none)]⟩
theorem IR_impl_StateSame : cfun Try.prog H_impl_StateSame Try.f54 = some R_impl_StateSame := by kernel_rfl
theorem EN_impl_StateSame {args : List Value} {h : Heap} {k : Value → Heap → Prop} (hargs : args.length = 2) (hw : B_impl_StateSame.wp Try.prog (retQ [(4, none)] k) (env0 args 5) h) : CallE Try.prog fn_impl_StateSame args h k := enter Try.func54 rfl IR_impl_StateSame hargs hw

def H_impl_StateValid : Hint := ⟨[(0, false), (1, false), (2, true), (3, true), (4, false)], []⟩
def K56_1 : Pl := .st (.act none (.px (some 11) (.pick (.v 7) (.v 10) (.c (.bool false))))) <|
    .st (.act none (.px (some 4) (.mv (.v 11)))) .done
@[simp] def W56_1 := @Pl.wpe _ _ K56_1.eq_1
def K56_2 : Pl := .st (.act none (.px (some 7) (.mv (.v 6)))) <|
    .st (.act (some (.v 7, true)) (.pget (some 8) none 2 0 (some 2))) <|
    .st (.act (some (.v 7, true)) (.pget (some 9) none 3 0 (some 2))) <|
    .st (.act (some (.v 7, true)) (.ex (some 10) (.call fn_impl_System_has [.v 8, .v 9]))) K56_1
@[simp] def W56_2 := @Pl.wpe _ _ K56_2.eq_1
def K56_3 : C := .seq (.pl <| .st (.ext 5 7) <|
    .st (.act none (.pget (some 5) none 2 0 (some 2))) <|
    .st (.act none (.ex (some 6) (.call fn_impl_SystemValid [.v 5]))) K56_2) (.ret)
@[simp] def W56_3 := @C.wpe _ _ K56_3.eq_1
def B_impl_StateValid : C := .seq (.pl <| .st (.ext 5 0) <|
    .st (.act none (.pnew 2 (.v 0) [])) <|
    .st (.act none (.pnew 3 (.v 1) [])) <|
    .st (.act none (.px (some 4) (.mv (.c (.bool false))))) .done) K56_3
@[simp] def WB_impl_StateValid := @C.wpe _ _ B_impl_StateValid.eq_1
def R_impl_StateValid : FIR := ⟨B_impl_StateValid, 5, [(4, none)]⟩
theorem IR_impl_StateValid : cfun Try.prog H_impl_StateValid Try.f56 = some R_impl_StateValid := by kernel_rfl
theorem EN_impl_StateValid {args : List Value} {h : Heap} {k : Value → Heap → Prop} (hargs : args.length = 2) (hw : B_impl_StateValid.wp Try.prog (retQ [(4, none)] k) (env0 args 5) h) : CallE Try.prog fn_impl_StateValid args h k := enter Try.func56 rfl IR_impl_StateValid hargs hw

def H_impl_State_copyOf : Hint := ⟨[(0, false), (1, true), (2, true)], []⟩
def K85_1 : Pl := .st (.act none (.px (some 9) (.build [.slice none 0 0, .slice none 0 0] [(0, 1, .v 5), (1, 1, .v 8)]))) <|
    .st (.act none (.pset none 2 0 2 (.v 9))) .done
@[simp] def W85_1 := @Pl.wpe _ _ K85_1.eq_1
def K85_2 : Pl := .st (.act none (.ex (some 8) (.call fn_impl_clone_int [.v 7]))) K85_1
@[simp] def W85_2 := @Pl.wpe _ _ K85_2.eq_1
def K85_3 : C := .seq (.pl <| .st (.ext 3 7) <|
    .st (.act none (.als 3 none 1)) <|
    .st (.act none (.pget (some 4) (some 3) 1 0 none)) <|
    .st (.act none (.als 6 none 1)) <|
    .st (.act none (.pget (some 7) (some 6) 1 1 none)) <|
    .st (.act none (.ex (some 5) (.call fn_impl_clone_int [.v 4]))) K85_2) (.ret)
@[simp] def W85_3 := @C.wpe _ _ K85_3.eq_1
def B_impl_State_copyOf : C := .seq (.pl <| .st (.ext 3 0) <|
    .st (.act none (.pnew 1 (.v 0) [])) <|
    .st (.act none (.pnew 2 (.c (.agg #[.slice none 0 0, .slice none 0 0])) [])) .done) K85_3
@[simp] def WB_impl_State_copyOf := @C.wpe _ _ B_impl_State_copyOf.eq_1
def R_impl_State_copyOf : FIR := ⟨B_impl_State_copyOf, 3, [(2, some (some 2))]⟩
theorem IR_impl_State_copyOf : cfun Try.prog H_impl_State_copyOf Try.f85 = some R_impl_State_copyOf := by kernel_rfl
theorem EN_impl_State_copyOf {args : List Value} {h : Heap} {k : Value → Heap → Prop} (hargs : args.length = 1) (hw : B_impl_State_copyOf.wp Try.prog (retQ [(2, some (some 2))] k) (env0 args 3) h) : CallE Try.prog fn_impl_State_copyOf args h k := enter Try.func85 rfl IR_impl_State_copyOf hargs hw

def H_impl_State_take : Hint := ⟨[(0, false), (1, false), (2, false), (3, true), (5, true)], []⟩
def K141_1 : Pl := .st (.act none (.px (some 14) (.ia 1 (.v 6) (.v 8)))) <|
    .st (.act none (.ex none (.store 1 (.v 14) (.v 13)))) .done
@[simp] def W141_1 := @Pl.wpe _ _ K141_1.eq_1
def K141_2 : C := .pl <| .st (.ext 5 10) <|
    .st (.act none (.als 5 none 3)) <|
    .st (.act none (.pget (some 6) (some 5) 3 1 none)) <|
    .st (.act none (.als 7 none 4)) <|
    .st (.act none (.pget (some 8) (some 7) 4 5 none)) <|
    .st (.act none (.als 9 none 4)) <|
    .st (.act none (.pget (some 10) (some 9) 4 6 (some 3))) <|
    .st (.act none (.als 11 none 3)) <|
    .st (.act none (.pget (some 12) (some 11) 3 1 none)) <|
    .st (.act none (.ex (some 13) (.call fn_impl_Expr_eval [.v 10, .v 12]))) K141_1
@[simp] def W141_2 := @C.wpe _ _ K141_2.eq_1
def K141_3 : C := .cond 5 (.v 7) K141_2 (.skip)
@[simp] def W141_3 := @C.wpe _ _ K141_3.eq_1
def K141_4 : C := .seq (.pl <| .st (.ext 5 3) <|
    .st (.act none (.als 5 none 4)) <|
    .st (.act none (.pget (some 6) (some 5) 4 5 none)) <|
    .st (.act none (.px (some 7) (.bin .geq (.v 6) (.c (.int .i64 0))))) .done) K141_3
@[simp] def W141_4 := @C.wpe _ _ K141_4.eq_1
def K141_5 : C := .seq (.pl <| .st (.ext 5 6) <|
    .st (.act none (.als 5 none 3)) <|
    .st (.act none (.pget (some 6) (some 5) 3 0 none)) <|
    .st (.act none (.px (some 7) (.mv (.v 1)))) <|
    .st (.act none (.als 8 none 4)) <|
    .st (.act none (.pget (some 9) (some 8) 4 1 none)) <|
    .st (.act none (.px (some 10) (.ia 1 (.v 6) (.v 7)))) <|
    .st (.act none (.ex none (.store 1 (.v 10) (.v 9)))) .done) K141_4
@[simp] def W141_5 := @C.wpe _ _ K141_5.eq_1
def B_impl_State_take : C := .seq (.pl <| .st (.ext 5 0) <|
    .st (.act none (.pnew 3 (.v 0) [])) <|
    .st (.act none (.pnew 4 (.v 2) [])) .done) K141_5
@[simp] def WB_impl_State_take := @C.wpe _ _ B_impl_State_take.eq_1
def R_impl_State_take : FIR := ⟨B_impl_State_take, 5, []⟩
theorem IR_impl_State_take : cfun Try.prog H_impl_State_take Try.f141 = some R_impl_State_take := by kernel_rfl
theorem EN_impl_State_take {args : List Value} {h : Heap} {k : Value → Heap → Prop} (hargs : args.length = 3) (hw : B_impl_State_take.wp Try.prog (retQ [] k) (env0 args 5) h) : CallE Try.prog fn_impl_State_take args h k := enter Try.func141 rfl IR_impl_State_take hargs hw

def H_impl_StepProcesses : Hint := ⟨[(0, false), (1, false), (2, true), (3, true), (4, false), (5, false), (6, false), (15, false), (16, false)], [[0, 1, 2, 4, 6]]⟩
def K55_1 : C := .seq (.pl <| .st (.ext 9 1) <|
    .st (.act none (.px (some 9) (.mv (.v 5)))) <|
    .st (.act none (.px (some 4) (.mv (.v 9)))) .done) (.ret)
@[simp] def W55_1 := @C.wpe _ _ K55_1.eq_1
def K55_2 : C := .pl <| .st (.ext 9 1) <|
    .st (.act none (.px (some 9) (.bin .add (.v 8) (.c (.int .i64 1))))) <|
    .st (.act none (.px (some 8) (.mv (.v 9)))) .done
@[simp] def W55_2 := @C.wpe _ _ K55_2.eq_1
def K55_3 : C := .pl <| .st (.ext 9 13) <|
    .st (.act none (.px (some 9) (.mv (.v 5)))) <|
    .st (.act none (.px (some 10) (.mv (.v 6)))) <|
    .st (.act none (.px (some 11) (.mv (.v 6)))) <|
    .st (.act none (.als 12 none 3)) <|
    .st (.act none (.pget (some 13) (some 12) 3 0 none)) <|
    .st (.act none (.px (some 14) (.bin .eql (.v 11) (.v 13)))) <|
    .st (.act none (.px (some 15) (.mv (.v 14)))) <|
    .st (.act (some (.v 15, false)) (.px (some 16) (.mv (.v 6)))) <|
    .st (.act (some (.v 15, false)) (.als 17 none 3)) <|
    .st (.act (some (.v 15, false)) (.pget (some 18) (some 17) 3 2 none)) <|
    .st (.act (some (.v 15, false)) (.px (some 19) (.bin .eql (.v 16) (.v 18)))) <|
    .st (.act none (.px (some 20) (.pick (.v 15) (.c (.bool true)) (.v 19)))) <|
    .st (.act none (.px (some 21) (.ia 1 (.v 9) (.v 10)))) <|
    .st (.act none (.ex none (.store 1 (.v 21) (.v 20)))) .done
@[simp] def W55_3 := @C.wpe _ _ K55_3.eq_1
def K55_4 : C := .seq (.block 1 (.seq (.pl <| .st (.ext 9 1) <|
    .st (.act none (.px (some 9) (.mv (.v 8)))) <|
    .st (.act none (.px (some 6) (.mv (.v 9)))) .done) K55_3)) K55_2
@[simp] def W55_4 := @C.wpe _ _ K55_4.eq_1
def K55_5 : C := .seq (.cond 9 (.v 9) (.skip) (.exit 0)) K55_4
@[simp] def W55_5 := @C.wpe _ _ K55_5.eq_1
def K55_6 : C := .seq (.pl <| .st (.ext 9 1) <|
    .st (.act none (.px (some 9) (.bin .lss (.v 8) (.v 7)))) .done) K55_5
@[simp] def W55_6 := @C.wpe _ _ K55_6.eq_1
def K55_7 : C := .block 0 (.loop 9 [0, 1, 2, 4, 6] K55_6)
@[simp] def W55_7 := @C.wpe _ _ K55_7.eq_1
def K55_8 : C := .seq (.seq (.pl <| .st (.ext 9 1) <|
    .st (.act none (.px (some 9) (.mv (.v 5)))) <|
    .st (.act none (.px (some 7) (.lenV (.v 9)))) <|
    .st (.act none (.px (some 8) (.mv (.c (.int .i64 0))))) .done) K55_7) K55_1
@[simp] def W55_8 := @C.wpe _ _ K55_8.eq_1
def K55_9 : Pl := .st (.act none (.px (some 5) (.mv (.v 12)))) .done
@[simp] def W55_9 := @Pl.wpe _ _ K55_9.eq_1
def K55_10 : C := .seq (.pl <| .st (.ext 9 4) <|
    .st (.act none (.als 9 none 2)) <|
    .st (.act none (.pget (some 10) (some 9) 2 1 none)) <|
    .st (.act none (.px (some 11) (.lenV (.v 10)))) <|
    .st (.act none (.ex (some 12) (.mks 1 1 [.bool false] (.v 11) (.v 11)))) K55_9) K55_8
@[simp] def W55_10 := @C.wpe _ _ K55_10.eq_1
def K55_11 : C := .seq (.pl <| .st (.ext 9 0) <|
    .st (.act none (.px (some 4) (.mv (.c (.slice none 0 0))))) .done) (.ret)
@[simp] def W55_11 := @C.wpe _ _ K55_11.eq_1
def K55_12 : C := .cond 9 (.v 11) K55_11 (.skip)
@[simp] def W55_12 := @C.wpe _ _ K55_12.eq_1
def K55_13 : Pl := .st (.act none (.px (some 11) (.un .not (.v 10)))) .done
@[simp] def W55_13 := @Pl.wpe _ _ K55_13.eq_1
def K55_14 : C := .seq (.seq (.pl <| .st (.ext 9 3) <|
    .st (.act none (.pget (some 9) none 2 0 (some 2))) <|
    .st (.act none (.ex (some 10) (.call fn_impl_SystemValid [.v 9]))) K55_13) K55_12) K55_10
@[simp] def W55_14 := @C.wpe _ _ K55_14.eq_1
def B_impl_StepProcesses : C := .seq (.pl <| .st (.ext 9 0) <|
    .st (.act none (.pnew 2 (.v 0) [])) <|
    .st (.act none (.pnew 3 (.v 1) [])) <|
    .st (.act none (.px (some 4) (.mv (.c (.slice none 0 0))))) .done) K55_14
@[simp] def WB_impl_StepProcesses := @C.wpe _ _ B_impl_StepProcesses.eq_1
def R_impl_StepProcesses : FIR := ⟨B_impl_StepProcesses, 9, [(4, none)]⟩
theorem IR_impl_StepProcesses : cfun Try.prog H_impl_StepProcesses Try.f55 = some R_impl_StepProcesses := by kernel_rfl
theorem EN_impl_StepProcesses {args : List Value} {h : Heap} {k : Value → Heap → Prop} (hargs : args.length = 2) (hw : B_impl_StepProcesses.wp Try.prog (retQ [(4, none)] k) (env0 args 9) h) : CallE Try.prog fn_impl_StepProcesses args h k := enter Try.func55 rfl IR_impl_StepProcesses hargs hw

def H_impl_System_after : Hint := ⟨[(0, false), (1, false), (2, false), (3, true), (4, true), (5, true), (6, true), (7, true)], []⟩
def K93_1 : C := .seq (.pl <| .st (.ext 8 1) <|
    .st (.act none (.pget (some 8) none 7 0 (some 2))) <|
    .st (.act none (.pset none 6 0 2 (.v 8))) .done) (.ret)
@[simp] def W93_1 := @C.wpe _ _ K93_1.eq_1
def K93_2 : C := .pl <| .st (.ext 8 15) <|
    .st (.act none (.pget (some 8) none 7 0 (some 2))) <|
    .st (.act none (.als 9 none 5)) <|
    .st (.act none (.pget (some 10) (some 9) 5 2 none)) <|
    .st (.act none (.als 11 none 3)) <|
    .st (.act none (.pget (some 12) (some 11) 3 1 none)) <|
    .st (.act none (.als 13 none 5)) <|
    .st (.act none (.pget (some 14) (some 13) 5 2 none)) <|
    .st (.act none (.px (some 15) (.ia 2 (.v 12) (.v 14)))) <|
    .st (.act none (.px (some 16) (.fa 1 (.v 15)))) <|
    .st (.act none (.ld (some 17) (.v 16) none)) <|
    .st (.act none (.als 18 none 5)) <|
    .st (.act none (.pget (some 19) (some 18) 5 3 none)) <|
    .st (.act none (.px (some 20) (.ia 10 (.v 17) (.v 19)))) <|
    .st (.act none (.ld (some 21) (.v 20) (some 10))) <|
    .st (.act none (.ex (some 22) (.call fn_impl_State_take [.v 8, .v 10, .v 21]))) .done
@[simp] def W93_2 := @C.wpe _ _ K93_2.eq_1
def K93_3 : C := .cond 8 (.v 10) K93_2 (.skip)
@[simp] def W93_3 := @C.wpe _ _ K93_3.eq_1
def K93_4 : C := .seq (.seq (.pl <| .st (.ext 8 3) <|
    .st (.act none (.als 8 none 5)) <|
    .st (.act none (.pget (some 9) (some 8) 5 2 none)) <|
    .st (.act none (.px (some 10) (.bin .geq (.v 9) (.c (.int .i64 0))))) .done) K93_3) K93_1
@[simp] def W93_4 := @C.wpe _ _ K93_4.eq_1
def K93_5 : C := .seq (.pl <| .st (.ext 8 15) <|
    .st (.act none (.pget (some 8) none 7 0 (some 2))) <|
    .st (.act none (.als 9 none 5)) <|
    .st (.act none (.pget (some 10) (some 9) 5 0 none)) <|
    .st (.act none (.als 11 none 3)) <|
    .st (.act none (.pget (some 12) (some 11) 3 1 none)) <|
    .st (.act none (.als 13 none 5)) <|
    .st (.act none (.pget (some 14) (some 13) 5 0 none)) <|
    .st (.act none (.px (some 15) (.ia 2 (.v 12) (.v 14)))) <|
    .st (.act none (.px (some 16) (.fa 1 (.v 15)))) <|
    .st (.act none (.ld (some 17) (.v 16) none)) <|
    .st (.act none (.als 18 none 5)) <|
    .st (.act none (.pget (some 19) (some 18) 5 1 none)) <|
    .st (.act none (.px (some 20) (.ia 10 (.v 17) (.v 19)))) <|
    .st (.act none (.ld (some 21) (.v 20) (some 10))) <|
    .st (.act none (.ex (some 22) (.call fn_impl_State_take [.v 8, .v 10, .v 21]))) .done) K93_4
@[simp] def W93_5 := @C.wpe _ _ K93_5.eq_1
def K93_6 : Pl := .st (.act none (.pnew 7 (.c (.agg #[.slice none 0 0, .slice none 0 0])) [])) <|
    .st (.act none (.pset none 7 0 2 (.v 9))) .done
@[simp] def W93_6 := @Pl.wpe _ _ K93_6.eq_1
def K93_7 : C := .seq (.pl <| .st (.ext 8 2) <|
    .st (.act none (.pget (some 8) none 4 0 (some 2))) <|
    .st (.act none (.ex (some 9) (.call fn_impl_State_copyOf [.v 8]))) K93_6) K93_5
@[simp] def W93_7 := @C.wpe _ _ K93_7.eq_1
def B_impl_System_after : C := .seq (.pl <| .st (.ext 8 0) <|
    .st (.act none (.pnew 3 (.v 0) [])) <|
    .st (.act none (.pnew 4 (.v 1) [])) <|
    .st (.act none (.pnew 5 (.v 2) [])) <|
    .st (.act none (.pnew 6 (.c (.agg #[.slice none 0 0, .slice none 0 0])) [])) .done) K93_7
@[simp] def WB_impl_System_after := @C.wpe _ _ B_impl_System_after.eq_1
def R_impl_System_after : FIR := ⟨B_impl_System_after, 8, [(6, some (some 2))]⟩
theorem IR_impl_System_after : cfun Try.prog H_impl_System_after Try.f93 = some R_impl_System_after := by kernel_rfl
theorem EN_impl_System_after {args : List Value} {h : Heap} {k : Value → Heap → Prop} (hargs : args.length = 3) (hw : B_impl_System_after.wp Try.prog (retQ [(6, some (some 2))] k) (env0 args 8) h) : CallE Try.prog fn_impl_System_after args h k := enter Try.func93 rfl IR_impl_System_after hargs hw

def H_impl_System_enabled : Hint := ⟨[(0, false), (1, false), (2, true), (3, true), (4, false), (5, false), (6, false), (7, true), (8, false), (9, true), (10, false), (11, true), (12, false), (13, true), (15, false), (16, false), (17, false), (23, false), (24, false), (25, false), (53, false), (54, false), (55, false), (61, false), (62, false), (63, false)], [[0, 1, 4, 6, 7, 8, 9, 10, 11, 12, 13, 17, 18, 19, 20, 21, 22, 23, 24, 25], [0, 1, 4, 7, 8, 9, 10, 11, 12, 13, 20, 21, 22, 23, 24, 25], [0, 1, 4, 7, 10, 11, 12, 13, 23, 24, 25], [0, 1, 4, 7, 11, 12, 13]]⟩
def K140_1 : Pl := .st (.act none (.px (some 4) (.mv (.v 27)))) .done
@[simp] def W140_1 := @Pl.wpe _ _ K140_1.eq_1
def K140_2 : C := .seq (.pl <| .st (.ext 26 2) <|
    .st (.act none (.px (some 26) (.mv (.v 5)))) <|
    .st (.act none (.ex (some 27) (.call fn_slices_Clip_S_impl_Step_impl_Step [.v 26]))) K140_1) (.ret)
@[simp] def W140_2 := @C.wpe _ _ K140_2.eq_1
def K140_3 : C := .pl <| .st (.ext 26 1) <|
    .st (.act none (.px (some 26) (.bin .add (.v 16) (.c (.int .i64 1))))) <|
    .st (.act none (.px (some 16) (.mv (.v 26)))) .done
@[simp] def W140_3 := @C.wpe _ _ K140_3.eq_1
def K140_4 : C := .pl <| .st (.ext 26 1) <|
    .st (.act none (.px (some 26) (.bin .add (.v 19) (.c (.int .i64 1))))) <|
    .st (.act none (.px (some 19) (.mv (.v 26)))) .done
@[simp] def W140_4 := @C.wpe _ _ K140_4.eq_1
def K140_5 : C := .pl <| .st (.ext 26 1) <|
    .st (.act none (.px (some 26) (.bin .add (.v 22) (.c (.int .i64 1))))) <|
    .st (.act none (.px (some 22) (.mv (.v 26)))) .done
@[simp] def W140_5 := @C.wpe _ _ K140_5.eq_1
def K140_6 : C := .pl <| .st (.ext 26 1) <|
    .st (.act none (.px (some 26) (.bin .add (.v 25) (.c (.int .i64 1))))) <|
    .st (.act none (.px (some 25) (.mv (.v 26)))) .done
@[simp] def W140_6 := @C.wpe _ _ K140_6.eq_1
def K140_7 : Pl := .st (.act none (.px (some 5) (.mv (.v 33)))) .done
@[simp] def W140_7 := @Pl.wpe _ _ K140_7.eq_1
def K140_8 : C := .pl <| .st (.ext 26 8) <|
    .st (.act none (.px (some 26) (.mv (.v 5)))) <|
    .st (.act none (.px (some 27) (.mv (.v 6)))) <|
    .st (.act none (.px (some 28) (.mv (.v 8)))) <|
    .st (.act none (.px (some 29) (.mv (.v 10)))) <|
    .st (.act none (.px (some 30) (.mv (.v 12)))) <|
    .st (.act none (.px (some 31) (.build [.int .i64 0, .int .i64 0, .int .i64 0, .int .i64 0] [(0, 1, .v 27), (1, 1, .v 28), (2, 1, .v 29), (3, 1, .v 30)]))) <|
    .st (.act none (.psl 32 [.int .i64 0, .int .i64 0, .int .i64 0, .int .i64 0] [(0, 4, .v 31)])) <|
    .st (.act none (.ex (some 33) (.app 32 4 [.int .i64 0, .int .i64 0, .int .i64 0, .int .i64 0] (.o (.v 26)) (.p 1 32)))) K140_7
@[simp] def W140_8 := @C.wpe _ _ K140_8.eq_1
def K140_9 : C := .cond 26 (.v 43) K140_8 (.skip)
@[simp] def W140_9 := @C.wpe _ _ K140_9.eq_1
def K140_10 : Pl := .st (.act none (.px (some 43) (.pick (.v 37) (.v 42) (.c (.bool false))))) .done
@[simp] def W140_10 := @Pl.wpe _ _ K140_10.eq_1
def K140_11 : C := .seq (.pl <| .st (.ext 26 18) <|
    .st (.act none (.px (some 26) (.mv (.v 10)))) <|
    .st (.act none (.px (some 27) (.mv (.v 6)))) <|
    .st (.act none (.px (some 28) (.bin .neq (.v 26) (.v 27)))) <|
    .st (.act none (.px (some 29) (.mv (.v 28)))) <|
    .st (.act (some (.v 29, true)) (.als 30 none 13)) <|
    .st (.act (some (.v 29, true)) (.pget (some 31) (some 30) 13 9 none)) <|
    .st (.act (some (.v 29, true)) (.als 32 none 9)) <|
    .st (.act (some (.v 29, true)) (.pget (some 33) (some 32) 9 9 none)) <|
    .st (.act (some (.v 29, true)) (.px (some 34) (.un .neg (.v 33)))) <|
    .st (.act (some (.v 29, true)) (.px (some 35) (.bin .eql (.v 31) (.v 34)))) <|
    .st (.act none (.px (some 36) (.pick (.v 29) (.v 35) (.c (.bool false))))) <|
    .st (.act none (.px (some 37) (.mv (.v 36)))) <|
    .st (.act (some (.v 37, true)) (.pget (some 38) none 2 0 (some 2))) <|
    .st (.act (some (.v 37, true)) (.pget (some 39) none 3 0 (some 2))) <|
    .st (.act (some (.v 37, true)) (.px (some 40) (.mv (.v 10)))) <|
    .st (.act (some (.v 37, true)) (.px (some 41) (.mv (.v 12)))) <|
    .st (.act (some (.v 37, true)) (.ex (some 42) (.call fn_impl_System_ready [.v 38, .v 39, .v 40, .v 41]))) K140_10) K140_9
@[simp] def W140_11 := @C.wpe _ _ K140_11.eq_1
def K140_12 : C := .seq (.block 8 (.seq (.pl <| .st (.ext 26 3) <|
    .st (.act none (.px (some 26) (.mv (.v 25)))) <|
    .st (.act none (.px (some 27) (.ia 10 (.v 23) (.v 25)))) <|
    .st (.act none (.ld (some 28) (.v 27) (some 10))) <|
    .st (.act none (.pnew 13 (.c (.agg #[.int .i64 0, .int .i64 0, .int .i64 0, .int .i64 0, .slice none 0 0, .int .i64 0, .int .i64 0, .int .i64 0, .slice none 0 0, .int .i64 0])) [])) <|
    .st (.act none (.px (some 12) (.mv (.v 26)))) <|
    .st (.act none (.pset none 13 0 10 (.v 28))) .done) K140_11)) K140_6
@[simp] def W140_12 := @C.wpe _ _ K140_12.eq_1
def K140_13 : C := .seq (.cond 26 (.v 26) (.skip) (.exit 7)) K140_12
@[simp] def W140_13 := @C.wpe _ _ K140_13.eq_1
def K140_14 : C := .seq (.pl <| .st (.ext 26 1) <|
    .st (.act none (.px (some 26) (.bin .lss (.v 25) (.v 24)))) .done) K140_13
@[simp] def W140_14 := @C.wpe _ _ K140_14.eq_1
def K140_15 : C := .block 7 (.loop 26 [0, 1, 4, 7, 11, 12, 13] K140_14)
@[simp] def W140_15 := @C.wpe _ _ K140_15.eq_1
def K140_16 : C := .seq (.pl <| .st (.ext 26 1) <|
    .st (.act none (.als 26 none 11)) <|
    .st (.act none (.pget (some 23) (some 26) 11 1 none)) <|
    .st (.act none (.px (some 24) (.lenV (.v 23)))) <|
    .st (.act none (.px (some 25) (.mv (.c (.int .i64 0))))) .done) K140_15
@[simp] def W140_16 := @C.wpe _ _ K140_16.eq_1
def K140_17 : C := .seq (.block 6 (.seq (.pl <| .st (.ext 26 3) <|
    .st (.act none (.px (some 26) (.mv (.v 22)))) <|
    .st (.act none (.px (some 27) (.ia 2 (.v 20) (.v 22)))) <|
    .st (.act none (.ld (some 28) (.v 27) (some 2))) <|
    .st (.act none (.pnew 11 (.c (.agg #[.int .i64 0, .slice none 0 0])) [])) <|
    .st (.act none (.px (some 10) (.mv (.v 26)))) <|
    .st (.act none (.pset none 11 0 2 (.v 28))) .done) K140_16)) K140_5
@[simp] def W140_17 := @C.wpe _ _ K140_17.eq_1
def K140_18 : C := .seq (.cond 26 (.v 26) (.skip) (.exit 5)) K140_17
@[simp] def W140_18 := @C.wpe _ _ K140_18.eq_1
def K140_19 : C := .seq (.pl <| .st (.ext 26 1) <|
    .st (.act none (.px (some 26) (.bin .lss (.v 22) (.v 21)))) .done) K140_18
@[simp] def W140_19 := @C.wpe _ _ K140_19.eq_1
def K140_20 : C := .block 5 (.loop 26 [0, 1, 4, 7, 10, 11, 12, 13, 23, 24, 25] K140_19)
@[simp] def W140_20 := @C.wpe _ _ K140_20.eq_1
def K140_21 : C := .seq (.pl <| .st (.ext 26 1) <|
    .st (.act none (.als 26 none 2)) <|
    .st (.act none (.pget (some 20) (some 26) 2 1 none)) <|
    .st (.act none (.px (some 21) (.lenV (.v 20)))) <|
    .st (.act none (.px (some 22) (.mv (.c (.int .i64 0))))) .done) K140_20
@[simp] def W140_21 := @C.wpe _ _ K140_21.eq_1
def K140_22 : Pl := .st (.act none (.px (some 5) (.mv (.v 31)))) .done
@[simp] def W140_22 := @Pl.wpe _ _ K140_22.eq_1
def K140_23 : C := .seq (.pl <| .st (.ext 26 6) <|
    .st (.act none (.px (some 26) (.mv (.v 5)))) <|
    .st (.act none (.px (some 27) (.mv (.v 6)))) <|
    .st (.act none (.px (some 28) (.mv (.v 8)))) <|
    .st (.act none (.px (some 29) (.build [.int .i64 0, .int .i64 0, .int .i64 0, .int .i64 0] [(0, 1, .v 27), (1, 1, .v 28), (2, 1, .c (.int .i64 (-1))), (3, 1, .c (.int .i64 (-1)))]))) <|
    .st (.act none (.psl 30 [.int .i64 0, .int .i64 0, .int .i64 0, .int .i64 0] [(0, 4, .v 29)])) <|
    .st (.act none (.ex (some 31) (.app 32 4 [.int .i64 0, .int .i64 0, .int .i64 0, .int .i64 0] (.o (.v 26)) (.p 1 30)))) K140_22) (.exit 3)
@[simp] def W140_23 := @C.wpe _ _ K140_23.eq_1
def K140_24 : C := .cond 26 (.v 29) K140_23 (.skip)
@[simp] def W140_24 := @C.wpe _ _ K140_24.eq_1
def K140_25 : C := .seq (.pl <| .st (.ext 26 4) <|
    .st (.act none (.als 26 none 9)) <|
    .st (.act none (.pget (some 27) (some 26) 9 9 none)) <|
    .st (.act none (.px (some 28) (.bin .eql (.v 27) (.c (.int .i64 0))))) <|
    .st (.act none (.px (some 29) (.mv (.v 28)))) .done) K140_24
@[simp] def W140_25 := @C.wpe _ _ K140_25.eq_1
def K140_26 : C := .cond 26 (.v 37) (.exit 3) K140_25
@[simp] def W140_26 := @C.wpe _ _ K140_26.eq_1
def K140_27 : Pl := .st (.act none (.px (some 31) (.un .not (.v 30)))) <|
    .st (.act none (.px (some 32) (.mv (.v 31)))) <|
    .st (.act (some (.v 32, false)) (.als 33 none 9)) <|
    .st (.act (some (.v 32, false)) (.pget (some 34) (some 33) 9 9 none)) <|
    .st (.act (some (.v 32, false)) (.px (some 35) (.bin .lss (.v 34) (.c (.int .i64 0))))) <|
    .st (.act none (.px (some 36) (.pick (.v 32) (.c (.bool true)) (.v 35)))) <|
    .st (.act none (.px (some 37) (.mv (.v 36)))) .done
@[simp] def W140_27 := @Pl.wpe _ _ K140_27.eq_1
def K140_28 : C := .seq (.block 4 (.seq (.pl <| .st (.ext 26 12) <|
    .st (.act none (.pget (some 26) none 2 0 (some 2))) <|
    .st (.act none (.pget (some 27) none 3 0 (some 2))) <|
    .st (.act none (.px (some 28) (.mv (.v 6)))) <|
    .st (.act none (.px (some 29) (.mv (.v 8)))) <|
    .st (.act none (.ex (some 30) (.call fn_impl_System_ready [.v 26, .v 27, .v 28, .v 29]))) K140_27) K140_26)) K140_21
@[simp] def W140_28 := @C.wpe _ _ K140_28.eq_1
def K140_29 : C := .seq (.block 3 (.seq (.pl <| .st (.ext 26 3) <|
    .st (.act none (.px (some 26) (.mv (.v 19)))) <|
    .st (.act none (.px (some 27) (.ia 10 (.v 17) (.v 19)))) <|
    .st (.act none (.ld (some 28) (.v 27) (some 10))) <|
    .st (.act none (.pnew 9 (.c (.agg #[.int .i64 0, .int .i64 0, .int .i64 0, .int .i64 0, .slice none 0 0, .int .i64 0, .int .i64 0, .int .i64 0, .slice none 0 0, .int .i64 0])) [])) <|
    .st (.act none (.px (some 8) (.mv (.v 26)))) <|
    .st (.act none (.pset none 9 0 10 (.v 28))) .done) K140_28)) K140_4
@[simp] def W140_29 := @C.wpe _ _ K140_29.eq_1
def K140_30 : C := .seq (.cond 26 (.v 26) (.skip) (.exit 2)) K140_29
@[simp] def W140_30 := @C.wpe _ _ K140_30.eq_1
def K140_31 : C := .seq (.pl <| .st (.ext 26 1) <|
    .st (.act none (.px (some 26) (.bin .lss (.v 19) (.v 18)))) .done) K140_30
@[simp] def W140_31 := @C.wpe _ _ K140_31.eq_1
def K140_32 : C := .block 2 (.loop 26 [0, 1, 4, 7, 8, 9, 10, 11, 12, 13, 20, 21, 22, 23, 24, 25] K140_31)
@[simp] def W140_32 := @C.wpe _ _ K140_32.eq_1
def K140_33 : C := .seq (.pl <| .st (.ext 26 1) <|
    .st (.act none (.als 26 none 7)) <|
    .st (.act none (.pget (some 17) (some 26) 7 1 none)) <|
    .st (.act none (.px (some 18) (.lenV (.v 17)))) <|
    .st (.act none (.px (some 19) (.mv (.c (.int .i64 0))))) .done) K140_32
@[simp] def W140_33 := @C.wpe _ _ K140_33.eq_1
def K140_34 : C := .seq (.block 1 (.seq (.pl <| .st (.ext 26 3) <|
    .st (.act none (.px (some 26) (.mv (.v 16)))) <|
    .st (.act none (.px (some 27) (.ia 2 (.v 14) (.v 16)))) <|
    .st (.act none (.ld (some 28) (.v 27) (some 2))) <|
    .st (.act none (.pnew 7 (.c (.agg #[.int .i64 0, .slice none 0 0])) [])) <|
    .st (.act none (.px (some 6) (.mv (.v 26)))) <|
    .st (.act none (.pset none 7 0 2 (.v 28))) .done) K140_33)) K140_3
@[simp] def W140_34 := @C.wpe _ _ K140_34.eq_1
def K140_35 : C := .seq (.cond 26 (.v 26) (.skip) (.exit 0)) K140_34
@[simp] def W140_35 := @C.wpe _ _ K140_35.eq_1
def K140_36 : C := .seq (.pl <| .st (.ext 26 1) <|
    .st (.act none (.px (some 26) (.bin .lss (.v 16) (.v 15)))) .done) K140_35
@[simp] def W140_36 := @C.wpe _ _ K140_36.eq_1
def K140_37 : C := .block 0 (.loop 26 [0, 1, 4, 6, 7, 8, 9, 10, 11, 12, 13, 17, 18, 19, 20, 21, 22, 23, 24, 25] K140_36)
@[simp] def W140_37 := @C.wpe _ _ K140_37.eq_1
def K140_38 : C := .seq (.seq (.pl <| .st (.ext 26 1) <|
    .st (.act none (.als 26 none 2)) <|
    .st (.act none (.pget (some 14) (some 26) 2 1 none)) <|
    .st (.act none (.px (some 15) (.lenV (.v 14)))) <|
    .st (.act none (.px (some 16) (.mv (.c (.int .i64 0))))) .done) K140_37) K140_2
@[simp] def W140_38 := @C.wpe _ _ K140_38.eq_1
def K140_39 : C := .seq (.pl <| .st (.ext 26 0) <|
    .st (.act none (.px (some 5) (.mv (.c (.slice none 0 0))))) .done) K140_38
@[simp] def W140_39 := @C.wpe _ _ K140_39.eq_1
def B_impl_System_enabled : C := .seq (.pl <| .st (.ext 26 0) <|
    .st (.act none (.pnew 2 (.v 0) [])) <|
    .st (.act none (.pnew 3 (.v 1) [])) <|
    .st (.act none (.px (some 4) (.mv (.c (.slice none 0 0))))) .done) K140_39
@[simp] def WB_impl_System_enabled := @C.wpe _ _ B_impl_System_enabled.eq_1
def R_impl_System_enabled : FIR := ⟨B_impl_System_enabled, 26, [(4, none)]⟩
theorem IR_impl_System_enabled : cfun Try.prog H_impl_System_enabled Try.f140 = some R_impl_System_enabled := by kernel_rfl
theorem EN_impl_System_enabled {args : List Value} {h : Heap} {k : Value → Heap → Prop} (hargs : args.length = 2) (hw : B_impl_System_enabled.wp Try.prog (retQ [(4, none)] k) (env0 args 26) h) : CallE Try.prog fn_impl_System_enabled args h k := enter Try.func140 rfl IR_impl_System_enabled hargs hw

def H_impl_System_has : Hint := ⟨[(0, false), (1, false), (2, true), (3, true), (4, false), (5, false), (6, false), (21, false), (22, false), (23, false)], [[0, 1, 3, 4, 5, 6]]⟩
def K84_1 : C := .seq (.pl <| .st (.ext 10 0) <|
    .st (.act none (.px (some 4) (.mv (.c (.bool true))))) .done) (.ret)
@[simp] def W84_1 := @C.wpe _ _ K84_1.eq_1
def K84_2 : C := .pl <| .st (.ext 10 1) <|
    .st (.act none (.px (some 10) (.bin .add (.v 9) (.c (.int .i64 1))))) <|
    .st (.act none (.px (some 9) (.mv (.v 10)))) .done
@[simp] def W84_2 := @C.wpe _ _ K84_2.eq_1
def K84_3 : C := .seq (.pl <| .st (.ext 10 0) <|
    .st (.act none (.px (some 4) (.mv (.c (.bool false))))) .done) (.ret)
@[simp] def W84_3 := @C.wpe _ _ K84_3.eq_1
def K84_4 : C := .cond 10 (.v 19) K84_3 (.skip)
@[simp] def W84_4 := @C.wpe _ _ K84_4.eq_1
def K84_5 : Pl := .st (.act none (.px (some 19) (.un .not (.v 18)))) .done
@[simp] def W84_5 := @Pl.wpe _ _ K84_5.eq_1
def K84_6 : C := .seq (.pl <| .st (.ext 10 10) <|
    .st (.act none (.px (some 10) (.mv (.v 6)))) <|
    .st (.act none (.als 11 none 2)) <|
    .st (.act none (.pget (some 12) (some 11) 2 1 none)) <|
    .st (.act none (.px (some 13) (.mv (.v 5)))) <|
    .st (.act none (.px (some 14) (.ia 2 (.v 12) (.v 13)))) <|
    .st (.act none (.px (some 15) (.fa 0 (.v 14)))) <|
    .st (.act none (.ld (some 16) (.v 15) none)) <|
    .st (.act none (.px (some 17) (.bin .sub (.v 16) (.c (.int .i64 1))))) <|
    .st (.act none (.ex (some 18) (.call fn_impl_in [.v 10, .c (.int .i64 0), .v 17]))) K84_5) K84_4
@[simp] def W84_6 := @C.wpe _ _ K84_6.eq_1
def K84_7 : C := .seq (.block 1 (.seq (.pl <| .st (.ext 10 3) <|
    .st (.act none (.px (some 10) (.mv (.v 9)))) <|
    .st (.act none (.px (some 11) (.ia 1 (.v 7) (.v 9)))) <|
    .st (.act none (.ld (some 12) (.v 11) none)) <|
    .st (.act none (.px (some 5) (.mv (.v 10)))) <|
    .st (.act none (.px (some 6) (.mv (.v 12)))) .done) K84_6)) K84_2
@[simp] def W84_7 := @C.wpe _ _ K84_7.eq_1
def K84_8 : C := .seq (.cond 10 (.v 10) (.skip) (.exit 0)) K84_7
@[simp] def W84_8 := @C.wpe _ _ K84_8.eq_1
def K84_9 : C := .seq (.pl <| .st (.ext 10 1) <|
    .st (.act none (.px (some 10) (.bin .lss (.v 9) (.v 8)))) .done) K84_8
@[simp] def W84_9 := @C.wpe _ _ K84_9.eq_1
def K84_10 : C := .block 0 (.loop 10 [0, 1, 3, 4, 5, 6] K84_9)
@[simp] def W84_10 := @C.wpe _ _ K84_10.eq_1
def K84_11 : C := .seq (.seq (.pl <| .st (.ext 10 1) <|
    .st (.act none (.als 10 none 3)) <|
    .st (.act none (.pget (some 7) (some 10) 3 0 none)) <|
    .st (.act none (.px (some 8) (.lenV (.v 7)))) <|
    .st (.act none (.px (some 9) (.mv (.c (.int .i64 0))))) .done) K84_10) K84_1
@[simp] def W84_11 := @C.wpe _ _ K84_11.eq_1
def K84_12 : C := .seq (.pl <| .st (.ext 10 0) <|
    .st (.act none (.px (some 4) (.mv (.c (.bool false))))) .done) (.ret)
@[simp] def W84_12 := @C.wpe _ _ K84_12.eq_1
def K84_13 : C := .cond 10 (.v 22) K84_12 (.skip)
@[simp] def W84_13 := @C.wpe _ _ K84_13.eq_1
def K84_14 : Pl := .st (.act (some (.v 17, false)) (.px (some 21) (.un .not (.v 20)))) <|
    .st (.act none (.px (some 22) (.pick (.v 17) (.c (.bool true)) (.v 21)))) .done
@[simp] def W84_14 := @Pl.wpe _ _ K84_14.eq_1
def K84_15 : C := .seq (.seq (.pl <| .st (.ext 10 13) <|
    .st (.act none (.als 10 none 3)) <|
    .st (.act none (.pget (some 11) (some 10) 3 0 none)) <|
    .st (.act none (.px (some 12) (.lenV (.v 11)))) <|
    .st (.act none (.als 13 none 2)) <|
    .st (.act none (.pget (some 14) (some 13) 2 1 none)) <|
    .st (.act none (.px (some 15) (.lenV (.v 14)))) <|
    .st (.act none (.px (some 16) (.bin .neq (.v 12) (.v 15)))) <|
    .st (.act none (.px (some 17) (.mv (.v 16)))) <|
    .st (.act (some (.v 17, false)) (.als 18 none 3)) <|
    .st (.act (some (.v 17, false)) (.pget (some 19) (some 18) 3 1 none)) <|
    .st (.act (some (.v 17, false)) (.ex (some 20) (.call fn_impl_valsOk [.v 19]))) K84_14) K84_13) K84_11
@[simp] def W84_15 := @C.wpe _ _ K84_15.eq_1
def B_impl_System_has : C := .seq (.pl <| .st (.ext 10 0) <|
    .st (.act none (.pnew 2 (.v 0) [])) <|
    .st (.act none (.pnew 3 (.v 1) [])) <|
    .st (.act none (.px (some 4) (.mv (.c (.bool false))))) .done) K84_15
@[simp] def WB_impl_System_has := @C.wpe _ _ B_impl_System_has.eq_1
def R_impl_System_has : FIR := ⟨B_impl_System_has, 10, [(4, none)]⟩
theorem IR_impl_System_has : cfun Try.prog H_impl_System_has Try.f84 = some R_impl_System_has := by kernel_rfl
theorem EN_impl_System_has {args : List Value} {h : Heap} {k : Value → Heap → Prop} (hargs : args.length = 2) (hw : B_impl_System_has.wp Try.prog (retQ [(4, none)] k) (env0 args 10) h) : CallE Try.prog fn_impl_System_has args h k := enter Try.func84 rfl IR_impl_System_has hargs hw

def H_impl_System_ready : Hint := ⟨[(0, false), (1, false), (2, false), (3, false), (4, true), (5, true), (8, false), (9, true)], []⟩
def K175_1 : Pl := .st (.act (some (.v 16, true)) (.px (some 22) (.bin .neq (.v 21) (.c (.int .i64 0))))) <|
    .st (.act none (.px (some 23) (.pick (.v 16) (.v 22) (.c (.bool false))))) <|
    .st (.act none (.px (some 6) (.mv (.v 23)))) .done
@[simp] def W175_1 := @Pl.wpe _ _ K175_1.eq_1
def K175_2 : C := .seq (.pl <| .st (.ext 8 16) <|
    .st (.act none (.als 8 none 5)) <|
    .st (.act none (.pget (some 9) (some 8) 5 0 none)) <|
    .st (.act none (.px (some 10) (.mv (.v 2)))) <|
    .st (.act none (.px (some 11) (.ia 1 (.v 9) (.v 10)))) <|
    .st (.act none (.ld (some 12) (.v 11) none)) <|
    .st (.act none (.als 13 none 7)) <|
    .st (.act none (.pget (some 14) (some 13) 7 0 none)) <|
    .st (.act none (.px (some 15) (.bin .eql (.v 12) (.v 14)))) <|
    .st (.act none (.px (some 16) (.mv (.v 15)))) <|
    .st (.act (some (.v 16, true)) (.als 17 none 7)) <|
    .st (.act (some (.v 16, true)) (.pget (some 18) (some 17) 7 2 (some 3))) <|
    .st (.act (some (.v 16, true)) (.als 19 none 5)) <|
    .st (.act (some (.v 16, true)) (.pget (some 20) (some 19) 5 1 none)) <|
    .st (.act (some (.v 16, true)) (.ex (some 21) (.call fn_impl_Expr_eval [.v 18, .v 20]))) K175_1) (.ret)
@[simp] def W175_2 := @C.wpe _ _ K175_2.eq_1
def K175_3 : C := .seq (.pl <| .st (.ext 8 9) <|
    .st (.act none (.als 8 none 4)) <|
    .st (.act none (.pget (some 9) (some 8) 4 1 none)) <|
    .st (.act none (.px (some 10) (.mv (.v 2)))) <|
    .st (.act none (.px (some 11) (.ia 2 (.v 9) (.v 10)))) <|
    .st (.act none (.px (some 12) (.fa 1 (.v 11)))) <|
    .st (.act none (.ld (some 13) (.v 12) none)) <|
    .st (.act none (.px (some 14) (.mv (.v 3)))) <|
    .st (.act none (.px (some 15) (.ia 10 (.v 13) (.v 14)))) <|
    .st (.act none (.ld (some 16) (.v 15) (some 10))) <|
    .st (.act none (.pnew 7 (.c (.agg #[.int .i64 0, .int .i64 0, .int .i64 0, .int .i64 0, .slice none 0 0, .int .i64 0, .int .i64 0, .int .i64 0, .slice none 0 0, .int .i64 0])) [])) <|
    .st (.act none (.pset none 7 0 10 (.v 16))) .done) K175_2
@[simp] def W175_3 := @C.wpe _ _ K175_3.eq_1
def B_impl_System_ready : C := .seq (.pl <| .st (.ext 8 0) <|
    .st (.act none (.pnew 4 (.v 0) [])) <|
    .st (.act none (.pnew 5 (.v 1) [])) <|
    .st (.act none (.px (some 6) (.mv (.c (.bool false))))) .done) K175_3
@[simp] def WB_impl_System_ready := @C.wpe _ _ B_impl_System_ready.eq_1
def R_impl_System_ready : FIR := ⟨B_impl_System_ready, 8, [(6, none)]⟩
theorem IR_impl_System_ready : cfun Try.prog H_impl_System_ready Try.f175 = some R_impl_System_ready := by kernel_rfl
theorem EN_impl_System_ready {args : List Value} {h : Heap} {k : Value → Heap → Prop} (hargs : args.length = 4) (hw : B_impl_System_ready.wp Try.prog (retQ [(6, none)] k) (env0 args 8) h) : CallE Try.prog fn_impl_System_ready args h k := enter Try.func175 rfl IR_impl_System_ready hargs hw

def H_impl_truth : Hint := ⟨[(0, false), (2, false)], []⟩
def K191_1 : C := .seq (.pl <| .st (.ext 2 0) <|
    .st (.act none (.px (some 1) (.mv (.c (.int .i64 0))))) .done) (.ret)
@[simp] def W191_1 := @C.wpe _ _ K191_1.eq_1
def K191_2 : C := .seq (.pl <| .st (.ext 2 0) <|
    .st (.act none (.px (some 1) (.mv (.c (.int .i64 1))))) .done) (.ret)
@[simp] def W191_2 := @C.wpe _ _ K191_2.eq_1
def K191_3 : C := .cond 2 (.v 2) K191_2 (.skip)
@[simp] def W191_3 := @C.wpe _ _ K191_3.eq_1
def K191_4 : C := .seq (.seq (.pl <| .st (.ext 2 1) <|
    .st (.act none (.px (some 2) (.mv (.v 0)))) .done) K191_3) K191_1
@[simp] def W191_4 := @C.wpe _ _ K191_4.eq_1
def B_impl_truth : C := .seq (.pl <| .st (.ext 2 0) <|
    .st (.act none (.px (some 1) (.mv (.c (.int .i64 0))))) .done) K191_4
@[simp] def WB_impl_truth := @C.wpe _ _ B_impl_truth.eq_1
def R_impl_truth : FIR := ⟨B_impl_truth, 2, [(1, none)]⟩
theorem IR_impl_truth : cfun Try.prog H_impl_truth Try.f191 = some R_impl_truth := by kernel_rfl
theorem EN_impl_truth {args : List Value} {h : Heap} {k : Value → Heap → Prop} (hargs : args.length = 1) (hw : B_impl_truth.wp Try.prog (retQ [(1, none)] k) (env0 args 2) h) : CallE Try.prog fn_impl_truth args h k := enter Try.func191 rfl IR_impl_truth hargs hw

def H_laws_FnApplyStep : Hint := ⟨[(0, false), (2, false), (3, true), (4, true), (5, true), (6, true), (7, false), (8, true), (9, false), (10, false), (11, false), (12, false), (13, false)], [[0, 1, 6, 7, 8, 11, 12], [0, 1, 6, 7, 8, 9, 10, 12]]⟩
def K10_1 : Pl := .st (.act none (.px (some 1) (.mv (.v 15)))) .done
@[simp] def W10_1 := @Pl.wpe _ _ K10_1.eq_1
def K10_2 : C := .seq (.pl <| .st (.ext 13 3) <|
    .st (.act none (.pget (some 13) none 2 0 (some 2))) <|
    .st (.act none (.pget (some 14) none 5 0 (some 2))) <|
    .st (.act none (.ex (some 15) (.call fn_impl_StateValid [.v 13, .v 14]))) K10_1) (.ret)
@[simp] def W10_2 := @C.wpe _ _ K10_2.eq_1
def K10_3 : C := .pl <| .st (.ext 13 2) <|
    .st (.act none (.px (some 13) (.mv (.v 11)))) <|
    .st (.act none (.px (some 14) (.bin .add (.v 13) (.c (.int .i64 1))))) <|
    .st (.act none (.px (some 11) (.mv (.v 14)))) .done
@[simp] def W10_3 := @C.wpe _ _ K10_3.eq_1
def K10_4 : C := .seq (.pl <| .st (.ext 13 0) <|
    .st (.act none (.px (some 1) (.mv (.c (.bool false))))) .done) (.ret)
@[simp] def W10_4 := @C.wpe _ _ K10_4.eq_1
def K10_5 : C := .cond 13 (.v 27) K10_4 (.skip)
@[simp] def W10_5 := @C.wpe _ _ K10_5.eq_1
def K10_6 : C := .seq (.pl <| .st (.ext 13 15) <|
    .st (.act none (.px (some 13) (.mv (.v 12)))) <|
    .st (.act none (.px (some 14) (.un .not (.v 13)))) <|
    .st (.act none (.px (some 15) (.mv (.v 14)))) <|
    .st (.act (some (.v 15, true)) (.als 16 none 5)) <|
    .st (.act (some (.v 15, true)) (.pget (some 17) (some 16) 5 1 none)) <|
    .st (.act (some (.v 15, true)) (.px (some 18) (.mv (.v 11)))) <|
    .st (.act (some (.v 15, true)) (.px (some 19) (.ia 1 (.v 17) (.v 18)))) <|
    .st (.act (some (.v 15, true)) (.ld (some 20) (.v 19) none)) <|
    .st (.act (some (.v 15, true)) (.als 21 none 3)) <|
    .st (.act (some (.v 15, true)) (.pget (some 22) (some 21) 3 1 none)) <|
    .st (.act (some (.v 15, true)) (.px (some 23) (.mv (.v 11)))) <|
    .st (.act (some (.v 15, true)) (.px (some 24) (.ia 1 (.v 22) (.v 23)))) <|
    .st (.act (some (.v 15, true)) (.ld (some 25) (.v 24) none)) <|
    .st (.act (some (.v 15, true)) (.px (some 26) (.bin .neq (.v 20) (.v 25)))) <|
    .st (.act none (.px (some 27) (.pick (.v 15) (.v 26) (.c (.bool false))))) .done) K10_5
@[simp] def W10_6 := @C.wpe _ _ K10_6.eq_1
def K10_7 : C := .pl <| .st (.ext 13 17) <|
    .st (.act none (.px (some 13) (.mv (.v 12)))) <|
    .st (.act none (.px (some 14) (.mv (.v 13)))) <|
    .st (.act (some (.v 14, false)) (.als 15 none 2)) <|
    .st (.act (some (.v 14, false)) (.pget (some 16) (some 15) 2 1 none)) <|
    .st (.act (some (.v 14, false)) (.als 17 none 4)) <|
    .st (.act (some (.v 14, false)) (.pget (some 18) (some 17) 4 2 none)) <|
    .st (.act (some (.v 14, false)) (.px (some 19) (.ia 2 (.v 16) (.v 18)))) <|
    .st (.act (some (.v 14, false)) (.px (some 20) (.fa 1 (.v 19)))) <|
    .st (.act (some (.v 14, false)) (.ld (some 21) (.v 20) none)) <|
    .st (.act (some (.v 14, false)) (.als 22 none 4)) <|
    .st (.act (some (.v 14, false)) (.pget (some 23) (some 22) 4 3 none)) <|
    .st (.act (some (.v 14, false)) (.px (some 24) (.ia 10 (.v 21) (.v 23)))) <|
    .st (.act (some (.v 14, false)) (.px (some 25) (.fa 5 (.v 24)))) <|
    .st (.act (some (.v 14, false)) (.ld (some 26) (.v 25) none)) <|
    .st (.act (some (.v 14, false)) (.px (some 27) (.mv (.v 11)))) <|
    .st (.act (some (.v 14, false)) (.px (some 28) (.bin .eql (.v 26) (.v 27)))) <|
    .st (.act none (.px (some 29) (.pick (.v 14) (.c (.bool true)) (.v 28)))) <|
    .st (.act none (.px (some 12) (.mv (.v 29)))) .done
@[simp] def W10_7 := @C.wpe _ _ K10_7.eq_1
def K10_8 : C := .cond 13 (.v 15) K10_7 (.skip)
@[simp] def W10_8 := @C.wpe _ _ K10_8.eq_1
def K10_9 : C := .seq (.seq (.pl <| .st (.ext 13 3) <|
    .st (.act none (.als 13 none 4)) <|
    .st (.act none (.pget (some 14) (some 13) 4 2 none)) <|
    .st (.act none (.px (some 15) (.bin .geq (.v 14) (.c (.int .i64 0))))) .done) K10_8) K10_6
@[simp] def W10_9 := @C.wpe _ _ K10_9.eq_1
def K10_10 : C := .seq (.block 3 (.seq (.pl <| .st (.ext 13 14) <|
    .st (.act none (.als 13 none 2)) <|
    .st (.act none (.pget (some 14) (some 13) 2 1 none)) <|
    .st (.act none (.als 15 none 4)) <|
    .st (.act none (.pget (some 16) (some 15) 4 0 none)) <|
    .st (.act none (.px (some 17) (.ia 2 (.v 14) (.v 16)))) <|
    .st (.act none (.px (some 18) (.fa 1 (.v 17)))) <|
    .st (.act none (.ld (some 19) (.v 18) none)) <|
    .st (.act none (.als 20 none 4)) <|
    .st (.act none (.pget (some 21) (some 20) 4 1 none)) <|
    .st (.act none (.px (some 22) (.ia 10 (.v 19) (.v 21)))) <|
    .st (.act none (.px (some 23) (.fa 5 (.v 22)))) <|
    .st (.act none (.ld (some 24) (.v 23) none)) <|
    .st (.act none (.px (some 25) (.mv (.v 11)))) <|
    .st (.act none (.px (some 26) (.bin .eql (.v 24) (.v 25)))) <|
    .st (.act none (.px (some 12) (.mv (.v 26)))) .done) K10_9)) K10_3
@[simp] def W10_10 := @C.wpe _ _ K10_10.eq_1
def K10_11 : C := .cond 13 (.v 17) (.skip) (.exit 2)
@[simp] def W10_11 := @C.wpe _ _ K10_11.eq_1
def K10_12 : C := .seq (.seq (.pl <| .st (.ext 13 5) <|
    .st (.act none (.px (some 13) (.mv (.v 11)))) <|
    .st (.act none (.als 14 none 3)) <|
    .st (.act none (.pget (some 15) (some 14) 3 1 none)) <|
    .st (.act none (.px (some 16) (.lenV (.v 15)))) <|
    .st (.act none (.px (some 17) (.bin .lss (.v 13) (.v 16)))) .done) K10_11) K10_10
@[simp] def W10_12 := @C.wpe _ _ K10_12.eq_1
def K10_13 : C := .block 2 (.loop 13 [0, 1, 6, 7, 8, 9, 10, 12] K10_12)
@[simp] def W10_13 := @C.wpe _ _ K10_13.eq_1
def K10_14 : C := .seq (.seq (.pl <| .st (.ext 13 0) <|
    .st (.act none (.px (some 11) (.mv (.c (.int .i64 0))))) .done) K10_13) K10_2
@[simp] def W10_14 := @C.wpe _ _ K10_14.eq_1
def K10_15 : C := .pl <| .st (.ext 13 2) <|
    .st (.act none (.px (some 13) (.mv (.v 10)))) <|
    .st (.act none (.px (some 14) (.bin .add (.v 13) (.c (.int .i64 1))))) <|
    .st (.act none (.px (some 10) (.mv (.v 14)))) .done
@[simp] def W10_15 := @C.wpe _ _ K10_15.eq_1
def K10_16 : C := .seq (.pl <| .st (.ext 13 0) <|
    .st (.act none (.px (some 1) (.mv (.c (.bool false))))) .done) (.ret)
@[simp] def W10_16 := @C.wpe _ _ K10_16.eq_1
def K10_17 : C := .cond 13 (.v 30) K10_16 (.skip)
@[simp] def W10_17 := @C.wpe _ _ K10_17.eq_1
def K10_18 : C := .seq (.block 1 (.seq (.pl <| .st (.ext 13 18) <|
    .st (.act none (.px (some 13) (.mv (.v 9)))) <|
    .st (.act none (.px (some 14) (.mv (.v 10)))) <|
    .st (.act none (.px (some 15) (.ia 1 (.v 13) (.v 14)))) <|
    .st (.act none (.ld (some 16) (.v 15) none)) <|
    .st (.act none (.px (some 17) (.un .not (.v 16)))) <|
    .st (.act none (.px (some 18) (.mv (.v 17)))) <|
    .st (.act (some (.v 18, true)) (.als 19 none 5)) <|
    .st (.act (some (.v 18, true)) (.pget (some 20) (some 19) 5 0 none)) <|
    .st (.act (some (.v 18, true)) (.px (some 21) (.mv (.v 10)))) <|
    .st (.act (some (.v 18, true)) (.px (some 22) (.ia 1 (.v 20) (.v 21)))) <|
    .st (.act (some (.v 18, true)) (.ld (some 23) (.v 22) none)) <|
    .st (.act (some (.v 18, true)) (.als 24 none 3)) <|
    .st (.act (some (.v 18, true)) (.pget (some 25) (some 24) 3 0 none)) <|
    .st (.act (some (.v 18, true)) (.px (some 26) (.mv (.v 10)))) <|
    .st (.act (some (.v 18, true)) (.px (some 27) (.ia 1 (.v 25) (.v 26)))) <|
    .st (.act (some (.v 18, true)) (.ld (some 28) (.v 27) none)) <|
    .st (.act (some (.v 18, true)) (.px (some 29) (.bin .neq (.v 23) (.v 28)))) <|
    .st (.act none (.px (some 30) (.pick (.v 18) (.v 29) (.c (.bool false))))) .done) K10_17)) K10_15
@[simp] def W10_18 := @C.wpe _ _ K10_18.eq_1
def K10_19 : C := .cond 13 (.v 17) (.skip) (.exit 0)
@[simp] def W10_19 := @C.wpe _ _ K10_19.eq_1
def K10_20 : C := .seq (.seq (.pl <| .st (.ext 13 5) <|
    .st (.act none (.px (some 13) (.mv (.v 10)))) <|
    .st (.act none (.als 14 none 3)) <|
    .st (.act none (.pget (some 15) (some 14) 3 0 none)) <|
    .st (.act none (.px (some 16) (.lenV (.v 15)))) <|
    .st (.act none (.px (some 17) (.bin .lss (.v 13) (.v 16)))) .done) K10_19) K10_18
@[simp] def W10_20 := @C.wpe _ _ K10_20.eq_1
def K10_21 : C := .block 0 (.loop 13 [0, 1, 6, 7, 8, 11, 12] K10_20)
@[simp] def W10_21 := @C.wpe _ _ K10_21.eq_1
def K10_22 : C := .seq (.seq (.pl <| .st (.ext 13 0) <|
    .st (.act none (.px (some 10) (.mv (.c (.int .i64 0))))) .done) K10_21) K10_14
@[simp] def W10_22 := @C.wpe _ _ K10_22.eq_1
def K10_23 : Pl := .st (.act none (.px (some 9) (.mv (.v 15)))) .done
@[simp] def W10_23 := @Pl.wpe _ _ K10_23.eq_1
def K10_24 : C := .seq (.pl <| .st (.ext 13 3) <|
    .st (.act none (.pget (some 13) none 2 0 (some 2))) <|
    .st (.act none (.pget (some 14) none 4 0 (some 4))) <|
    .st (.act none (.ex (some 15) (.call fn_impl_StepProcesses [.v 13, .v 14]))) K10_23) K10_22
@[simp] def W10_24 := @C.wpe _ _ K10_24.eq_1
def K10_25 : Pl := .st (.act none (.px (some 20) (.pick (.v 16) (.v 19) (.c (.bool false))))) <|
    .st (.act none (.px (some 1) (.mv (.v 20)))) .done
@[simp] def W10_25 := @Pl.wpe _ _ K10_25.eq_1
def K10_26 : C := .seq (.pl <| .st (.ext 13 8) <|
    .st (.act none (.px (some 13) (.mv (.v 6)))) <|
    .st (.act none (.px (some 14) (.mv (.v 8)))) <|
    .st (.act none (.px (some 15) (.eqb false (.v 13) (.v 14)))) <|
    .st (.act none (.px (some 16) (.mv (.v 15)))) <|
    .st (.act (some (.v 16, true)) (.pget (some 17) none 5 0 (some 2))) <|
    .st (.act (some (.v 16, true)) (.pget (some 18) none 7 0 (some 2))) <|
    .st (.act (some (.v 16, true)) (.ex (some 19) (.call fn_impl_StateSame [.v 17, .v 18]))) K10_25) (.ret)
@[simp] def W10_26 := @C.wpe _ _ K10_26.eq_1
def K10_27 : C := .cond 13 (.v 25) K10_26 (.skip)
@[simp] def W10_27 := @C.wpe _ _ K10_27.eq_1
def K10_28 : Pl := .st (.act (some (.v 16, false)) (.px (some 20) (.un .not (.v 19)))) <|
    .st (.act none (.px (some 21) (.pick (.v 16) (.c (.bool true)) (.v 20)))) <|
    .st (.act none (.px (some 22) (.mv (.v 21)))) <|
    .st (.act (some (.v 22, false)) (.px (some 23) (.mv (.v 6)))) <|
    .st (.act (some (.v 22, false)) (.px (some 24) (.un .not (.v 23)))) <|
    .st (.act none (.px (some 25) (.pick (.v 22) (.c (.bool true)) (.v 24)))) .done
@[simp] def W10_28 := @Pl.wpe _ _ K10_28.eq_1
def K10_29 : C := .seq (.seq (.pl <| .st (.ext 13 13) <|
    .st (.act none (.px (some 13) (.mv (.v 6)))) <|
    .st (.act none (.px (some 14) (.mv (.v 8)))) <|
    .st (.act none (.px (some 15) (.eqb true (.v 13) (.v 14)))) <|
    .st (.act none (.px (some 16) (.mv (.v 15)))) <|
    .st (.act (some (.v 16, false)) (.pget (some 17) none 5 0 (some 2))) <|
    .st (.act (some (.v 16, false)) (.pget (some 18) none 7 0 (some 2))) <|
    .st (.act (some (.v 16, false)) (.ex (some 19) (.call fn_impl_StateSame [.v 17, .v 18]))) K10_28) K10_27) K10_24
@[simp] def W10_29 := @C.wpe _ _ K10_29.eq_1
def K10_30 : Pl := .st (.act none (.px (some 17) (.mv (.v 16)))) <|
    .st (.act none (.px (some 18) (.extract 0 (.v 17)))) <|
    .st (.act none (.px (some 19) (.extract 1 (.v 17)))) <|
    .st (.act none (.pnew 7 (.c (.agg #[.slice none 0 0, .slice none 0 0])) [])) <|
    .st (.act none (.pset none 7 0 2 (.v 18))) <|
    .st (.act none (.px (some 8) (.mv (.v 19)))) .done
@[simp] def W10_30 := @Pl.wpe _ _ K10_30.eq_1
def K10_31 : C := .seq (.pl <| .st (.ext 13 7) <|
    .st (.act none (.pget (some 13) none 2 0 (some 2))) <|
    .st (.act none (.pget (some 14) none 3 0 (some 2))) <|
    .st (.act none (.pget (some 15) none 4 0 (some 4))) <|
    .st (.act none (.ex (some 16) (.call fn_spec_ApplyStep [.v 13, .v 14, .v 15]))) K10_30) K10_29
@[simp] def W10_31 := @C.wpe _ _ K10_31.eq_1
def K10_32 : Pl := .st (.act none (.px (some 17) (.mv (.v 16)))) <|
    .st (.act none (.px (some 18) (.extract 0 (.v 17)))) <|
    .st (.act none (.px (some 19) (.extract 1 (.v 17)))) <|
    .st (.act none (.pnew 5 (.c (.agg #[.slice none 0 0, .slice none 0 0])) [])) <|
    .st (.act none (.pset none 5 0 2 (.v 18))) <|
    .st (.act none (.px (some 6) (.mv (.v 19)))) .done
@[simp] def W10_32 := @Pl.wpe _ _ K10_32.eq_1
def K10_33 : C := .seq (.pl <| .st (.ext 13 7) <|
    .st (.act none (.pget (some 13) none 2 0 (some 2))) <|
    .st (.act none (.pget (some 14) none 3 0 (some 2))) <|
    .st (.act none (.pget (some 15) none 4 0 (some 4))) <|
    .st (.act none (.ex (some 16) (.call fn_impl_ApplyStep [.v 13, .v 14, .v 15]))) K10_32) K10_31
@[simp] def W10_33 := @C.wpe _ _ K10_33.eq_1
def K10_34 : Pl := .st (.act none (.px (some 15) (.mv (.v 14)))) <|
    .st (.act none (.px (some 16) (.extract 0 (.v 15)))) <|
    .st (.act none (.px (some 17) (.extract 1 (.v 15)))) <|
    .st (.act none (.px (some 18) (.extract 2 (.v 15)))) <|
    .st (.act none (.pnew 2 (.c (.agg #[.slice none 0 0, .slice none 0 0])) [])) <|
    .st (.act none (.pnew 3 (.c (.agg #[.slice none 0 0, .slice none 0 0])) [])) <|
    .st (.act none (.pnew 4 (.c (.agg #[.int .i64 0, .int .i64 0, .int .i64 0, .int .i64 0])) [])) <|
    .st (.act none (.pset none 2 0 2 (.v 16))) <|
    .st (.act none (.pset none 3 0 2 (.v 17))) <|
    .st (.act none (.pset none 4 0 4 (.v 18))) .done
@[simp] def W10_34 := @Pl.wpe _ _ K10_34.eq_1
def K10_35 : C := .seq (.pl <| .st (.ext 13 6) <|
    .st (.act none (.px (some 13) (.mv (.v 0)))) <|
    .st (.act none (.ex (some 14) (.call fn_spec_DrawApplyStep [.v 13]))) K10_34) K10_33
@[simp] def W10_35 := @C.wpe _ _ K10_35.eq_1
def K10_36 : C := .seq (.pl <| .st (.ext 13 0) <|
    .st (.act none (.px (some 1) (.mv (.c (.bool true))))) .done) (.ret)
@[simp] def W10_36 := @C.wpe _ _ K10_36.eq_1
def K10_37 : C := .cond 13 (.v 15) K10_36 (.skip)
@[simp] def W10_37 := @C.wpe _ _ K10_37.eq_1
def K10_38 : C := .seq (.seq (.pl <| .st (.ext 13 3) <|
    .st (.act none (.px (some 13) (.mv (.v 0)))) <|
    .st (.act none (.px (some 14) (.lenV (.v 13)))) <|
    .st (.act none (.px (some 15) (.bin .gtr (.v 14) (.c (.int .i64 1048576))))) .done) K10_37) K10_35
@[simp] def W10_38 := @C.wpe _ _ K10_38.eq_1
def B_laws_FnApplyStep : C := .seq (.pl <| .st (.ext 13 0) <|
    .st (.act none (.px (some 1) (.mv (.c (.bool false))))) .done) K10_38
@[simp] def WB_laws_FnApplyStep := @C.wpe _ _ B_laws_FnApplyStep.eq_1
def R_laws_FnApplyStep : FIR := ⟨B_laws_FnApplyStep, 13, [(1, none)]⟩
theorem IR_laws_FnApplyStep : cfun Try.prog H_laws_FnApplyStep Try.f10 = some R_laws_FnApplyStep := by kernel_rfl
theorem EN_laws_FnApplyStep {args : List Value} {h : Heap} {k : Value → Heap → Prop} (hargs : args.length = 1) (hw : B_laws_FnApplyStep.wp Try.prog (retQ [(1, none)] k) (env0 args 13) h) : CallE Try.prog fn_laws_FnApplyStep args h k := enter Try.func10 rfl IR_laws_FnApplyStep hargs hw

def H_slices_Clip_S_impl_Step_impl_Step : Hint := ⟨[(0, false), (2, false)], []⟩
def K176_1 : C := .seq (.pl <| .st (.ext 2 6) <|
    .st (.act none (.px (some 2) (.mv (.v 0)))) <|
    .st (.act none (.px (some 3) (.mv (.v 0)))) <|
    .st (.act none (.px (some 4) (.lenV (.v 3)))) <|
    .st (.act none (.px (some 5) (.mv (.v 0)))) <|
    .st (.act none (.px (some 6) (.lenV (.v 5)))) <|
    .st (.act none (.px (some 7) (.sliceV 4 (.v 2) none (some (.v 4)) (some (.v 6))))) <|
    .st (.act none (.px (some 1) (.mv (.v 7)))) .done) (.ret)
@[simp] def W176_1 := @C.wpe _ _ K176_1.eq_1
def B_slices_Clip_S_impl_Step_impl_Step : C := .seq (.pl <| .st (.ext 2 0) <|
    .st (.act none (.px (some 1) (.mv (.c (.slice none 0 0))))) .done) K176_1
@[simp] def WB_slices_Clip_S_impl_Step_impl_Step := @C.wpe _ _ B_slices_Clip_S_impl_Step_impl_Step.eq_1
def R_slices_Clip_S_impl_Step_impl_Step : FIR := ⟨B_slices_Clip_S_impl_Step_impl_Step, 2, [(1, none)]⟩
theorem IR_slices_Clip_S_impl_Step_impl_Step : cfun Try.prog H_slices_Clip_S_impl_Step_impl_Step Try.f176 = some R_slices_Clip_S_impl_Step_impl_Step := by kernel_rfl
theorem EN_slices_Clip_S_impl_Step_impl_Step {args : List Value} {h : Heap} {k : Value → Heap → Prop} (hargs : args.length = 1) (hw : B_slices_Clip_S_impl_Step_impl_Step.wp Try.prog (retQ [(1, none)] k) (env0 args 2) h) : CallE Try.prog fn_slices_Clip_S_impl_Step_impl_Step args h k := enter Try.func176 rfl IR_slices_Clip_S_impl_Step_impl_Step hargs hw

def H_slices_Contains_S_impl_Step_impl_Step : Hint := ⟨[(0, false), (1, false), (3, true), (4, false)], []⟩
def K91_1 : Pl := .st (.act none (.px (some 7) (.bin .geq (.v 6) (.c (.int .i64 0))))) <|
    .st (.act none (.px (some 3) (.mv (.v 7)))) .done
@[simp] def W91_1 := @Pl.wpe _ _ K91_1.eq_1
def K91_2 : C := .seq (.pl <| .st (.ext 4 4) <|
    .st (.act none (.px (some 4) (.mv (.v 0)))) <|
    .st (.act none (.pget (some 5) none 2 0 (some 4))) <|
    .st (.act none (.ex (some 6) (.call fn_slices_Index_S_impl_Step_impl_Step [.v 4, .v 5]))) K91_1) (.ret)
@[simp] def W91_2 := @C.wpe _ _ K91_2.eq_1
def B_slices_Contains_S_impl_Step_impl_Step : C := .seq (.pl <| .st (.ext 4 0) <|
    .st (.act none (.pnew 2 (.v 1) [])) <|
    .st (.act none (.px (some 3) (.mv (.c (.bool false))))) .done) K91_2
@[simp] def WB_slices_Contains_S_impl_Step_impl_Step := @C.wpe _ _ B_slices_Contains_S_impl_Step_impl_Step.eq_1
def R_slices_Contains_S_impl_Step_impl_Step : FIR := ⟨B_slices_Contains_S_impl_Step_impl_Step, 4, [(3, none)]⟩
theorem IR_slices_Contains_S_impl_Step_impl_Step : cfun Try.prog H_slices_Contains_S_impl_Step_impl_Step Try.f91 = some R_slices_Contains_S_impl_Step_impl_Step := by kernel_rfl
theorem EN_slices_Contains_S_impl_Step_impl_Step {args : List Value} {h : Heap} {k : Value → Heap → Prop} (hargs : args.length = 2) (hw : B_slices_Contains_S_impl_Step_impl_Step.wp Try.prog (retQ [(3, none)] k) (env0 args 4) h) : CallE Try.prog fn_slices_Contains_S_impl_Step_impl_Step args h k := enter Try.func91 rfl IR_slices_Contains_S_impl_Step_impl_Step hargs hw

def H_slices_Index_S_impl_Step_impl_Step : Hint := ⟨[(0, false), (1, false), (3, true), (4, false), (5, false), (7, false), (8, false)], [[1, 3, 4]]⟩
def K139_1 : C := .seq (.pl <| .st (.ext 7 0) <|
    .st (.act none (.px (some 3) (.mv (.c (.int .i64 (-1)))))) .done) (.ret)
@[simp] def W139_1 := @C.wpe _ _ K139_1.eq_1
def K139_2 : C := .pl <| .st (.ext 7 1) <|
    .st (.act none (.px (some 7) (.bin .add (.v 6) (.c (.int .i64 1))))) <|
    .st (.act none (.px (some 6) (.mv (.v 7)))) .done
@[simp] def W139_2 := @C.wpe _ _ K139_2.eq_1
def K139_3 : C := .seq (.pl <| .st (.ext 7 1) <|
    .st (.act none (.px (some 7) (.mv (.v 4)))) <|
    .st (.act none (.px (some 3) (.mv (.v 7)))) .done) (.ret)
@[simp] def W139_3 := @C.wpe _ _ K139_3.eq_1
def K139_4 : C := .cond 7 (.v 12) K139_3 (.skip)
@[simp] def W139_4 := @C.wpe _ _ K139_4.eq_1
def K139_5 : C := .seq (.pl <| .st (.ext 7 6) <|
    .st (.act none (.pget (some 7) none 2 0 (some 4))) <|
    .st (.act none (.px (some 8) (.mv (.v 0)))) <|
    .st (.act none (.px (some 9) (.mv (.v 4)))) <|
    .st (.act none (.px (some 10) (.ia 4 (.v 8) (.v 9)))) <|
    .st (.act none (.ld (some 11) (.v 10) (some 4))) <|
    .st (.act none (.px (some 12) (.eqf false [.i, .i, .i, .i] (.v 7) (.v 11)))) .done) K139_4
@[simp] def W139_5 := @C.wpe _ _ K139_5.eq_1
def K139_6 : C := .seq (.block 1 (.seq (.pl <| .st (.ext 7 1) <|
    .st (.act none (.px (some 7) (.mv (.v 6)))) <|
    .st (.act none (.px (some 4) (.mv (.v 7)))) .done) K139_5)) K139_2
@[simp] def W139_6 := @C.wpe _ _ K139_6.eq_1
def K139_7 : C := .seq (.cond 7 (.v 7) (.skip) (.exit 0)) K139_6
@[simp] def W139_7 := @C.wpe _ _ K139_7.eq_1
def K139_8 : C := .seq (.pl <| .st (.ext 7 1) <|
    .st (.act none (.px (some 7) (.bin .lss (.v 6) (.v 5)))) .done) K139_7
@[simp] def W139_8 := @C.wpe _ _ K139_8.eq_1
def K139_9 : C := .block 0 (.loop 7 [1, 3, 4] K139_8)
@[simp] def W139_9 := @C.wpe _ _ K139_9.eq_1
def K139_10 : C := .seq (.seq (.pl <| .st (.ext 7 1) <|
    .st (.act none (.px (some 7) (.mv (.v 0)))) <|
    .st (.act none (.px (some 5) (.lenV (.v 7)))) <|
    .st (.act none (.px (some 6) (.mv (.c (.int .i64 0))))) .done) K139_9) K139_1
@[simp] def W139_10 := @C.wpe _ _ K139_10.eq_1
def B_slices_Index_S_impl_Step_impl_Step : C := .seq (.pl <| .st (.ext 7 0) <|
    .st (.act none (.pnew 2 (.v 1) [])) <|
    .st (.act none (.px (some 3) (.mv (.c (.int .i64 0))))) .done) K139_10
@[simp] def WB_slices_Index_S_impl_Step_impl_Step := @C.wpe _ _ B_slices_Index_S_impl_Step_impl_Step.eq_1
def R_slices_Index_S_impl_Step_impl_Step : FIR := ⟨B_slices_Index_S_impl_Step_impl_Step, 7, [(3, none)]⟩
theorem IR_slices_Index_S_impl_Step_impl_Step : cfun Try.prog H_slices_Index_S_impl_Step_impl_Step Try.f139 = some R_slices_Index_S_impl_Step_impl_Step := by kernel_rfl
theorem EN_slices_Index_S_impl_Step_impl_Step {args : List Value} {h : Heap} {k : Value → Heap → Prop} (hargs : args.length = 2) (hw : B_slices_Index_S_impl_Step_impl_Step.wp Try.prog (retQ [(3, none)] k) (env0 args 7) h) : CallE Try.prog fn_slices_Index_S_impl_Step_impl_Step args h k := enter Try.func139 rfl IR_slices_Index_S_impl_Step_impl_Step hargs hw

def H_spec_ApplyStep : Hint := ⟨[(0, false), (1, false), (2, false), (3, true), (4, true), (5, true), (6, true), (7, false), (8, false), (9, false)], [[0, 1, 2, 7]]⟩
def K43_1 : C := .seq (.pl <| .st (.ext 10 1) <|
    .st (.act none (.px (some 10) (.build [.slice none 0 0, .slice none 0 0] []))) <|
    .st (.act none (.pset none 6 0 2 (.v 10))) <|
    .st (.act none (.px (some 7) (.mv (.c (.bool false))))) .done) (.ret)
@[simp] def W43_1 := @C.wpe _ _ K43_1.eq_1
def K43_2 : C := .pl <| .st (.ext 10 2) <|
    .st (.act none (.px (some 10) (.mv (.v 9)))) <|
    .st (.act none (.px (some 11) (.bin .add (.v 10) (.c (.int .i64 1))))) <|
    .st (.act none (.px (some 9) (.mv (.v 11)))) .done
@[simp] def W43_2 := @C.wpe _ _ K43_2.eq_1
def K43_3 : Pl := .st (.act none (.pset none 6 0 2 (.v 13))) <|
    .st (.act none (.px (some 7) (.mv (.c (.bool true))))) .done
@[simp] def W43_3 := @Pl.wpe _ _ K43_3.eq_1
def K43_4 : C := .seq (.pl <| .st (.ext 10 4) <|
    .st (.act none (.pget (some 10) none 3 0 (some 2))) <|
    .st (.act none (.pget (some 11) none 4 0 (some 2))) <|
    .st (.act none (.pget (some 12) none 5 0 (some 4))) <|
    .st (.act none (.ex (some 13) (.call fn_spec_l3Apply [.v 10, .v 11, .v 12]))) K43_3) (.ret)
@[simp] def W43_4 := @C.wpe _ _ K43_4.eq_1
def K43_5 : C := .cond 10 (.v 15) K43_4 (.skip)
@[simp] def W43_5 := @C.wpe _ _ K43_5.eq_1
def K43_6 : C := .seq (.block 1 (.seq (.pl <| .st (.ext 10 6) <|
    .st (.act none (.px (some 10) (.mv (.v 8)))) <|
    .st (.act none (.px (some 11) (.mv (.v 9)))) <|
    .st (.act none (.px (some 12) (.ia 4 (.v 10) (.v 11)))) <|
    .st (.act none (.ld (some 13) (.v 12) (some 4))) <|
    .st (.act none (.pget (some 14) none 5 0 (some 4))) <|
    .st (.act none (.px (some 15) (.eqf false [.i, .i, .i, .i] (.v 13) (.v 14)))) .done) K43_5)) K43_2
@[simp] def W43_6 := @C.wpe _ _ K43_6.eq_1
def K43_7 : C := .cond 10 (.v 13) (.skip) (.exit 0)
@[simp] def W43_7 := @C.wpe _ _ K43_7.eq_1
def K43_8 : C := .seq (.seq (.pl <| .st (.ext 10 4) <|
    .st (.act none (.px (some 10) (.mv (.v 9)))) <|
    .st (.act none (.px (some 11) (.mv (.v 8)))) <|
    .st (.act none (.px (some 12) (.lenV (.v 11)))) <|
    .st (.act none (.px (some 13) (.bin .lss (.v 10) (.v 12)))) .done) K43_7) K43_6
@[simp] def W43_8 := @C.wpe _ _ K43_8.eq_1
def K43_9 : C := .block 0 (.loop 10 [0, 1, 2, 7] K43_8)
@[simp] def W43_9 := @C.wpe _ _ K43_9.eq_1
def K43_10 : C := .seq (.seq (.pl <| .st (.ext 10 0) <|
    .st (.act none (.px (some 9) (.mv (.c (.int .i64 0))))) .done) K43_9) K43_1
@[simp] def W43_10 := @C.wpe _ _ K43_10.eq_1
def K43_11 : Pl := .st (.act none (.px (some 8) (.mv (.v 12)))) .done
@[simp] def W43_11 := @Pl.wpe _ _ K43_11.eq_1
def K43_12 : C := .seq (.pl <| .st (.ext 10 3) <|
    .st (.act none (.pget (some 10) none 3 0 (some 2))) <|
    .st (.act none (.pget (some 11) none 4 0 (some 2))) <|
    .st (.act none (.ex (some 12) (.call fn_spec_EnabledSteps [.v 10, .v 11]))) K43_11) K43_10
@[simp] def W43_12 := @C.wpe _ _ K43_12.eq_1
def B_spec_ApplyStep : C := .seq (.pl <| .st (.ext 10 0) <|
    .st (.act none (.pnew 3 (.v 0) [])) <|
    .st (.act none (.pnew 4 (.v 1) [])) <|
    .st (.act none (.pnew 5 (.v 2) [])) <|
    .st (.act none (.pnew 6 (.c (.agg #[.slice none 0 0, .slice none 0 0])) [])) <|
    .st (.act none (.px (some 7) (.mv (.c (.bool false))))) .done) K43_12
@[simp] def WB_spec_ApplyStep := @C.wpe _ _ B_spec_ApplyStep.eq_1
def R_spec_ApplyStep : FIR := ⟨B_spec_ApplyStep, 10, [(6, some (some 2)), (7, none)]⟩
theorem IR_spec_ApplyStep : cfun Try.prog H_spec_ApplyStep Try.f43 = some R_spec_ApplyStep := by kernel_rfl
theorem EN_spec_ApplyStep {args : List Value} {h : Heap} {k : Value → Heap → Prop} (hargs : args.length = 3) (hw : B_spec_ApplyStep.wp Try.prog (retQ [(6, some (some 2)), (7, none)] k) (env0 args 10) h) : CallE Try.prog fn_spec_ApplyStep args h k := enter Try.func43 rfl IR_spec_ApplyStep hargs hw


end Go.Proofs.Ythgimpheeemooaa

/-
  Bodies of functions in the small language, as a program printed them, and that each is what the translation gives.
-/
namespace Go.Proofs.Ythgimpheeemooaa
open Go
set_option linter.all false
set_option linter.defProp false
set_option maxRecDepth 1000000

def H_spec_DrawApplyStep : Hint := ⟨[(0, false), (2, true), (3, true), (4, true), (5, true), (6, true), (7, false), (8, false)], []⟩
def K53_1 : Pl := .st (.act none (.px (some 21) (.build [.int .i64 0, .int .i64 0, .int .i64 0, .int .i64 0] [(0, 1, .v 12), (1, 1, .v 14), (2, 1, .v 17), (3, 1, .v 20)]))) <|
    .st (.act none (.pset none 1 0 2 (.v 8))) <|
    .st (.act none (.pset none 2 0 2 (.v 9))) <|
    .st (.act none (.pset none 3 0 4 (.v 21))) .done
@[simp] def W53_1 := @Pl.wpe _ _ K53_1.eq_1
def K53_2 : Pl := .st (.act none (.ex (some 20) (.call fn_spec_l16Rd_num [.v 18, .v 19]))) K53_1
@[simp] def W53_2 := @Pl.wpe _ _ K53_2.eq_1
def K53_3 : Pl := .st (.act none (.ex (some 19) (.bls 1 3 [.int .i64 0] [(0, 1, .c (.int .i64 (-1))), (1, 1, .c (.int .i64 0)), (2, 1, .c (.int .i64 1))]))) K53_2
@[simp] def W53_3 := @Pl.wpe _ _ K53_3.eq_1
def K53_4 : Pl := .st (.act none (.ex (some 17) (.call fn_spec_l16Rd_num [.v 15, .v 16]))) K53_3
@[simp] def W53_4 := @Pl.wpe _ _ K53_4.eq_1
def K53_5 : Pl := .st (.act none (.px (some 21) (.build [.int .i64 0, .int .i64 0, .int .i64 0, .int .i64 0] [(0, 1, .v 12), (1, 1, .v 14), (2, 1, .v 17), (3, 1, .v 20)]))) <|
    .st (.act none (.pset none 1 0 2 (.v 8))) <|
    .st (.act none (.pset none 2 0 2 (.v 9))) <|
    .st (.act none (.pset none 3 0 4 (.v 21))) .done
@[simp] def W53_5 := @Pl.wpe _ _ K53_5.eq_1
def K53_6 : Pl := .st (.act none (.ex (some 20) (.call fn_spec_l16Rd_num [.v 18, .v 19]))) K53_5
@[simp] def W53_6 := @Pl.wpe _ _ K53_6.eq_1
def K53_7 : Pl := .st (.act none (.ex (some 17) (.call fn_spec_l16Rd_num [.v 15, .v 16]))) K53_6
@[simp] def W53_7 := @Pl.wpe _ _ K53_7.eq_1
def K53_8 : Pl := .st (.act none (.ex (some 19) (.bls 1 3 [.int .i64 0] [(0, 1, .c (.int .i64 (-1))), (1, 1, .c (.int .i64 0)), (2, 1, .c (.int .i64 1))]))) K53_7
@[simp] def W53_8 := @Pl.wpe _ _ K53_8.eq_1
def K53_9 : Pl := .both K53_4 K53_8
@[simp] def W53_9 := @Pl.wpe _ _ K53_9.eq_1
def K53_10 : Pl := .st (.act none (.ex (some 16) (.bls 1 3 [.int .i64 0] [(0, 1, .c (.int .i64 (-1))), (1, 1, .c (.int .i64 0)), (2, 1, .c (.int .i64 1))]))) K53_9
@[simp] def W53_10 := @Pl.wpe _ _ K53_10.eq_1
def K53_11 : Pl := .st (.act none (.px (some 21) (.build [.int .i64 0, .int .i64 0, .int .i64 0, .int .i64 0] [(0, 1, .v 12), (1, 1, .v 14), (2, 1, .v 17), (3, 1, .v 20)]))) <|
    .st (.act none (.pset none 1 0 2 (.v 8))) <|
    .st (.act none (.pset none 2 0 2 (.v 9))) <|
    .st (.act none (.pset none 3 0 4 (.v 21))) .done
@[simp] def W53_11 := @Pl.wpe _ _ K53_11.eq_1
def K53_12 : Pl := .st (.act none (.ex (some 20) (.call fn_spec_l16Rd_num [.v 18, .v 19]))) K53_11
@[simp] def W53_12 := @Pl.wpe _ _ K53_12.eq_1
def K53_13 : Pl := .st (.act none (.ex (some 17) (.call fn_spec_l16Rd_num [.v 15, .v 16]))) K53_12
@[simp] def W53_13 := @Pl.wpe _ _ K53_13.eq_1
def K53_14 : Pl := .st (.act none (.ex (some 16) (.bls 1 3 [.int .i64 0] [(0, 1, .c (.int .i64 (-1))), (1, 1, .c (.int .i64 0)), (2, 1, .c (.int .i64 1))]))) K53_13
@[simp] def W53_14 := @Pl.wpe _ _ K53_14.eq_1
def K53_15 : Pl := .st (.act none (.ex (some 19) (.bls 1 3 [.int .i64 0] [(0, 1, .c (.int .i64 (-1))), (1, 1, .c (.int .i64 0)), (2, 1, .c (.int .i64 1))]))) K53_14
@[simp] def W53_15 := @Pl.wpe _ _ K53_15.eq_1
def K53_16 : Pl := .both K53_10 K53_15
@[simp] def W53_16 := @Pl.wpe _ _ K53_16.eq_1
def K53_17 : Pl := .st (.act none (.ex (some 14) (.call fn_spec_l16Rd_pick [.v 13, .c (.int .i64 4)]))) K53_16
@[simp] def W53_17 := @Pl.wpe _ _ K53_17.eq_1
def K53_18 : Pl := .st (.act none (.px (some 21) (.build [.int .i64 0, .int .i64 0, .int .i64 0, .int .i64 0] [(0, 1, .v 12), (1, 1, .v 14), (2, 1, .v 17), (3, 1, .v 20)]))) <|
    .st (.act none (.pset none 1 0 2 (.v 8))) <|
    .st (.act none (.pset none 2 0 2 (.v 9))) <|
    .st (.act none (.pset none 3 0 4 (.v 21))) .done
@[simp] def W53_18 := @Pl.wpe _ _ K53_18.eq_1
def K53_19 : Pl := .st (.act none (.ex (some 20) (.call fn_spec_l16Rd_num [.v 18, .v 19]))) K53_18
@[simp] def W53_19 := @Pl.wpe _ _ K53_19.eq_1
def K53_20 : Pl := .st (.act none (.ex (some 19) (.bls 1 3 [.int .i64 0] [(0, 1, .c (.int .i64 (-1))), (1, 1, .c (.int .i64 0)), (2, 1, .c (.int .i64 1))]))) K53_19
@[simp] def W53_20 := @Pl.wpe _ _ K53_20.eq_1
def K53_21 : Pl := .st (.act none (.ex (some 17) (.call fn_spec_l16Rd_num [.v 15, .v 16]))) K53_20
@[simp] def W53_21 := @Pl.wpe _ _ K53_21.eq_1
def K53_22 : Pl := .st (.act none (.px (some 21) (.build [.int .i64 0, .int .i64 0, .int .i64 0, .int .i64 0] [(0, 1, .v 12), (1, 1, .v 14), (2, 1, .v 17), (3, 1, .v 20)]))) <|
    .st (.act none (.pset none 1 0 2 (.v 8))) <|
    .st (.act none (.pset none 2 0 2 (.v 9))) <|
    .st (.act none (.pset none 3 0 4 (.v 21))) .done
@[simp] def W53_22 := @Pl.wpe _ _ K53_22.eq_1
def K53_23 : Pl := .st (.act none (.ex (some 20) (.call fn_spec_l16Rd_num [.v 18, .v 19]))) K53_22
@[simp] def W53_23 := @Pl.wpe _ _ K53_23.eq_1
def K53_24 : Pl := .st (.act none (.ex (some 17) (.call fn_spec_l16Rd_num [.v 15, .v 16]))) K53_23
@[simp] def W53_24 := @Pl.wpe _ _ K53_24.eq_1
def K53_25 : Pl := .st (.act none (.ex (some 19) (.bls 1 3 [.int .i64 0] [(0, 1, .c (.int .i64 (-1))), (1, 1, .c (.int .i64 0)), (2, 1, .c (.int .i64 1))]))) K53_24
@[simp] def W53_25 := @Pl.wpe _ _ K53_25.eq_1
def K53_26 : Pl := .both K53_21 K53_25
@[simp] def W53_26 := @Pl.wpe _ _ K53_26.eq_1
def K53_27 : Pl := .st (.act none (.ex (some 14) (.call fn_spec_l16Rd_pick [.v 13, .c (.int .i64 4)]))) K53_26
@[simp] def W53_27 := @Pl.wpe _ _ K53_27.eq_1
def K53_28 : Pl := .st (.act none (.px (some 21) (.build [.int .i64 0, .int .i64 0, .int .i64 0, .int .i64 0] [(0, 1, .v 12), (1, 1, .v 14), (2, 1, .v 17), (3, 1, .v 20)]))) <|
    .st (.act none (.pset none 1 0 2 (.v 8))) <|
    .st (.act none (.pset none 2 0 2 (.v 9))) <|
    .st (.act none (.pset none 3 0 4 (.v 21))) .done
@[simp] def W53_28 := @Pl.wpe _ _ K53_28.eq_1
def K53_29 : Pl := .st (.act none (.ex (some 20) (.call fn_spec_l16Rd_num [.v 18, .v 19]))) K53_28
@[simp] def W53_29 := @Pl.wpe _ _ K53_29.eq_1
def K53_30 : Pl := .st (.act none (.ex (some 17) (.call fn_spec_l16Rd_num [.v 15, .v 16]))) K53_29
@[simp] def W53_30 := @Pl.wpe _ _ K53_30.eq_1
def K53_31 : Pl := .st (.act none (.ex (some 14) (.call fn_spec_l16Rd_pick [.v 13, .c (.int .i64 4)]))) K53_30
@[simp] def W53_31 := @Pl.wpe _ _ K53_31.eq_1
def K53_32 : Pl := .st (.act none (.ex (some 19) (.bls 1 3 [.int .i64 0] [(0, 1, .c (.int .i64 (-1))), (1, 1, .c (.int .i64 0)), (2, 1, .c (.int .i64 1))]))) K53_31
@[simp] def W53_32 := @Pl.wpe _ _ K53_32.eq_1
def K53_33 : Pl := .both K53_27 K53_32
@[simp] def W53_33 := @Pl.wpe _ _ K53_33.eq_1
def K53_34 : Pl := .st (.act none (.ex (some 16) (.bls 1 3 [.int .i64 0] [(0, 1, .c (.int .i64 (-1))), (1, 1, .c (.int .i64 0)), (2, 1, .c (.int .i64 1))]))) K53_33
@[simp] def W53_34 := @Pl.wpe _ _ K53_34.eq_1
def K53_35 : Pl := .st (.act none (.px (some 21) (.build [.int .i64 0, .int .i64 0, .int .i64 0, .int .i64 0] [(0, 1, .v 12), (1, 1, .v 14), (2, 1, .v 17), (3, 1, .v 20)]))) <|
    .st (.act none (.pset none 1 0 2 (.v 8))) <|
    .st (.act none (.pset none 2 0 2 (.v 9))) <|
    .st (.act none (.pset none 3 0 4 (.v 21))) .done
@[simp] def W53_35 := @Pl.wpe _ _ K53_35.eq_1
def K53_36 : Pl := .st (.act none (.ex (some 20) (.call fn_spec_l16Rd_num [.v 18, .v 19]))) K53_35
@[simp] def W53_36 := @Pl.wpe _ _ K53_36.eq_1
def K53_37 : Pl := .st (.act none (.ex (some 17) (.call fn_spec_l16Rd_num [.v 15, .v 16]))) K53_36
@[simp] def W53_37 := @Pl.wpe _ _ K53_37.eq_1
def K53_38 : Pl := .st (.act none (.ex (some 16) (.bls 1 3 [.int .i64 0] [(0, 1, .c (.int .i64 (-1))), (1, 1, .c (.int .i64 0)), (2, 1, .c (.int .i64 1))]))) K53_37
@[simp] def W53_38 := @Pl.wpe _ _ K53_38.eq_1
def K53_39 : Pl := .st (.act none (.ex (some 14) (.call fn_spec_l16Rd_pick [.v 13, .c (.int .i64 4)]))) K53_38
@[simp] def W53_39 := @Pl.wpe _ _ K53_39.eq_1
def K53_40 : Pl := .st (.act none (.px (some 21) (.build [.int .i64 0, .int .i64 0, .int .i64 0, .int .i64 0] [(0, 1, .v 12), (1, 1, .v 14), (2, 1, .v 17), (3, 1, .v 20)]))) <|
    .st (.act none (.pset none 1 0 2 (.v 8))) <|
    .st (.act none (.pset none 2 0 2 (.v 9))) <|
    .st (.act none (.pset none 3 0 4 (.v 21))) .done
@[simp] def W53_40 := @Pl.wpe _ _ K53_40.eq_1
def K53_41 : Pl := .st (.act none (.ex (some 20) (.call fn_spec_l16Rd_num [.v 18, .v 19]))) K53_40
@[simp] def W53_41 := @Pl.wpe _ _ K53_41.eq_1
def K53_42 : Pl := .st (.act none (.ex (some 17) (.call fn_spec_l16Rd_num [.v 15, .v 16]))) K53_41
@[simp] def W53_42 := @Pl.wpe _ _ K53_42.eq_1
def K53_43 : Pl := .st (.act none (.ex (some 14) (.call fn_spec_l16Rd_pick [.v 13, .c (.int .i64 4)]))) K53_42
@[simp] def W53_43 := @Pl.wpe _ _ K53_43.eq_1
def K53_44 : Pl := .st (.act none (.ex (some 16) (.bls 1 3 [.int .i64 0] [(0, 1, .c (.int .i64 (-1))), (1, 1, .c (.int .i64 0)), (2, 1, .c (.int .i64 1))]))) K53_43
@[simp] def W53_44 := @Pl.wpe _ _ K53_44.eq_1
def K53_45 : Pl := .both K53_39 K53_44
@[simp] def W53_45 := @Pl.wpe _ _ K53_45.eq_1
def K53_46 : Pl := .st (.act none (.ex (some 19) (.bls 1 3 [.int .i64 0] [(0, 1, .c (.int .i64 (-1))), (1, 1, .c (.int .i64 0)), (2, 1, .c (.int .i64 1))]))) K53_45
@[simp] def W53_46 := @Pl.wpe _ _ K53_46.eq_1
def K53_47 : Pl := .both K53_34 K53_46
@[simp] def W53_47 := @Pl.wpe _ _ K53_47.eq_1
def K53_48 : Pl := .both K53_17 K53_47
@[simp] def W53_48 := @Pl.wpe _ _ K53_48.eq_1
def K53_49 : Pl := .st (.act none (.ex (some 12) (.call fn_spec_l16Rd_num [.v 10, .v 11]))) K53_48
@[simp] def W53_49 := @Pl.wpe _ _ K53_49.eq_1
def K53_50 : Pl := .st (.act none (.px (some 21) (.build [.int .i64 0, .int .i64 0, .int .i64 0, .int .i64 0] [(0, 1, .v 12), (1, 1, .v 14), (2, 1, .v 17), (3, 1, .v 20)]))) <|
    .st (.act none (.pset none 1 0 2 (.v 8))) <|
    .st (.act none (.pset none 2 0 2 (.v 9))) <|
    .st (.act none (.pset none 3 0 4 (.v 21))) .done
@[simp] def W53_50 := @Pl.wpe _ _ K53_50.eq_1
def K53_51 : Pl := .st (.act none (.ex (some 20) (.call fn_spec_l16Rd_num [.v 18, .v 19]))) K53_50
@[simp] def W53_51 := @Pl.wpe _ _ K53_51.eq_1
def K53_52 : Pl := .st (.act none (.ex (some 19) (.bls 1 3 [.int .i64 0] [(0, 1, .c (.int .i64 (-1))), (1, 1, .c (.int .i64 0)), (2, 1, .c (.int .i64 1))]))) K53_51
@[simp] def W53_52 := @Pl.wpe _ _ K53_52.eq_1
def K53_53 : Pl := .st (.act none (.ex (some 17) (.call fn_spec_l16Rd_num [.v 15, .v 16]))) K53_52
@[simp] def W53_53 := @Pl.wpe _ _ K53_53.eq_1
def K53_54 : Pl := .st (.act none (.px (some 21) (.build [.int .i64 0, .int .i64 0, .int .i64 0, .int .i64 0] [(0, 1, .v 12), (1, 1, .v 14), (2, 1, .v 17), (3, 1, .v 20)]))) <|
    .st (.act none (.pset none 1 0 2 (.v 8))) <|
    .st (.act none (.pset none 2 0 2 (.v 9))) <|
    .st (.act none (.pset none 3 0 4 (.v 21))) .done
@[simp] def W53_54 := @Pl.wpe _ _ K53_54.eq_1
def K53_55 : Pl := .st (.act none (.ex (some 20) (.call fn_spec_l16Rd_num [.v 18, .v 19]))) K53_54
@[simp] def W53_55 := @Pl.wpe _ _ K53_55.eq_1
def K53_56 : Pl := .st (.act none (.ex (some 17) (.call fn_spec_l16Rd_num [.v 15, .v 16]))) K53_55
@[simp] def W53_56 := @Pl.wpe _ _ K53_56.eq_1
def K53_57 : Pl := .st (.act none (.ex (some 19) (.bls 1 3 [.int .i64 0] [(0, 1, .c (.int .i64 (-1))), (1, 1, .c (.int .i64 0)), (2, 1, .c (.int .i64 1))]))) K53_56
@[simp] def W53_57 := @Pl.wpe _ _ K53_57.eq_1
def K53_58 : Pl := .both K53_53 K53_57
@[simp] def W53_58 := @Pl.wpe _ _ K53_58.eq_1
def K53_59 : Pl := .st (.act none (.ex (some 14) (.call fn_spec_l16Rd_pick [.v 13, .c (.int .i64 4)]))) K53_58
@[simp] def W53_59 := @Pl.wpe _ _ K53_59.eq_1
def K53_60 : Pl := .st (.act none (.px (some 21) (.build [.int .i64 0, .int .i64 0, .int .i64 0, .int .i64 0] [(0, 1, .v 12), (1, 1, .v 14), (2, 1, .v 17), (3, 1, .v 20)]))) <|
    .st (.act none (.pset none 1 0 2 (.v 8))) <|
    .st (.act none (.pset none 2 0 2 (.v 9))) <|
    .st (.act none (.pset none 3 0 4 (.v 21))) .done
@[simp] def W53_60 := @Pl.wpe _ _ K53_60.eq_1
def K53_61 : Pl := .st (.act none (.ex (some 20) (.call fn_spec_l16Rd_num [.v 18, .v 19]))) K53_60
@[simp] def W53_61 := @Pl.wpe _ _ K53_61.eq_1
def K53_62 : Pl := .st (.act none (.ex (some 17) (.call fn_spec_l16Rd_num [.v 15, .v 16]))) K53_61
@[simp] def W53_62 := @Pl.wpe _ _ K53_62.eq_1
def K53_63 : Pl := .st (.act none (.ex (some 14) (.call fn_spec_l16Rd_pick [.v 13, .c (.int .i64 4)]))) K53_62
@[simp] def W53_63 := @Pl.wpe _ _ K53_63.eq_1
def K53_64 : Pl := .st (.act none (.ex (some 19) (.bls 1 3 [.int .i64 0] [(0, 1, .c (.int .i64 (-1))), (1, 1, .c (.int .i64 0)), (2, 1, .c (.int .i64 1))]))) K53_63
@[simp] def W53_64 := @Pl.wpe _ _ K53_64.eq_1
def K53_65 : Pl := .both K53_59 K53_64
@[simp] def W53_65 := @Pl.wpe _ _ K53_65.eq_1
def K53_66 : Pl := .st (.act none (.ex (some 12) (.call fn_spec_l16Rd_num [.v 10, .v 11]))) K53_65
@[simp] def W53_66 := @Pl.wpe _ _ K53_66.eq_1
def K53_67 : Pl := .st (.act none (.px (some 21) (.build [.int .i64 0, .int .i64 0, .int .i64 0, .int .i64 0] [(0, 1, .v 12), (1, 1, .v 14), (2, 1, .v 17), (3, 1, .v 20)]))) <|
    .st (.act none (.pset none 1 0 2 (.v 8))) <|
    .st (.act none (.pset none 2 0 2 (.v 9))) <|
    .st (.act none (.pset none 3 0 4 (.v 21))) .done
@[simp] def W53_67 := @Pl.wpe _ _ K53_67.eq_1
def K53_68 : Pl := .st (.act none (.ex (some 20) (.call fn_spec_l16Rd_num [.v 18, .v 19]))) K53_67
@[simp] def W53_68 := @Pl.wpe _ _ K53_68.eq_1
def K53_69 : Pl := .st (.act none (.ex (some 17) (.call fn_spec_l16Rd_num [.v 15, .v 16]))) K53_68
@[simp] def W53_69 := @Pl.wpe _ _ K53_69.eq_1
def K53_70 : Pl := .st (.act none (.ex (some 14) (.call fn_spec_l16Rd_pick [.v 13, .c (.int .i64 4)]))) K53_69
@[simp] def W53_70 := @Pl.wpe _ _ K53_70.eq_1
def K53_71 : Pl := .st (.act none (.ex (some 12) (.call fn_spec_l16Rd_num [.v 10, .v 11]))) K53_70
@[simp] def W53_71 := @Pl.wpe _ _ K53_71.eq_1
def K53_72 : Pl := .st (.act none (.ex (some 19) (.bls 1 3 [.int .i64 0] [(0, 1, .c (.int .i64 (-1))), (1, 1, .c (.int .i64 0)), (2, 1, .c (.int .i64 1))]))) K53_71
@[simp] def W53_72 := @Pl.wpe _ _ K53_72.eq_1
def K53_73 : Pl := .both K53_66 K53_72
@[simp] def W53_73 := @Pl.wpe _ _ K53_73.eq_1
def K53_74 : Pl := .st (.act none (.ex (some 16) (.bls 1 3 [.int .i64 0] [(0, 1, .c (.int .i64 (-1))), (1, 1, .c (.int .i64 0)), (2, 1, .c (.int .i64 1))]))) K53_73
@[simp] def W53_74 := @Pl.wpe _ _ K53_74.eq_1
def K53_75 : Pl := .st (.act none (.px (some 21) (.build [.int .i64 0, .int .i64 0, .int .i64 0, .int .i64 0] [(0, 1, .v 12), (1, 1, .v 14), (2, 1, .v 17), (3, 1, .v 20)]))) <|
    .st (.act none (.pset none 1 0 2 (.v 8))) <|
    .st (.act none (.pset none 2 0 2 (.v 9))) <|
    .st (.act none (.pset none 3 0 4 (.v 21))) .done
@[simp] def W53_75 := @Pl.wpe _ _ K53_75.eq_1
def K53_76 : Pl := .st (.act none (.ex (some 20) (.call fn_spec_l16Rd_num [.v 18, .v 19]))) K53_75
@[simp] def W53_76 := @Pl.wpe _ _ K53_76.eq_1
def K53_77 : Pl := .st (.act none (.ex (some 17) (.call fn_spec_l16Rd_num [.v 15, .v 16]))) K53_76
@[simp] def W53_77 := @Pl.wpe _ _ K53_77.eq_1
def K53_78 : Pl := .st (.act none (.ex (some 16) (.bls 1 3 [.int .i64 0] [(0, 1, .c (.int .i64 (-1))), (1, 1, .c (.int .i64 0)), (2, 1, .c (.int .i64 1))]))) K53_77
@[simp] def W53_78 := @Pl.wpe _ _ K53_78.eq_1
def K53_79 : Pl := .st (.act none (.ex (some 14) (.call fn_spec_l16Rd_pick [.v 13, .c (.int .i64 4)]))) K53_78
@[simp] def W53_79 := @Pl.wpe _ _ K53_79.eq_1
def K53_80 : Pl := .st (.act none (.px (some 21) (.build [.int .i64 0, .int .i64 0, .int .i64 0, .int .i64 0] [(0, 1, .v 12), (1, 1, .v 14), (2, 1, .v 17), (3, 1, .v 20)]))) <|
    .st (.act none (.pset none 1 0 2 (.v 8))) <|
    .st (.act none (.pset none 2 0 2 (.v 9))) <|
    .st (.act none (.pset none 3 0 4 (.v 21))) .done
@[simp] def W53_80 := @Pl.wpe _ _ K53_80.eq_1
def K53_81 : Pl := .st (.act none (.ex (some 20) (.call fn_spec_l16Rd_num [.v 18, .v 19]))) K53_80
@[simp] def W53_81 := @Pl.wpe _ _ K53_81.eq_1
def K53_82 : Pl := .st (.act none (.ex (some 17) (.call fn_spec_l16Rd_num [.v 15, .v 16]))) K53_81
@[simp] def W53_82 := @Pl.wpe _ _ K53_82.eq_1
def K53_83 : Pl := .st (.act none (.ex (some 14) (.call fn_spec_l16Rd_pick [.v 13, .c (.int .i64 4)]))) K53_82
@[simp] def W53_83 := @Pl.wpe _ _ K53_83.eq_1
def K53_84 : Pl := .st (.act none (.ex (some 16) (.bls 1 3 [.int .i64 0] [(0, 1, .c (.int .i64 (-1))), (1, 1, .c (.int .i64 0)), (2, 1, .c (.int .i64 1))]))) K53_83
@[simp] def W53_84 := @Pl.wpe _ _ K53_84.eq_1
def K53_85 : Pl := .both K53_79 K53_84
@[simp] def W53_85 := @Pl.wpe _ _ K53_85.eq_1
def K53_86 : Pl := .st (.act none (.ex (some 12) (.call fn_spec_l16Rd_num [.v 10, .v 11]))) K53_85
@[simp] def W53_86 := @Pl.wpe _ _ K53_86.eq_1
def K53_87 : Pl := .st (.act none (.px (some 21) (.build [.int .i64 0, .int .i64 0, .int .i64 0, .int .i64 0] [(0, 1, .v 12), (1, 1, .v 14), (2, 1, .v 17), (3, 1, .v 20)]))) <|
    .st (.act none (.pset none 1 0 2 (.v 8))) <|
    .st (.act none (.pset none 2 0 2 (.v 9))) <|
    .st (.act none (.pset none 3 0 4 (.v 21))) .done
@[simp] def W53_87 := @Pl.wpe _ _ K53_87.eq_1
def K53_88 : Pl := .st (.act none (.ex (some 20) (.call fn_spec_l16Rd_num [.v 18, .v 19]))) K53_87
@[simp] def W53_88 := @Pl.wpe _ _ K53_88.eq_1
def K53_89 : Pl := .st (.act none (.ex (some 17) (.call fn_spec_l16Rd_num [.v 15, .v 16]))) K53_88
@[simp] def W53_89 := @Pl.wpe _ _ K53_89.eq_1
def K53_90 : Pl := .st (.act none (.ex (some 14) (.call fn_spec_l16Rd_pick [.v 13, .c (.int .i64 4)]))) K53_89
@[simp] def W53_90 := @Pl.wpe _ _ K53_90.eq_1
def K53_91 : Pl := .st (.act none (.ex (some 12) (.call fn_spec_l16Rd_num [.v 10, .v 11]))) K53_90
@[simp] def W53_91 := @Pl.wpe _ _ K53_91.eq_1
def K53_92 : Pl := .st (.act none (.ex (some 16) (.bls 1 3 [.int .i64 0] [(0, 1, .c (.int .i64 (-1))), (1, 1, .c (.int .i64 0)), (2, 1, .c (.int .i64 1))]))) K53_91
@[simp] def W53_92 := @Pl.wpe _ _ K53_92.eq_1
def K53_93 : Pl := .both K53_86 K53_92
@[simp] def W53_93 := @Pl.wpe _ _ K53_93.eq_1
def K53_94 : Pl := .st (.act none (.ex (some 19) (.bls 1 3 [.int .i64 0] [(0, 1, .c (.int .i64 (-1))), (1, 1, .c (.int .i64 0)), (2, 1, .c (.int .i64 1))]))) K53_93
@[simp] def W53_94 := @Pl.wpe _ _ K53_94.eq_1
def K53_95 : Pl := .both K53_74 K53_94
@[simp] def W53_95 := @Pl.wpe _ _ K53_95.eq_1
def K53_96 : Pl := .both K53_49 K53_95
@[simp] def W53_96 := @Pl.wpe _ _ K53_96.eq_1
def K53_97 : Pl := .st (.act none (.ex (some 11) (.bls 1 4 [.int .i64 0] [(0, 1, .c (.int .i64 0)), (1, 1, .c (.int .i64 1)), (2, 1, .c (.int .i64 (-1))), (3, 1, .c (.int .i64 3))]))) K53_96
@[simp] def W53_97 := @Pl.wpe _ _ K53_97.eq_1
def K53_98 : Pl := .st (.act none (.px (some 21) (.build [.int .i64 0, .int .i64 0, .int .i64 0, .int .i64 0] [(0, 1, .v 12), (1, 1, .v 14), (2, 1, .v 17), (3, 1, .v 20)]))) <|
    .st (.act none (.pset none 1 0 2 (.v 8))) <|
    .st (.act none (.pset none 2 0 2 (.v 9))) <|
    .st (.act none (.pset none 3 0 4 (.v 21))) .done
@[simp] def W53_98 := @Pl.wpe _ _ K53_98.eq_1
def K53_99 : Pl := .st (.act none (.ex (some 20) (.call fn_spec_l16Rd_num [.v 18, .v 19]))) K53_98
@[simp] def W53_99 := @Pl.wpe _ _ K53_99.eq_1
def K53_100 : Pl := .st (.act none (.ex (some 19) (.bls 1 3 [.int .i64 0] [(0, 1, .c (.int .i64 (-1))), (1, 1, .c (.int .i64 0)), (2, 1, .c (.int .i64 1))]))) K53_99
@[simp] def W53_100 := @Pl.wpe _ _ K53_100.eq_1
def K53_101 : Pl := .st (.act none (.ex (some 17) (.call fn_spec_l16Rd_num [.v 15, .v 16]))) K53_100
@[simp] def W53_101 := @Pl.wpe _ _ K53_101.eq_1
def K53_102 : Pl := .st (.act none (.px (some 21) (.build [.int .i64 0, .int .i64 0, .int .i64 0, .int .i64 0] [(0, 1, .v 12), (1, 1, .v 14), (2, 1, .v 17), (3, 1, .v 20)]))) <|
    .st (.act none (.pset none 1 0 2 (.v 8))) <|
    .st (.act none (.pset none 2 0 2 (.v 9))) <|
    .st (.act none (.pset none 3 0 4 (.v 21))) .done
@[simp] def W53_102 := @Pl.wpe _ _ K53_102.eq_1
def K53_103 : Pl := .st (.act none (.ex (some 20) (.call fn_spec_l16Rd_num [.v 18, .v 19]))) K53_102
@[simp] def W53_103 := @Pl.wpe _ _ K53_103.eq_1
def K53_104 : Pl := .st (.act none (.ex (some 17) (.call fn_spec_l16Rd_num [.v 15, .v 16]))) K53_103
@[simp] def W53_104 := @Pl.wpe _ _ K53_104.eq_1
def K53_105 : Pl := .st (.act none (.ex (some 19) (.bls 1 3 [.int .i64 0] [(0, 1, .c (.int .i64 (-1))), (1, 1, .c (.int .i64 0)), (2, 1, .c (.int .i64 1))]))) K53_104
@[simp] def W53_105 := @Pl.wpe _ _ K53_105.eq_1
def K53_106 : Pl := .both K53_101 K53_105
@[simp] def W53_106 := @Pl.wpe _ _ K53_106.eq_1
def K53_107 : Pl := .st (.act none (.ex (some 14) (.call fn_spec_l16Rd_pick [.v 13, .c (.int .i64 4)]))) K53_106
@[simp] def W53_107 := @Pl.wpe _ _ K53_107.eq_1
def K53_108 : Pl := .st (.act none (.px (some 21) (.build [.int .i64 0, .int .i64 0, .int .i64 0, .int .i64 0] [(0, 1, .v 12), (1, 1, .v 14), (2, 1, .v 17), (3, 1, .v 20)]))) <|
    .st (.act none (.pset none 1 0 2 (.v 8))) <|
    .st (.act none (.pset none 2 0 2 (.v 9))) <|
    .st (.act none (.pset none 3 0 4 (.v 21))) .done
@[simp] def W53_108 := @Pl.wpe _ _ K53_108.eq_1
def K53_109 : Pl := .st (.act none (.ex (some 20) (.call fn_spec_l16Rd_num [.v 18, .v 19]))) K53_108
@[simp] def W53_109 := @Pl.wpe _ _ K53_109.eq_1
def K53_110 : Pl := .st (.act none (.ex (some 17) (.call fn_spec_l16Rd_num [.v 15, .v 16]))) K53_109
@[simp] def W53_110 := @Pl.wpe _ _ K53_110.eq_1
def K53_111 : Pl := .st (.act none (.ex (some 14) (.call fn_spec_l16Rd_pick [.v 13, .c (.int .i64 4)]))) K53_110
@[simp] def W53_111 := @Pl.wpe _ _ K53_111.eq_1
def K53_112 : Pl := .st (.act none (.ex (some 19) (.bls 1 3 [.int .i64 0] [(0, 1, .c (.int .i64 (-1))), (1, 1, .c (.int .i64 0)), (2, 1, .c (.int .i64 1))]))) K53_111
@[simp] def W53_112 := @Pl.wpe _ _ K53_112.eq_1
def K53_113 : Pl := .both K53_107 K53_112
@[simp] def W53_113 := @Pl.wpe _ _ K53_113.eq_1
def K53_114 : Pl := .st (.act none (.ex (some 12) (.call fn_spec_l16Rd_num [.v 10, .v 11]))) K53_113
@[simp] def W53_114 := @Pl.wpe _ _ K53_114.eq_1
def K53_115 : Pl := .st (.act none (.px (some 21) (.build [.int .i64 0, .int .i64 0, .int .i64 0, .int .i64 0] [(0, 1, .v 12), (1, 1, .v 14), (2, 1, .v 17), (3, 1, .v 20)]))) <|
    .st (.act none (.pset none 1 0 2 (.v 8))) <|
    .st (.act none (.pset none 2 0 2 (.v 9))) <|
    .st (.act none (.pset none 3 0 4 (.v 21))) .done
@[simp] def W53_115 := @Pl.wpe _ _ K53_115.eq_1
def K53_116 : Pl := .st (.act none (.ex (some 20) (.call fn_spec_l16Rd_num [.v 18, .v 19]))) K53_115
@[simp] def W53_116 := @Pl.wpe _ _ K53_116.eq_1
def K53_117 : Pl := .st (.act none (.ex (some 17) (.call fn_spec_l16Rd_num [.v 15, .v 16]))) K53_116
@[simp] def W53_117 := @Pl.wpe _ _ K53_117.eq_1
def K53_118 : Pl := .st (.act none (.ex (some 14) (.call fn_spec_l16Rd_pick [.v 13, .c (.int .i64 4)]))) K53_117
@[simp] def W53_118 := @Pl.wpe _ _ K53_118.eq_1
def K53_119 : Pl := .st (.act none (.ex (some 12) (.call fn_spec_l16Rd_num [.v 10, .v 11]))) K53_118
@[simp] def W53_119 := @Pl.wpe _ _ K53_119.eq_1
def K53_120 : Pl := .st (.act none (.ex (some 19) (.bls 1 3 [.int .i64 0] [(0, 1, .c (.int .i64 (-1))), (1, 1, .c (.int .i64 0)), (2, 1, .c (.int .i64 1))]))) K53_119
@[simp] def W53_120 := @Pl.wpe _ _ K53_120.eq_1
def K53_121 : Pl := .both K53_114 K53_120
@[simp] def W53_121 := @Pl.wpe _ _ K53_121.eq_1
def K53_122 : Pl := .st (.act none (.ex (some 11) (.bls 1 4 [.int .i64 0] [(0, 1, .c (.int .i64 0)), (1, 1, .c (.int .i64 1)), (2, 1, .c (.int .i64 (-1))), (3, 1, .c (.int .i64 3))]))) K53_121
@[simp] def W53_122 := @Pl.wpe _ _ K53_122.eq_1
def K53_123 : Pl := .st (.act none (.px (some 21) (.build [.int .i64 0, .int .i64 0, .int .i64 0, .int .i64 0] [(0, 1, .v 12), (1, 1, .v 14), (2, 1, .v 17), (3, 1, .v 20)]))) <|
    .st (.act none (.pset none 1 0 2 (.v 8))) <|
    .st (.act none (.pset none 2 0 2 (.v 9))) <|
    .st (.act none (.pset none 3 0 4 (.v 21))) .done
@[simp] def W53_123 := @Pl.wpe _ _ K53_123.eq_1
def K53_124 : Pl := .st (.act none (.ex (some 20) (.call fn_spec_l16Rd_num [.v 18, .v 19]))) K53_123
@[simp] def W53_124 := @Pl.wpe _ _ K53_124.eq_1
def K53_125 : Pl := .st (.act none (.ex (some 17) (.call fn_spec_l16Rd_num [.v 15, .v 16]))) K53_124
@[simp] def W53_125 := @Pl.wpe _ _ K53_125.eq_1
def K53_126 : Pl := .st (.act none (.ex (some 14) (.call fn_spec_l16Rd_pick [.v 13, .c (.int .i64 4)]))) K53_125
@[simp] def W53_126 := @Pl.wpe _ _ K53_126.eq_1
def K53_127 : Pl := .st (.act none (.ex (some 12) (.call fn_spec_l16Rd_num [.v 10, .v 11]))) K53_126
@[simp] def W53_127 := @Pl.wpe _ _ K53_127.eq_1
def K53_128 : Pl := .st (.act none (.ex (some 11) (.bls 1 4 [.int .i64 0] [(0, 1, .c (.int .i64 0)), (1, 1, .c (.int .i64 1)), (2, 1, .c (.int .i64 (-1))), (3, 1, .c (.int .i64 3))]))) K53_127
@[simp] def W53_128 := @Pl.wpe _ _ K53_128.eq_1
def K53_129 : Pl := .st (.act none (.ex (some 19) (.bls 1 3 [.int .i64 0] [(0, 1, .c (.int .i64 (-1))), (1, 1, .c (.int .i64 0)), (2, 1, .c (.int .i64 1))]))) K53_128
@[simp] def W53_129 := @Pl.wpe _ _ K53_129.eq_1
def K53_130 : Pl := .both K53_122 K53_129
@[simp] def W53_130 := @Pl.wpe _ _ K53_130.eq_1
def K53_131 : Pl := .st (.act none (.ex (some 16) (.bls 1 3 [.int .i64 0] [(0, 1, .c (.int .i64 (-1))), (1, 1, .c (.int .i64 0)), (2, 1, .c (.int .i64 1))]))) K53_130
@[simp] def W53_131 := @Pl.wpe _ _ K53_131.eq_1
def K53_132 : Pl := .st (.act none (.px (some 21) (.build [.int .i64 0, .int .i64 0, .int .i64 0, .int .i64 0] [(0, 1, .v 12), (1, 1, .v 14), (2, 1, .v 17), (3, 1, .v 20)]))) <|
    .st (.act none (.pset none 1 0 2 (.v 8))) <|
    .st (.act none (.pset none 2 0 2 (.v 9))) <|
    .st (.act none (.pset none 3 0 4 (.v 21))) .done
@[simp] def W53_132 := @Pl.wpe _ _ K53_132.eq_1
def K53_133 : Pl := .st (.act none (.ex (some 20) (.call fn_spec_l16Rd_num [.v 18, .v 19]))) K53_132
@[simp] def W53_133 := @Pl.wpe _ _ K53_133.eq_1
def K53_134 : Pl := .st (.act none (.ex (some 17) (.call fn_spec_l16Rd_num [.v 15, .v 16]))) K53_133
@[simp] def W53_134 := @Pl.wpe _ _ K53_134.eq_1
def K53_135 : Pl := .st (.act none (.ex (some 16) (.bls 1 3 [.int .i64 0] [(0, 1, .c (.int .i64 (-1))), (1, 1, .c (.int .i64 0)), (2, 1, .c (.int .i64 1))]))) K53_134
@[simp] def W53_135 := @Pl.wpe _ _ K53_135.eq_1
def K53_136 : Pl := .st (.act none (.ex (some 14) (.call fn_spec_l16Rd_pick [.v 13, .c (.int .i64 4)]))) K53_135
@[simp] def W53_136 := @Pl.wpe _ _ K53_136.eq_1
def K53_137 : Pl := .st (.act none (.px (some 21) (.build [.int .i64 0, .int .i64 0, .int .i64 0, .int .i64 0] [(0, 1, .v 12), (1, 1, .v 14), (2, 1, .v 17), (3, 1, .v 20)]))) <|
    .st (.act none (.pset none 1 0 2 (.v 8))) <|
    .st (.act none (.pset none 2 0 2 (.v 9))) <|
    .st (.act none (.pset none 3 0 4 (.v 21))) .done
@[simp] def W53_137 := @Pl.wpe _ _ K53_137.eq_1
def K53_138 : Pl := .st (.act none (.ex (some 20) (.call fn_spec_l16Rd_num [.v 18, .v 19]))) K53_137
@[simp] def W53_138 := @Pl.wpe _ _ K53_138.eq_1
def K53_139 : Pl := .st (.act none (.ex (some 17) (.call fn_spec_l16Rd_num [.v 15, .v 16]))) K53_138
@[simp] def W53_139 := @Pl.wpe _ _ K53_139.eq_1
def K53_140 : Pl := .st (.act none (.ex (some 14) (.call fn_spec_l16Rd_pick [.v 13, .c (.int .i64 4)]))) K53_139
@[simp] def W53_140 := @Pl.wpe _ _ K53_140.eq_1
def K53_141 : Pl := .st (.act none (.ex (some 16) (.bls 1 3 [.int .i64 0] [(0, 1, .c (.int .i64 (-1))), (1, 1, .c (.int .i64 0)), (2, 1, .c (.int .i64 1))]))) K53_140
@[simp] def W53_141 := @Pl.wpe _ _ K53_141.eq_1
def K53_142 : Pl := .both K53_136 K53_141
@[simp] def W53_142 := @Pl.wpe _ _ K53_142.eq_1
def K53_143 : Pl := .st (.act none (.ex (some 12) (.call fn_spec_l16Rd_num [.v 10, .v 11]))) K53_142
@[simp] def W53_143 := @Pl.wpe _ _ K53_143.eq_1
def K53_144 : Pl := .st (.act none (.px (some 21) (.build [.int .i64 0, .int .i64 0, .int .i64 0, .int .i64 0] [(0, 1, .v 12), (1, 1, .v 14), (2, 1, .v 17), (3, 1, .v 20)]))) <|
    .st (.act none (.pset none 1 0 2 (.v 8))) <|
    .st (.act none (.pset none 2 0 2 (.v 9))) <|
    .st (.act none (.pset none 3 0 4 (.v 21))) .done
@[simp] def W53_144 := @Pl.wpe _ _ K53_144.eq_1
def K53_145 : Pl := .st (.act none (.ex (some 20) (.call fn_spec_l16Rd_num [.v 18, .v 19]))) K53_144
@[simp] def W53_145 := @Pl.wpe _ _ K53_145.eq_1
def K53_146 : Pl := .st (.act none (.ex (some 17) (.call fn_spec_l16Rd_num [.v 15, .v 16]))) K53_145
@[simp] def W53_146 := @Pl.wpe _ _ K53_146.eq_1
def K53_147 : Pl := .st (.act none (.ex (some 14) (.call fn_spec_l16Rd_pick [.v 13, .c (.int .i64 4)]))) K53_146
@[simp] def W53_147 := @Pl.wpe _ _ K53_147.eq_1
def K53_148 : Pl := .st (.act none (.ex (some 12) (.call fn_spec_l16Rd_num [.v 10, .v 11]))) K53_147
@[simp] def W53_148 := @Pl.wpe _ _ K53_148.eq_1
def K53_149 : Pl := .st (.act none (.ex (some 16) (.bls 1 3 [.int .i64 0] [(0, 1, .c (.int .i64 (-1))), (1, 1, .c (.int .i64 0)), (2, 1, .c (.int .i64 1))]))) K53_148
@[simp] def W53_149 := @Pl.wpe _ _ K53_149.eq_1
def K53_150 : Pl := .both K53_143 K53_149
@[simp] def W53_150 := @Pl.wpe _ _ K53_150.eq_1
def K53_151 : Pl := .st (.act none (.ex (some 11) (.bls 1 4 [.int .i64 0] [(0, 1, .c (.int .i64 0)), (1, 1, .c (.int .i64 1)), (2, 1, .c (.int .i64 (-1))), (3, 1, .c (.int .i64 3))]))) K53_150
@[simp] def W53_151 := @Pl.wpe _ _ K53_151.eq_1
def K53_152 : Pl := .st (.act none (.px (some 21) (.build [.int .i64 0, .int .i64 0, .int .i64 0, .int .i64 0] [(0, 1, .v 12), (1, 1, .v 14), (2, 1, .v 17), (3, 1, .v 20)]))) <|
    .st (.act none (.pset none 1 0 2 (.v 8))) <|
    .st (.act none (.pset none 2 0 2 (.v 9))) <|
    .st (.act none (.pset none 3 0 4 (.v 21))) .done
@[simp] def W53_152 := @Pl.wpe _ _ K53_152.eq_1
def K53_153 : Pl := .st (.act none (.ex (some 20) (.call fn_spec_l16Rd_num [.v 18, .v 19]))) K53_152
@[simp] def W53_153 := @Pl.wpe _ _ K53_153.eq_1
def K53_154 : Pl := .st (.act none (.ex (some 17) (.call fn_spec_l16Rd_num [.v 15, .v 16]))) K53_153
@[simp] def W53_154 := @Pl.wpe _ _ K53_154.eq_1
def K53_155 : Pl := .st (.act none (.ex (some 14) (.call fn_spec_l16Rd_pick [.v 13, .c (.int .i64 4)]))) K53_154
@[simp] def W53_155 := @Pl.wpe _ _ K53_155.eq_1
def K53_156 : Pl := .st (.act none (.ex (some 12) (.call fn_spec_l16Rd_num [.v 10, .v 11]))) K53_155
@[simp] def W53_156 := @Pl.wpe _ _ K53_156.eq_1
def K53_157 : Pl := .st (.act none (.ex (some 11) (.bls 1 4 [.int .i64 0] [(0, 1, .c (.int .i64 0)), (1, 1, .c (.int .i64 1)), (2, 1, .c (.int .i64 (-1))), (3, 1, .c (.int .i64 3))]))) K53_156
@[simp] def W53_157 := @Pl.wpe _ _ K53_157.eq_1
def K53_158 : Pl := .st (.act none (.ex (some 16) (.bls 1 3 [.int .i64 0] [(0, 1, .c (.int .i64 (-1))), (1, 1, .c (.int .i64 0)), (2, 1, .c (.int .i64 1))]))) K53_157
@[simp] def W53_158 := @Pl.wpe _ _ K53_158.eq_1
def K53_159 : Pl := .both K53_151 K53_158
@[simp] def W53_159 := @Pl.wpe _ _ K53_159.eq_1
def K53_160 : Pl := .st (.act none (.ex (some 19) (.bls 1 3 [.int .i64 0] [(0, 1, .c (.int .i64 (-1))), (1, 1, .c (.int .i64 0)), (2, 1, .c (.int .i64 1))]))) K53_159
@[simp] def W53_160 := @Pl.wpe _ _ K53_160.eq_1
def K53_161 : Pl := .both K53_131 K53_160
@[simp] def W53_161 := @Pl.wpe _ _ K53_161.eq_1
def K53_162 : C := .seq (.pl <| .st (.ext 8 14) <|
    .st (.act none (.pget (some 8) none 4 0 (some 2))) <|
    .st (.act none (.pget (some 9) none 5 0 (some 2))) <|
    .st (.act none (.px (some 10) (.mv (.v 6)))) <|
    .st (.act none (.px (some 13) (.mv (.v 6)))) <|
    .st (.act none (.px (some 15) (.mv (.v 6)))) <|
    .st (.act none (.px (some 18) (.mv (.v 6)))) <|
    .both K53_97 K53_161) (.ret)
@[simp] def W53_162 := @C.wpe _ _ K53_162.eq_1
def K53_163 : Pl := .st (.act none (.px (some 15) (.ia 4 (.v 10) (.v 14)))) <|
    .st (.act none (.ld (some 16) (.v 15) (some 4))) <|
    .st (.act none (.pset none 1 0 2 (.v 8))) <|
    .st (.re 16 (.v 15) (some 4) none) <|
    .st (.act none (.pset none 2 0 2 (.v 9))) <|
    .st (.re 16 (.v 15) (some 4) none) <|
    .st (.act none (.pset none 3 0 4 (.v 16))) .done
@[simp] def W53_163 := @Pl.wpe _ _ K53_163.eq_1
def K53_164 : C := .seq (.pl <| .st (.ext 8 9) <|
    .st (.act none (.pget (some 8) none 4 0 (some 2))) <|
    .st (.act none (.pget (some 9) none 5 0 (some 2))) <|
    .st (.act none (.px (some 10) (.mv (.v 7)))) <|
    .st (.act none (.px (some 11) (.mv (.v 6)))) <|
    .st (.act none (.px (some 12) (.mv (.v 7)))) <|
    .st (.act none (.px (some 13) (.lenV (.v 12)))) <|
    .st (.act none (.ex (some 14) (.call fn_spec_l16Rd_pick [.v 11, .v 13]))) K53_163) (.ret)
@[simp] def W53_164 := @C.wpe _ _ K53_164.eq_1
def K53_165 : C := .cond 8 (.v 15) K53_164 (.skip)
@[simp] def W53_165 := @C.wpe _ _ K53_165.eq_1
def K53_166 : Pl := .st (.act (some (.v 11, true)) (.px (some 14) (.bin .gtr (.v 13) (.c (.int .i64 0))))) <|
    .st (.act none (.px (some 15) (.pick (.v 11) (.v 14) (.c (.bool false))))) .done
@[simp] def W53_166 := @Pl.wpe _ _ K53_166.eq_1
def K53_167 : C := .seq (.seq (.pl <| .st (.ext 8 8) <|
    .st (.act none (.px (some 8) (.mv (.v 7)))) <|
    .st (.act none (.px (some 9) (.lenV (.v 8)))) <|
    .st (.act none (.px (some 10) (.bin .gtr (.v 9) (.c (.int .i64 0))))) <|
    .st (.act none (.px (some 11) (.mv (.v 10)))) <|
    .st (.act (some (.v 11, true)) (.px (some 12) (.mv (.v 6)))) <|
    .st (.act (some (.v 11, true)) (.ex (some 13) (.call fn_spec_l16Rd_pick [.v 12, .c (.int .i64 4)]))) K53_166) K53_165) K53_162
@[simp] def W53_167 := @C.wpe _ _ K53_167.eq_1
def K53_168 : Pl := .st (.act none (.px (some 7) (.mv (.v 10)))) .done
@[simp] def W53_168 := @Pl.wpe _ _ K53_168.eq_1
def K53_169 : C := .seq (.pl <| .st (.ext 8 3) <|
    .st (.act none (.pget (some 8) none 4 0 (some 2))) <|
    .st (.act none (.pget (some 9) none 5 0 (some 2))) <|
    .st (.act none (.ex (some 10) (.call fn_spec_EnabledSteps [.v 8, .v 9]))) K53_168) K53_167
@[simp] def W53_169 := @C.wpe _ _ K53_169.eq_1
def K53_170 : Pl := .st (.act none (.px (some 6) (.mv (.v 9)))) .done
@[simp] def W53_170 := @Pl.wpe _ _ K53_170.eq_1
def K53_171 : C := .seq (.pl <| .st (.ext 8 2) <|
    .st (.act none (.px (some 8) (.mv (.v 0)))) <|
    .st (.act none (.ex (some 9) (.call fn_spec_l16Open [.v 8]))) K53_170) K53_169
@[simp] def W53_171 := @C.wpe _ _ K53_171.eq_1
def K53_172 : Pl := .st (.act none (.px (some 10) (.mv (.v 9)))) <|
    .st (.act none (.px (some 11) (.extract 0 (.v 10)))) <|
    .st (.act none (.px (some 12) (.extract 1 (.v 10)))) <|
    .st (.act none (.pnew 4 (.c (.agg #[.slice none 0 0, .slice none 0 0])) [])) <|
    .st (.act none (.pnew 5 (.c (.agg #[.slice none 0 0, .slice none 0 0])) [])) <|
    .st (.act none (.pset none 4 0 2 (.v 11))) <|
    .st (.act none (.pset none 5 0 2 (.v 12))) .done
@[simp] def W53_172 := @Pl.wpe _ _ K53_172.eq_1
def K53_173 : C := .seq (.pl <| .st (.ext 8 5) <|
    .st (.act none (.px (some 8) (.mv (.v 0)))) <|
    .st (.act none (.ex (some 9) (.call fn_spec_DrawStateValid [.v 8]))) K53_172) K53_171
@[simp] def W53_173 := @C.wpe _ _ K53_173.eq_1
def B_spec_DrawApplyStep : C := .seq (.pl <| .st (.ext 8 0) <|
    .st (.act none (.pnew 1 (.c (.agg #[.slice none 0 0, .slice none 0 0])) [])) <|
    .st (.act none (.pnew 2 (.c (.agg #[.slice none 0 0, .slice none 0 0])) [])) <|
    .st (.act none (.pnew 3 (.c (.agg #[.int .i64 0, .int .i64 0, .int .i64 0, .int .i64 0])) [])) .done) K53_173
@[simp] def WB_spec_DrawApplyStep := @C.wpe _ _ B_spec_DrawApplyStep.eq_1
def R_spec_DrawApplyStep : FIR := ⟨B_spec_DrawApplyStep, 8, [(1, some (some 2)), (2, some (some 2)), (3, some (some 4))]⟩
theorem IR_spec_DrawApplyStep : cfun Try.prog H_spec_DrawApplyStep Try.f53 = some R_spec_DrawApplyStep := by kernel_rfl
theorem EN_spec_DrawApplyStep {args : List Value} {h : Heap} {k : Value → Heap → Prop} (hargs : args.length = 1) (hw : B_spec_DrawApplyStep.wp Try.prog (retQ [(1, some (some 2)), (2, some (some 2)), (3, some (some 4))] k) (env0 args 8) h) : CallE Try.prog fn_spec_DrawApplyStep args h k := enter Try.func53 rfl IR_spec_DrawApplyStep hargs hw

def H_spec_DrawStateValid : Hint := ⟨[(0, false), (2, true), (3, true), (4, false), (5, true), (6, true)], []⟩
def K110_1 : Pl := .st (.act none (.pset none 1 0 2 (.v 8))) <|
    .st (.act none (.pset none 2 0 2 (.v 9))) .done
@[simp] def W110_1 := @Pl.wpe _ _ K110_1.eq_1
def K110_2 : C := .seq (.pl <| .st (.ext 6 4) <|
    .st (.act none (.px (some 6) (.mv (.v 3)))) <|
    .st (.act none (.pget (some 7) none 4 0 (some 2))) <|
    .st (.act none (.pget (some 9) none 5 0 (some 2))) <|
    .st (.act none (.ex (some 8) (.call fn_spec_l2Mutate [.v 6, .v 7]))) K110_1) (.ret)
@[simp] def W110_2 := @C.wpe _ _ K110_2.eq_1
def K110_3 : Pl := .st (.act none (.pnew 5 (.c (.agg #[.slice none 0 0, .slice none 0 0])) [])) <|
    .st (.act none (.pset none 5 0 2 (.v 10))) .done
@[simp] def W110_3 := @Pl.wpe _ _ K110_3.eq_1
def K110_4 : Pl := .st (.act none (.ex (some 10) (.call fn_spec_l3Mutate [.v 6, .v 9]))) K110_3
@[simp] def W110_4 := @Pl.wpe _ _ K110_4.eq_1
def K110_5 : C := .seq (.pl <| .st (.ext 6 5) <|
    .st (.act none (.px (some 6) (.mv (.v 3)))) <|
    .st (.act none (.px (some 7) (.mv (.v 3)))) <|
    .st (.act none (.pget (some 8) none 4 0 (some 2))) <|
    .st (.act none (.ex (some 9) (.call fn_spec_l3State [.v 7, .v 8]))) K110_4) K110_2
@[simp] def W110_5 := @C.wpe _ _ K110_5.eq_1
def K110_6 : Pl := .st (.act none (.pnew 4 (.c (.agg #[.slice none 0 0, .slice none 0 0])) [])) <|
    .st (.act none (.pset none 4 0 2 (.v 7))) .done
@[simp] def W110_6 := @Pl.wpe _ _ K110_6.eq_1
def K110_7 : C := .seq (.pl <| .st (.ext 6 2) <|
    .st (.act none (.px (some 6) (.mv (.v 3)))) <|
    .st (.act none (.ex (some 7) (.call fn_spec_l2System [.v 6]))) K110_6) K110_5
@[simp] def W110_7 := @C.wpe _ _ K110_7.eq_1
def K110_8 : Pl := .st (.act none (.px (some 3) (.mv (.v 7)))) .done
@[simp] def W110_8 := @Pl.wpe _ _ K110_8.eq_1
def K110_9 : C := .seq (.pl <| .st (.ext 6 2) <|
    .st (.act none (.px (some 6) (.mv (.v 0)))) <|
    .st (.act none (.ex (some 7) (.call fn_spec_l16Open [.v 6]))) K110_8) K110_7
@[simp] def W110_9 := @C.wpe _ _ K110_9.eq_1
def B_spec_DrawStateValid : C := .seq (.pl <| .st (.ext 6 0) <|
    .st (.act none (.pnew 1 (.c (.agg #[.slice none 0 0, .slice none 0 0])) [])) <|
    .st (.act none (.pnew 2 (.c (.agg #[.slice none 0 0, .slice none 0 0])) [])) .done) K110_9
@[simp] def WB_spec_DrawStateValid := @C.wpe _ _ B_spec_DrawStateValid.eq_1
def R_spec_DrawStateValid : FIR := ⟨B_spec_DrawStateValid, 6, [(1, some (some 2)), (2, some (some 2))]⟩
theorem IR_spec_DrawStateValid : cfun Try.prog H_spec_DrawStateValid Try.f110 = some R_spec_DrawStateValid := by kernel_rfl
theorem EN_spec_DrawStateValid {args : List Value} {h : Heap} {k : Value → Heap → Prop} (hargs : args.length = 1) (hw : B_spec_DrawStateValid.wp Try.prog (retQ [(1, some (some 2)), (2, some (some 2))] k) (env0 args 6) h) : CallE Try.prog fn_spec_DrawStateValid args h k := enter Try.func110 rfl IR_spec_DrawStateValid hargs hw

def H_spec_EnabledSteps : Hint := ⟨[(0, false), (1, false), (2, true), (3, true), (4, false)], []⟩
def K89_1 : Pl := .st (.act none (.px (some 4) (.mv (.v 7)))) .done
@[simp] def W89_1 := @Pl.wpe _ _ K89_1.eq_1
def K89_2 : C := .seq (.pl <| .st (.ext 5 3) <|
    .st (.act none (.pget (some 5) none 2 0 (some 2))) <|
    .st (.act none (.pget (some 6) none 3 0 (some 2))) <|
    .st (.act none (.ex (some 7) (.call fn_spec_l3Steps [.v 5, .v 6]))) K89_1) (.ret)
@[simp] def W89_2 := @C.wpe _ _ K89_2.eq_1
def K89_3 : Pl := .st (.act none (.px (some 4) (.mv (.v 5)))) .done
@[simp] def W89_3 := @Pl.wpe _ _ K89_3.eq_1
def K89_4 : C := .seq (.pl <| .st (.ext 5 1) <|
    .st (.act none (.ex (some 5) (.bls 4 0 [.int .i64 0, .int .i64 0, .int .i64 0, .int .i64 0] []))) K89_3) (.ret)
@[simp] def W89_4 := @C.wpe _ _ K89_4.eq_1
def K89_5 : C := .cond 5 (.v 8) K89_4 (.skip)
@[simp] def W89_5 := @C.wpe _ _ K89_5.eq_1
def K89_6 : Pl := .st (.act none (.px (some 8) (.un .not (.v 7)))) .done
@[simp] def W89_6 := @Pl.wpe _ _ K89_6.eq_1
def K89_7 : C := .seq (.seq (.pl <| .st (.ext 5 4) <|
    .st (.act none (.pget (some 5) none 2 0 (some 2))) <|
    .st (.act none (.pget (some 6) none 3 0 (some 2))) <|
    .st (.act none (.ex (some 7) (.call fn_spec_StateValid [.v 5, .v 6]))) K89_6) K89_5) K89_2
@[simp] def W89_7 := @C.wpe _ _ K89_7.eq_1
def B_spec_EnabledSteps : C := .seq (.pl <| .st (.ext 5 0) <|
    .st (.act none (.pnew 2 (.v 0) [])) <|
    .st (.act none (.pnew 3 (.v 1) [])) <|
    .st (.act none (.px (some 4) (.mv (.c (.slice none 0 0))))) .done) K89_7
@[simp] def WB_spec_EnabledSteps := @C.wpe _ _ B_spec_EnabledSteps.eq_1
def R_spec_EnabledSteps : FIR := ⟨B_spec_EnabledSteps, 5, [(4, none)]⟩
theorem IR_spec_EnabledSteps : cfun Try.prog H_spec_EnabledSteps Try.f89 = some R_spec_EnabledSteps := by kernel_rfl
theorem EN_spec_EnabledSteps {args : List Value} {h : Heap} {k : Value → Heap → Prop} (hargs : args.length = 2) (hw : B_spec_EnabledSteps.wp Try.prog (retQ [(4, none)] k) (env0 args 5) h) : CallE Try.prog fn_spec_EnabledSteps args h k := enter Try.func89 rfl IR_spec_EnabledSteps hargs hw

def H_spec_InitialState : Hint := ⟨[(0, false), (1, true), (2, true), (3, false)], []⟩
def K182_1 : Pl := .st (.act none (.px (some 12) (.build [.slice none 0 0, .slice none 0 0] [(0, 1, .v 7), (1, 1, .v 11)]))) <|
    .st (.act none (.pset none 2 0 2 (.v 12))) <|
    .st (.act none (.px (some 3) (.mv (.c (.bool true))))) .done
@[simp] def W182_1 := @Pl.wpe _ _ K182_1.eq_1
def K182_2 : Pl := .st (.act none (.ex (some 11) (.app 8 1 [.int .i64 0] (.p 0 8) (.o (.v 10))))) K182_1
@[simp] def W182_2 := @Pl.wpe _ _ K182_2.eq_1
def K182_3 : Pl := .st (.act none (.ex (some 7) (.mks 8 1 [.int .i64 0] (.v 6) (.v 6)))) K182_2
@[simp] def W182_3 := @Pl.wpe _ _ K182_3.eq_1
def K182_4 : Pl := .st (.act none (.px (some 12) (.build [.slice none 0 0, .slice none 0 0] [(0, 1, .v 7), (1, 1, .v 11)]))) <|
    .st (.act none (.pset none 2 0 2 (.v 12))) <|
    .st (.act none (.px (some 3) (.mv (.c (.bool true))))) .done
@[simp] def W182_4 := @Pl.wpe _ _ K182_4.eq_1
def K182_5 : Pl := .st (.act none (.ex (some 7) (.mks 8 1 [.int .i64 0] (.v 6) (.v 6)))) K182_4
@[simp] def W182_5 := @Pl.wpe _ _ K182_5.eq_1
def K182_6 : Pl := .st (.act none (.ex (some 11) (.app 8 1 [.int .i64 0] (.p 0 8) (.o (.v 10))))) K182_5
@[simp] def W182_6 := @Pl.wpe _ _ K182_6.eq_1
def K182_7 : C := .seq (.pl <| .st (.ext 4 9) <|
    .st (.act none (.als 4 none 1)) <|
    .st (.act none (.pget (some 5) (some 4) 1 1 none)) <|
    .st (.act none (.px (some 6) (.lenV (.v 5)))) <|
    .st (.act none (.psl 8 [] [])) <|
    .st (.act none (.als 9 none 1)) <|
    .st (.act none (.pget (some 10) (some 9) 1 0 none)) <|
    .both K182_3 K182_6) (.ret)
@[simp] def W182_7 := @C.wpe _ _ K182_7.eq_1
def K182_8 : C := .seq (.pl <| .st (.ext 4 1) <|
    .st (.act none (.px (some 4) (.build [.slice none 0 0, .slice none 0 0] []))) <|
    .st (.act none (.pset none 2 0 2 (.v 4))) <|
    .st (.act none (.px (some 3) (.mv (.c (.bool false))))) .done) (.ret)
@[simp] def W182_8 := @C.wpe _ _ K182_8.eq_1
def K182_9 : C := .cond 4 (.v 6) K182_8 (.skip)
@[simp] def W182_9 := @C.wpe _ _ K182_9.eq_1
def K182_10 : Pl := .st (.act none (.px (some 6) (.un .not (.v 5)))) .done
@[simp] def W182_10 := @Pl.wpe _ _ K182_10.eq_1
def K182_11 : C := .seq (.seq (.pl <| .st (.ext 4 3) <|
    .st (.act none (.pget (some 4) none 1 0 (some 2))) <|
    .st (.act none (.ex (some 5) (.call fn_spec_SystemValid [.v 4]))) K182_10) K182_9) K182_7
@[simp] def W182_11 := @C.wpe _ _ K182_11.eq_1
def B_spec_InitialState : C := .seq (.pl <| .st (.ext 4 0) <|
    .st (.act none (.pnew 1 (.v 0) [])) <|
    .st (.act none (.pnew 2 (.c (.agg #[.slice none 0 0, .slice none 0 0])) [])) <|
    .st (.act none (.px (some 3) (.mv (.c (.bool false))))) .done) K182_11
@[simp] def WB_spec_InitialState := @C.wpe _ _ B_spec_InitialState.eq_1
def R_spec_InitialState : FIR := ⟨B_spec_InitialState, 4, [(2, some (some 2)), (3, none)]⟩
theorem IR_spec_InitialState : cfun Try.prog H_spec_InitialState Try.f182 = some R_spec_InitialState := by kernel_rfl
theorem EN_spec_InitialState {args : List Value} {h : Heap} {k : Value → Heap → Prop} (hargs : args.length = 1) (hw : B_spec_InitialState.wp Try.prog (retQ [(2, some (some 2)), (3, none)] k) (env0 args 4) h) : CallE Try.prog fn_spec_InitialState args h k := enter Try.func182 rfl IR_spec_InitialState hargs hw

def H_spec_StateValid : Hint := ⟨[(0, false), (1, false), (2, true), (3, true), (4, false), (5, false)], [[0, 1, 4]]⟩
def K83_1 : C := .seq (.pl <| .st (.ext 6 0) <|
    .st (.act none (.px (some 4) (.mv (.c (.bool true))))) .done) (.ret)
@[simp] def W83_1 := @C.wpe _ _ K83_1.eq_1
def K83_2 : C := .pl <| .st (.ext 6 2) <|
    .st (.act none (.px (some 6) (.mv (.v 5)))) <|
    .st (.act none (.px (some 7) (.bin .add (.v 6) (.c (.int .i64 1))))) <|
    .st (.act none (.px (some 5) (.mv (.v 7)))) .done
@[simp] def W83_2 := @C.wpe _ _ K83_2.eq_1
def K83_3 : C := .seq (.pl <| .st (.ext 6 0) <|
    .st (.act none (.px (some 4) (.mv (.c (.bool false))))) .done) (.ret)
@[simp] def W83_3 := @C.wpe _ _ K83_3.eq_1
def K83_4 : C := .cond 6 (.v 25) K83_3 (.skip)
@[simp] def W83_4 := @C.wpe _ _ K83_4.eq_1
def K83_5 : C := .seq (.block 1 (.seq (.pl <| .st (.ext 6 20) <|
    .st (.act none (.als 6 none 3)) <|
    .st (.act none (.pget (some 7) (some 6) 3 0 none)) <|
    .st (.act none (.px (some 8) (.mv (.v 5)))) <|
    .st (.act none (.px (some 9) (.ia 1 (.v 7) (.v 8)))) <|
    .st (.act none (.ld (some 10) (.v 9) none)) <|
    .st (.act none (.px (some 11) (.bin .lss (.v 10) (.c (.int .i64 0))))) <|
    .st (.act none (.px (some 12) (.mv (.v 11)))) <|
    .st (.act (some (.v 12, false)) (.als 13 none 3)) <|
    .st (.act (some (.v 12, false)) (.pget (some 14) (some 13) 3 0 none)) <|
    .st (.act (some (.v 12, false)) (.px (some 15) (.mv (.v 5)))) <|
    .st (.act (some (.v 12, false)) (.px (some 16) (.ia 1 (.v 14) (.v 15)))) <|
    .st (.act (some (.v 12, false)) (.ld (some 17) (.v 16) none)) <|
    .st (.act (some (.v 12, false)) (.als 18 none 2)) <|
    .st (.act (some (.v 12, false)) (.pget (some 19) (some 18) 2 1 none)) <|
    .st (.act (some (.v 12, false)) (.px (some 20) (.mv (.v 5)))) <|
    .st (.act (some (.v 12, false)) (.px (some 21) (.ia 2 (.v 19) (.v 20)))) <|
    .st (.act (some (.v 12, false)) (.px (some 22) (.fa 0 (.v 21)))) <|
    .st (.act (some (.v 12, false)) (.ld (some 23) (.v 22) none)) <|
    .st (.act (some (.v 12, false)) (.px (some 24) (.bin .geq (.v 17) (.v 23)))) <|
    .st (.act none (.px (some 25) (.pick (.v 12) (.c (.bool true)) (.v 24)))) .done) K83_4)) K83_2
@[simp] def W83_5 := @C.wpe _ _ K83_5.eq_1
def K83_6 : C := .cond 6 (.v 10) (.skip) (.exit 0)
@[simp] def W83_6 := @C.wpe _ _ K83_6.eq_1
def K83_7 : C := .seq (.seq (.pl <| .st (.ext 6 5) <|
    .st (.act none (.px (some 6) (.mv (.v 5)))) <|
    .st (.act none (.als 7 none 3)) <|
    .st (.act none (.pget (some 8) (some 7) 3 0 none)) <|
    .st (.act none (.px (some 9) (.lenV (.v 8)))) <|
    .st (.act none (.px (some 10) (.bin .lss (.v 6) (.v 9)))) .done) K83_6) K83_5
@[simp] def W83_7 := @C.wpe _ _ K83_7.eq_1
def K83_8 : C := .block 0 (.loop 6 [0, 1, 4] K83_7)
@[simp] def W83_8 := @C.wpe _ _ K83_8.eq_1
def K83_9 : C := .seq (.seq (.pl <| .st (.ext 6 0) <|
    .st (.act none (.px (some 5) (.mv (.c (.int .i64 0))))) .done) K83_8) K83_1
@[simp] def W83_9 := @C.wpe _ _ K83_9.eq_1
def K83_10 : C := .seq (.pl <| .st (.ext 6 0) <|
    .st (.act none (.px (some 4) (.mv (.c (.bool false))))) .done) (.ret)
@[simp] def W83_10 := @C.wpe _ _ K83_10.eq_1
def K83_11 : C := .cond 6 (.v 23) K83_10 (.skip)
@[simp] def W83_11 := @C.wpe _ _ K83_11.eq_1
def K83_12 : Pl := .st (.act (some (.v 18, false)) (.px (some 22) (.un .not (.v 21)))) <|
    .st (.act none (.px (some 23) (.pick (.v 18) (.c (.bool true)) (.v 22)))) .done
@[simp] def W83_12 := @Pl.wpe _ _ K83_12.eq_1
def K83_13 : Pl := .st (.act none (.px (some 8) (.un .not (.v 7)))) <|
    .st (.act none (.px (some 9) (.mv (.v 8)))) <|
    .st (.act (some (.v 9, false)) (.als 10 none 3)) <|
    .st (.act (some (.v 9, false)) (.pget (some 11) (some 10) 3 0 none)) <|
    .st (.act (some (.v 9, false)) (.px (some 12) (.lenV (.v 11)))) <|
    .st (.act (some (.v 9, false)) (.als 13 none 2)) <|
    .st (.act (some (.v 9, false)) (.pget (some 14) (some 13) 2 1 none)) <|
    .st (.act (some (.v 9, false)) (.px (some 15) (.lenV (.v 14)))) <|
    .st (.act (some (.v 9, false)) (.px (some 16) (.bin .neq (.v 12) (.v 15)))) <|
    .st (.act none (.px (some 17) (.pick (.v 9) (.c (.bool true)) (.v 16)))) <|
    .st (.act none (.px (some 18) (.mv (.v 17)))) <|
    .st (.act (some (.v 18, false)) (.als 19 none 3)) <|
    .st (.act (some (.v 18, false)) (.pget (some 20) (some 19) 3 1 none)) <|
    .st (.act (some (.v 18, false)) (.ex (some 21) (.call fn_spec_l1Vals [.v 20]))) K83_12
@[simp] def W83_13 := @Pl.wpe _ _ K83_13.eq_1
def K83_14 : C := .seq (.seq (.pl <| .st (.ext 6 18) <|
    .st (.act none (.pget (some 6) none 2 0 (some 2))) <|
    .st (.act none (.ex (some 7) (.call fn_spec_SystemValid [.v 6]))) K83_13) K83_11) K83_9
@[simp] def W83_14 := @C.wpe _ _ K83_14.eq_1
def B_spec_StateValid : C := .seq (.pl <| .st (.ext 6 0) <|
    .st (.act none (.pnew 2 (.v 0) [])) <|
    .st (.act none (.pnew 3 (.v 1) [])) <|
    .st (.act none (.px (some 4) (.mv (.c (.bool false))))) .done) K83_14
@[simp] def WB_spec_StateValid := @C.wpe _ _ B_spec_StateValid.eq_1
def R_spec_StateValid : FIR := ⟨B_spec_StateValid, 6, [(4, none)]⟩
theorem IR_spec_StateValid : cfun Try.prog H_spec_StateValid Try.f83 = some R_spec_StateValid := by kernel_rfl
theorem EN_spec_StateValid {args : List Value} {h : Heap} {k : Value → Heap → Prop} (hargs : args.length = 2) (hw : B_spec_StateValid.wp Try.prog (retQ [(4, none)] k) (env0 args 6) h) : CallE Try.prog fn_spec_StateValid args h k := enter Try.func83 rfl IR_spec_StateValid hargs hw

def H_spec_l1Bool : Hint := ⟨[(0, false), (2, false)], []⟩
def K189_1 : C := .seq (.pl <| .st (.ext 2 0) <|
    .st (.act none (.px (some 1) (.mv (.c (.int .i64 0))))) .done) (.ret)
@[simp] def W189_1 := @C.wpe _ _ K189_1.eq_1
def K189_2 : C := .seq (.pl <| .st (.ext 2 0) <|
    .st (.act none (.px (some 1) (.mv (.c (.int .i64 1))))) .done) (.ret)
@[simp] def W189_2 := @C.wpe _ _ K189_2.eq_1
def K189_3 : C := .cond 2 (.v 2) K189_2 (.skip)
@[simp] def W189_3 := @C.wpe _ _ K189_3.eq_1
def K189_4 : C := .seq (.seq (.pl <| .st (.ext 2 1) <|
    .st (.act none (.px (some 2) (.mv (.v 0)))) .done) K189_3) K189_1
@[simp] def W189_4 := @C.wpe _ _ K189_4.eq_1
def B_spec_l1Bool : C := .seq (.pl <| .st (.ext 2 0) <|
    .st (.act none (.px (some 1) (.mv (.c (.int .i64 0))))) .done) K189_4
@[simp] def WB_spec_l1Bool := @C.wpe _ _ B_spec_l1Bool.eq_1
def R_spec_l1Bool : FIR := ⟨B_spec_l1Bool, 2, [(1, none)]⟩
theorem IR_spec_l1Bool : cfun Try.prog H_spec_l1Bool Try.f189 = some R_spec_l1Bool := by kernel_rfl
theorem EN_spec_l1Bool {args : List Value} {h : Heap} {k : Value → Heap → Prop} (hargs : args.length = 1) (hw : B_spec_l1Bool.wp Try.prog (retQ [(1, none)] k) (env0 args 2) h) : CallE Try.prog fn_spec_l1Bool args h k := enter Try.func189 rfl IR_spec_l1Bool hargs hw

def H_spec_l1Eval : Hint := ⟨[(0, false), (1, false), (2, true), (4, false), (5, false), (6, false), (8, false), (43, false)], []⟩
def K160_1 : C := .seq (.pl <| .st (.ext 8 6) <|
    .st (.act none (.px (some 8) (.mv (.v 4)))) <|
    .st (.act none (.px (some 9) (.mv (.v 5)))) <|
    .st (.act none (.px (some 10) (.bin .sub (.v 8) (.v 9)))) <|
    .st (.act none (.px (some 11) (.bin .add (.v 10) (.c (.int .i64 3))))) <|
    .st (.act none (.px (some 12) (.bin .add (.v 11) (.c (.int .i64 1))))) <|
    .st (.act none (.px (some 13) (.bin .rem (.v 12) (.c (.int .i64 4))))) <|
    .st (.act none (.px (some 3) (.mv (.v 13)))) .done) (.ret)
@[simp] def W160_1 := @C.wpe _ _ K160_1.eq_1
def K160_2 : Pl := .st (.act none (.px (some 3) (.mv (.v 14)))) .done
@[simp] def W160_2 := @Pl.wpe _ _ K160_2.eq_1
def K160_3 : C := .seq (.pl <| .st (.ext 8 7) <|
    .st (.act none (.px (some 8) (.mv (.v 4)))) <|
    .st (.act none (.px (some 9) (.bin .neq (.v 8) (.c (.int .i64 0))))) <|
    .st (.act none (.px (some 10) (.mv (.v 9)))) <|
    .st (.act (some (.v 10, true)) (.px (some 11) (.mv (.v 5)))) <|
    .st (.act (some (.v 10, true)) (.px (some 12) (.bin .neq (.v 11) (.c (.int .i64 0))))) <|
    .st (.act none (.px (some 13) (.pick (.v 10) (.v 12) (.c (.bool false))))) <|
    .st (.act none (.ex (some 14) (.call fn_spec_l1Bool [.v 13]))) K160_2) (.ret)
@[simp] def W160_3 := @C.wpe _ _ K160_3.eq_1
def K160_4 : Pl := .st (.act none (.px (some 3) (.mv (.v 14)))) .done
@[simp] def W160_4 := @Pl.wpe _ _ K160_4.eq_1
def K160_5 : C := .seq (.pl <| .st (.ext 8 7) <|
    .st (.act none (.px (some 8) (.mv (.v 4)))) <|
    .st (.act none (.px (some 9) (.bin .neq (.v 8) (.c (.int .i64 0))))) <|
    .st (.act none (.px (some 10) (.mv (.v 9)))) <|
    .st (.act (some (.v 10, false)) (.px (some 11) (.mv (.v 5)))) <|
    .st (.act (some (.v 10, false)) (.px (some 12) (.bin .neq (.v 11) (.c (.int .i64 0))))) <|
    .st (.act none (.px (some 13) (.pick (.v 10) (.c (.bool true)) (.v 12)))) <|
    .st (.act none (.ex (some 14) (.call fn_spec_l1Bool [.v 13]))) K160_4) (.ret)
@[simp] def W160_5 := @C.wpe _ _ K160_5.eq_1
def K160_6 : Pl := .st (.act none (.px (some 3) (.mv (.v 11)))) .done
@[simp] def W160_6 := @Pl.wpe _ _ K160_6.eq_1
def K160_7 : C := .seq (.pl <| .st (.ext 8 4) <|
    .st (.act none (.px (some 8) (.mv (.v 4)))) <|
    .st (.act none (.px (some 9) (.mv (.v 5)))) <|
    .st (.act none (.px (some 10) (.bin .eql (.v 8) (.v 9)))) <|
    .st (.act none (.ex (some 11) (.call fn_spec_l1Bool [.v 10]))) K160_6) (.ret)
@[simp] def W160_7 := @C.wpe _ _ K160_7.eq_1
def K160_8 : Pl := .st (.act none (.px (some 3) (.mv (.v 11)))) .done
@[simp] def W160_8 := @Pl.wpe _ _ K160_8.eq_1
def K160_9 : C := .seq (.pl <| .st (.ext 8 4) <|
    .st (.act none (.px (some 8) (.mv (.v 4)))) <|
    .st (.act none (.px (some 9) (.mv (.v 5)))) <|
    .st (.act none (.px (some 10) (.bin .lss (.v 8) (.v 9)))) <|
    .st (.act none (.ex (some 11) (.call fn_spec_l1Bool [.v 10]))) K160_8) (.ret)
@[simp] def W160_9 := @C.wpe _ _ K160_9.eq_1
def K160_10 : C := .seq (.pl <| .st (.ext 8 4) <|
    .st (.act none (.px (some 8) (.mv (.v 4)))) <|
    .st (.act none (.px (some 9) (.mv (.v 5)))) <|
    .st (.act none (.px (some 10) (.bin .add (.v 8) (.v 9)))) <|
    .st (.act none (.px (some 11) (.bin .rem (.v 10) (.c (.int .i64 4))))) <|
    .st (.act none (.px (some 3) (.mv (.v 11)))) .done) (.ret)
@[simp] def W160_10 := @C.wpe _ _ K160_10.eq_1
def K160_11 : C := .cond 8 (.v 9) K160_10 (.skip)
@[simp] def W160_11 := @C.wpe _ _ K160_11.eq_1
def K160_12 : C := .seq (.pl <| .st (.ext 8 2) <|
    .st (.act none (.px (some 8) (.bin .eql (.v 7) (.c (.int .i64 8))))) <|
    .st (.act none (.px (some 9) (.mv (.v 8)))) .done) K160_11
@[simp] def W160_12 := @C.wpe _ _ K160_12.eq_1
def K160_13 : C := .cond 8 (.v 9) K160_9 K160_12
@[simp] def W160_13 := @C.wpe _ _ K160_13.eq_1
def K160_14 : C := .seq (.pl <| .st (.ext 8 2) <|
    .st (.act none (.px (some 8) (.bin .eql (.v 7) (.c (.int .i64 7))))) <|
    .st (.act none (.px (some 9) (.mv (.v 8)))) .done) K160_13
@[simp] def W160_14 := @C.wpe _ _ K160_14.eq_1
def K160_15 : C := .cond 8 (.v 9) K160_7 K160_14
@[simp] def W160_15 := @C.wpe _ _ K160_15.eq_1
def K160_16 : C := .seq (.pl <| .st (.ext 8 2) <|
    .st (.act none (.px (some 8) (.bin .eql (.v 7) (.c (.int .i64 6))))) <|
    .st (.act none (.px (some 9) (.mv (.v 8)))) .done) K160_15
@[simp] def W160_16 := @C.wpe _ _ K160_16.eq_1
def K160_17 : C := .cond 8 (.v 9) K160_5 K160_16
@[simp] def W160_17 := @C.wpe _ _ K160_17.eq_1
def K160_18 : C := .seq (.pl <| .st (.ext 8 2) <|
    .st (.act none (.px (some 8) (.bin .eql (.v 7) (.c (.int .i64 5))))) <|
    .st (.act none (.px (some 9) (.mv (.v 8)))) .done) K160_17
@[simp] def W160_18 := @C.wpe _ _ K160_18.eq_1
def K160_19 : C := .cond 8 (.v 9) K160_3 K160_18
@[simp] def W160_19 := @C.wpe _ _ K160_19.eq_1
def K160_20 : C := .block 1 (.seq (.pl <| .st (.ext 8 2) <|
    .st (.act none (.px (some 8) (.bin .eql (.v 7) (.c (.int .i64 4))))) <|
    .st (.act none (.px (some 9) (.mv (.v 8)))) .done) K160_19)
@[simp] def W160_20 := @C.wpe _ _ K160_20.eq_1
def K160_21 : C := .seq (.seq (.pl <| .st (.ext 8 1) <|
    .st (.act none (.als 8 none 2)) <|
    .st (.act none (.pget (some 7) (some 8) 2 0 none)) .done) K160_20) K160_1
@[simp] def W160_21 := @C.wpe _ _ K160_21.eq_1
def K160_22 : Pl := .st (.act none (.px (some 5) (.mv (.v 13)))) .done
@[simp] def W160_22 := @Pl.wpe _ _ K160_22.eq_1
def K160_23 : C := .seq (.pl <| .st (.ext 8 6) <|
    .st (.act none (.als 8 none 2)) <|
    .st (.act none (.pget (some 9) (some 8) 2 2 none)) <|
    .st (.act none (.px (some 10) (.ia 3 (.v 9) (.c (.int .i64 1))))) <|
    .st (.act none (.ld (some 11) (.v 10) (some 3))) <|
    .st (.act none (.px (some 12) (.mv (.v 1)))) <|
    .st (.act none (.ex (some 13) (.call fn_spec_l1Eval [.v 11, .v 12]))) K160_22) K160_21
@[simp] def W160_23 := @C.wpe _ _ K160_23.eq_1
def K160_24 : Pl := .st (.act none (.px (some 4) (.mv (.v 13)))) .done
@[simp] def W160_24 := @Pl.wpe _ _ K160_24.eq_1
def K160_25 : C := .seq (.pl <| .st (.ext 8 6) <|
    .st (.act none (.als 8 none 2)) <|
    .st (.act none (.pget (some 9) (some 8) 2 2 none)) <|
    .st (.act none (.px (some 10) (.ia 3 (.v 9) (.c (.int .i64 0))))) <|
    .st (.act none (.ld (some 11) (.v 10) (some 3))) <|
    .st (.act none (.px (some 12) (.mv (.v 1)))) <|
    .st (.act none (.ex (some 13) (.call fn_spec_l1Eval [.v 11, .v 12]))) K160_24) K160_23
@[simp] def W160_25 := @C.wpe _ _ K160_25.eq_1
def K160_26 : C := .seq (.pl <| .st (.ext 8 2) <|
    .st (.act none (.als 8 none 2)) <|
    .st (.act none (.pget (some 9) (some 8) 2 1 none)) <|
    .st (.act none (.px (some 3) (.mv (.v 9)))) .done) (.ret)
@[simp] def W160_26 := @C.wpe _ _ K160_26.eq_1
def K160_27 : C := .seq (.pl <| .st (.ext 8 5) <|
    .st (.act none (.px (some 8) (.mv (.v 1)))) <|
    .st (.act none (.als 9 none 2)) <|
    .st (.act none (.pget (some 10) (some 9) 2 1 none)) <|
    .st (.act none (.px (some 11) (.ia 1 (.v 8) (.v 10)))) <|
    .st (.act none (.ld (some 12) (.v 11) none)) <|
    .st (.act none (.px (some 3) (.mv (.v 12)))) .done) (.ret)
@[simp] def W160_27 := @C.wpe _ _ K160_27.eq_1
def K160_28 : Pl := .st (.act none (.px (some 3) (.mv (.v 15)))) .done
@[simp] def W160_28 := @Pl.wpe _ _ K160_28.eq_1
def K160_29 : Pl := .st (.act none (.px (some 14) (.bin .eql (.v 13) (.c (.int .i64 0))))) <|
    .st (.act none (.ex (some 15) (.call fn_spec_l1Bool [.v 14]))) K160_28
@[simp] def W160_29 := @Pl.wpe _ _ K160_29.eq_1
def K160_30 : C := .seq (.pl <| .st (.ext 8 8) <|
    .st (.act none (.als 8 none 2)) <|
    .st (.act none (.pget (some 9) (some 8) 2 2 none)) <|
    .st (.act none (.px (some 10) (.ia 3 (.v 9) (.c (.int .i64 0))))) <|
    .st (.act none (.ld (some 11) (.v 10) (some 3))) <|
    .st (.act none (.px (some 12) (.mv (.v 1)))) <|
    .st (.act none (.ex (some 13) (.call fn_spec_l1Eval [.v 11, .v 12]))) K160_29) (.ret)
@[simp] def W160_30 := @C.wpe _ _ K160_30.eq_1
def K160_31 : C := .cond 8 (.v 9) K160_30 (.skip)
@[simp] def W160_31 := @C.wpe _ _ K160_31.eq_1
def K160_32 : C := .seq (.pl <| .st (.ext 8 2) <|
    .st (.act none (.px (some 8) (.bin .eql (.v 6) (.c (.int .i64 3))))) <|
    .st (.act none (.px (some 9) (.mv (.v 8)))) .done) K160_31
@[simp] def W160_32 := @C.wpe _ _ K160_32.eq_1
def K160_33 : C := .cond 8 (.v 9) K160_27 K160_32
@[simp] def W160_33 := @C.wpe _ _ K160_33.eq_1
def K160_34 : C := .seq (.pl <| .st (.ext 8 2) <|
    .st (.act none (.px (some 8) (.bin .eql (.v 6) (.c (.int .i64 2))))) <|
    .st (.act none (.px (some 9) (.mv (.v 8)))) .done) K160_33
@[simp] def W160_34 := @C.wpe _ _ K160_34.eq_1
def K160_35 : C := .cond 8 (.v 9) K160_26 K160_34
@[simp] def W160_35 := @C.wpe _ _ K160_35.eq_1
def K160_36 : C := .block 0 (.seq (.pl <| .st (.ext 8 2) <|
    .st (.act none (.px (some 8) (.bin .eql (.v 6) (.c (.int .i64 1))))) <|
    .st (.act none (.px (some 9) (.mv (.v 8)))) .done) K160_35)
@[simp] def W160_36 := @C.wpe _ _ K160_36.eq_1
def K160_37 : C := .seq (.seq (.pl <| .st (.ext 8 1) <|
    .st (.act none (.als 8 none 2)) <|
    .st (.act none (.pget (some 6) (some 8) 2 0 none)) .done) K160_36) K160_25
@[simp] def W160_37 := @C.wpe _ _ K160_37.eq_1
def B_spec_l1Eval : C := .seq (.pl <| .st (.ext 8 0) <|
    .st (.act none (.pnew 2 (.v 0) [])) <|
    .st (.act none (.px (some 3) (.mv (.c (.int .i64 0))))) .done) K160_37
@[simp] def WB_spec_l1Eval := @C.wpe _ _ B_spec_l1Eval.eq_1
def R_spec_l1Eval : FIR := ⟨B_spec_l1Eval, 8, [(3, none)]⟩
theorem IR_spec_l1Eval : cfun Try.prog H_spec_l1Eval Try.f160 = some R_spec_l1Eval := by kernel_rfl
theorem EN_spec_l1Eval {args : List Value} {h : Heap} {k : Value → Heap → Prop} (hargs : args.length = 2) (hw : B_spec_l1Eval.wp Try.prog (retQ [(3, none)] k) (env0 args 8) h) : CallE Try.prog fn_spec_l1Eval args h k := enter Try.func160 rfl IR_spec_l1Eval hargs hw

def H_spec_l3Apply : Hint := ⟨[(0, false), (1, false), (2, false), (3, true), (4, true), (5, true), (6, true), (7, true)], []⟩
def K90_1 : C := .seq (.pl <| .st (.ext 8 1) <|
    .st (.act none (.pget (some 8) none 7 0 (some 2))) <|
    .st (.act none (.pset none 6 0 2 (.v 8))) .done) (.ret)
@[simp] def W90_1 := @C.wpe _ _ K90_1.eq_1
def K90_2 : Pl := .st (.act none (.pset none 7 0 2 (.v 22))) .done
@[simp] def W90_2 := @Pl.wpe _ _ K90_2.eq_1
def K90_3 : C := .pl <| .st (.ext 8 15) <|
    .st (.act none (.pget (some 8) none 7 0 (some 2))) <|
    .st (.act none (.als 9 none 5)) <|
    .st (.act none (.pget (some 10) (some 9) 5 2 none)) <|
    .st (.act none (.als 11 none 3)) <|
    .st (.act none (.pget (some 12) (some 11) 3 1 none)) <|
    .st (.act none (.als 13 none 5)) <|
    .st (.act none (.pget (some 14) (some 13) 5 2 none)) <|
    .st (.act none (.px (some 15) (.ia 2 (.v 12) (.v 14)))) <|
    .st (.act none (.px (some 16) (.fa 1 (.v 15)))) <|
    .st (.act none (.ld (some 17) (.v 16) none)) <|
    .st (.act none (.als 18 none 5)) <|
    .st (.act none (.pget (some 19) (some 18) 5 3 none)) <|
    .st (.act none (.px (some 20) (.ia 10 (.v 17) (.v 19)))) <|
    .st (.act none (.ld (some 21) (.v 20) (some 10))) <|
    .st (.act none (.ex (some 22) (.call fn_spec_l3Take [.v 8, .v 10, .v 21]))) K90_2
@[simp] def W90_3 := @C.wpe _ _ K90_3.eq_1
def K90_4 : C := .cond 8 (.v 10) K90_3 (.skip)
@[simp] def W90_4 := @C.wpe _ _ K90_4.eq_1
def K90_5 : C := .seq (.seq (.pl <| .st (.ext 8 3) <|
    .st (.act none (.als 8 none 5)) <|
    .st (.act none (.pget (some 9) (some 8) 5 2 none)) <|
    .st (.act none (.px (some 10) (.bin .geq (.v 9) (.c (.int .i64 0))))) .done) K90_4) K90_1
@[simp] def W90_5 := @C.wpe _ _ K90_5.eq_1
def K90_6 : Pl := .st (.act none (.pset none 7 0 2 (.v 22))) .done
@[simp] def W90_6 := @Pl.wpe _ _ K90_6.eq_1
def K90_7 : C := .seq (.pl <| .st (.ext 8 15) <|
    .st (.act none (.pget (some 8) none 7 0 (some 2))) <|
    .st (.act none (.als 9 none 5)) <|
    .st (.act none (.pget (some 10) (some 9) 5 0 none)) <|
    .st (.act none (.als 11 none 3)) <|
    .st (.act none (.pget (some 12) (some 11) 3 1 none)) <|
    .st (.act none (.als 13 none 5)) <|
    .st (.act none (.pget (some 14) (some 13) 5 0 none)) <|
    .st (.act none (.px (some 15) (.ia 2 (.v 12) (.v 14)))) <|
    .st (.act none (.px (some 16) (.fa 1 (.v 15)))) <|
    .st (.act none (.ld (some 17) (.v 16) none)) <|
    .st (.act none (.als 18 none 5)) <|
    .st (.act none (.pget (some 19) (some 18) 5 1 none)) <|
    .st (.act none (.px (some 20) (.ia 10 (.v 17) (.v 19)))) <|
    .st (.act none (.ld (some 21) (.v 20) (some 10))) <|
    .st (.act none (.ex (some 22) (.call fn_spec_l3Take [.v 8, .v 10, .v 21]))) K90_6) K90_5
@[simp] def W90_7 := @C.wpe _ _ K90_7.eq_1
def K90_8 : Pl := .st (.act none (.px (some 16) (.build [.slice none 0 0, .slice none 0 0] [(0, 1, .v 11), (1, 1, .v 15)]))) <|
    .st (.act none (.pset none 7 0 2 (.v 16))) .done
@[simp] def W90_8 := @Pl.wpe _ _ K90_8.eq_1
def K90_9 : Pl := .st (.act none (.ex (some 15) (.app 8 1 [.int .i64 0] (.p 0 12) (.o (.v 14))))) K90_8
@[simp] def W90_9 := @Pl.wpe _ _ K90_9.eq_1
def K90_10 : C := .seq (.pl <| .st (.ext 8 9) <|
    .st (.act none (.psl 8 [] [])) <|
    .st (.act none (.als 9 none 4)) <|
    .st (.act none (.pget (some 10) (some 9) 4 0 none)) <|
    .st (.act none (.psl 12 [] [])) <|
    .st (.act none (.als 13 none 4)) <|
    .st (.act none (.pget (some 14) (some 13) 4 1 none)) <|
    .st (.act none (.pnew 7 (.c (.agg #[.slice none 0 0, .slice none 0 0])) [])) <|
    .st (.act none (.ex (some 11) (.app 8 1 [.int .i64 0] (.p 0 8) (.o (.v 10))))) K90_9) K90_7
@[simp] def W90_10 := @C.wpe _ _ K90_10.eq_1
def B_spec_l3Apply : C := .seq (.pl <| .st (.ext 8 0) <|
    .st (.act none (.pnew 3 (.v 0) [])) <|
    .st (.act none (.pnew 4 (.v 1) [])) <|
    .st (.act none (.pnew 5 (.v 2) [])) <|
    .st (.act none (.pnew 6 (.c (.agg #[.slice none 0 0, .slice none 0 0])) [])) .done) K90_10
@[simp] def WB_spec_l3Apply := @C.wpe _ _ B_spec_l3Apply.eq_1
def R_spec_l3Apply : FIR := ⟨B_spec_l3Apply, 8, [(6, some (some 2))]⟩
theorem IR_spec_l3Apply : cfun Try.prog H_spec_l3Apply Try.f90 = some R_spec_l3Apply := by kernel_rfl
theorem EN_spec_l3Apply {args : List Value} {h : Heap} {k : Value → Heap → Prop} (hargs : args.length = 3) (hw : B_spec_l3Apply.wp Try.prog (retQ [(6, some (some 2))] k) (env0 args 8) h) : CallE Try.prog fn_spec_l3Apply args h k := enter Try.func90 rfl IR_spec_l3Apply hargs hw

def H_spec_l3Mutate : Hint := ⟨[(0, false), (1, false), (3, true), (4, true), (5, true), (16, false)], []⟩
def K150_1 : C := .seq (.pl <| .st (.ext 6 1) <|
    .st (.act none (.pget (some 6) none 4 0 (some 2))) <|
    .st (.act none (.pset none 3 0 2 (.v 6))) .done) (.ret)
@[simp] def W150_1 := @C.wpe _ _ K150_1.eq_1
def K150_2 : Pl := .st (.act none (.als 10 none 4)) <|
    .st (.act none (.pset (some 10) 4 0 1 (.v 9))) .done
@[simp] def W150_2 := @Pl.wpe _ _ K150_2.eq_1
def K150_3 : C := .pl <| .st (.ext 6 5) <|
    .st (.act none (.als 6 none 4)) <|
    .st (.act none (.pget (some 7) (some 6) 4 0 none)) <|
    .st (.act none (.psl 8 [.int .i64 0] [(0, 1, .c (.int .i64 0))])) <|
    .st (.act none (.ex (some 9) (.app 8 1 [.int .i64 0] (.o (.v 7)) (.p 1 8)))) K150_2
@[simp] def W150_3 := @C.wpe _ _ K150_3.eq_1
def K150_4 : Pl := .st (.act none (.px (some 11) (.ia 1 (.v 7) (.c (.int .i64 0))))) <|
    .st (.act none (.ex none (.store 1 (.v 11) (.v 10)))) .done
@[simp] def W150_4 := @Pl.wpe _ _ K150_4.eq_1
def K150_5 : Pl := .st (.act none (.ex (some 10) (.call fn_spec_l16Rd_num [.v 8, .v 9]))) K150_4
@[simp] def W150_5 := @Pl.wpe _ _ K150_5.eq_1
def K150_6 : C := .pl <| .st (.ext 6 6) <|
    .st (.act none (.als 6 none 4)) <|
    .st (.act none (.pget (some 7) (some 6) 4 0 none)) <|
    .st (.act none (.px (some 8) (.mv (.v 0)))) <|
    .st (.act none (.ex (some 9) (.bls 1 5 [.int .i64 0] [(0, 1, .c (.int .i64 (-1))), (1, 1, .c (.int .i64 4)), (2, 1, .c (.int .i64 3)), (3, 1, .c (.int .i64 9223372036854775807)), (4, 1, .c (.int .i64 10))]))) K150_5
@[simp] def W150_6 := @C.wpe _ _ K150_6.eq_1
def K150_7 : C := .cond 6 (.v 9) K150_6 (.skip)
@[simp] def W150_7 := @C.wpe _ _ K150_7.eq_1
def K150_8 : C := .seq (.pl <| .st (.ext 6 4) <|
    .st (.act none (.als 6 none 4)) <|
    .st (.act none (.pget (some 7) (some 6) 4 0 none)) <|
    .st (.act none (.px (some 8) (.lenV (.v 7)))) <|
    .st (.act none (.px (some 9) (.bin .gtr (.v 8) (.c (.int .i64 0))))) .done) K150_7
@[simp] def W150_8 := @C.wpe _ _ K150_8.eq_1
def K150_9 : Pl := .st (.act none (.px (some 16) (.ia 1 (.v 7) (.v 12)))) <|
    .st (.act none (.ex none (.store 1 (.v 16) (.v 15)))) .done
@[simp] def W150_9 := @Pl.wpe _ _ K150_9.eq_1
def K150_10 : Pl := .st (.act none (.ex (some 15) (.call fn_spec_l16Rd_num [.v 13, .v 14]))) K150_9
@[simp] def W150_10 := @Pl.wpe _ _ K150_10.eq_1
def K150_11 : Pl := .st (.act none (.ex (some 14) (.bls 1 4 [.int .i64 0] [(0, 1, .c (.int .i64 (-1))), (1, 1, .c (.int .i64 4)), (2, 1, .c (.int .i64 3)), (3, 1, .c (.int .i64 12))]))) K150_10
@[simp] def W150_11 := @Pl.wpe _ _ K150_11.eq_1
def K150_12 : Pl := .st (.act none (.ex (some 12) (.call fn_spec_l16Rd_pick [.v 8, .v 11]))) K150_11
@[simp] def W150_12 := @Pl.wpe _ _ K150_12.eq_1
def K150_13 : Pl := .st (.act none (.px (some 16) (.ia 1 (.v 7) (.v 12)))) <|
    .st (.act none (.ex none (.store 1 (.v 16) (.v 15)))) .done
@[simp] def W150_13 := @Pl.wpe _ _ K150_13.eq_1
def K150_14 : Pl := .st (.act none (.ex (some 15) (.call fn_spec_l16Rd_num [.v 13, .v 14]))) K150_13
@[simp] def W150_14 := @Pl.wpe _ _ K150_14.eq_1
def K150_15 : Pl := .st (.act none (.ex (some 12) (.call fn_spec_l16Rd_pick [.v 8, .v 11]))) K150_14
@[simp] def W150_15 := @Pl.wpe _ _ K150_15.eq_1
def K150_16 : Pl := .st (.act none (.ex (some 14) (.bls 1 4 [.int .i64 0] [(0, 1, .c (.int .i64 (-1))), (1, 1, .c (.int .i64 4)), (2, 1, .c (.int .i64 3)), (3, 1, .c (.int .i64 12))]))) K150_15
@[simp] def W150_16 := @Pl.wpe _ _ K150_16.eq_1
def K150_17 : C := .pl <| .st (.ext 6 11) <|
    .st (.act none (.als 6 none 4)) <|
    .st (.act none (.pget (some 7) (some 6) 4 1 none)) <|
    .st (.act none (.px (some 8) (.mv (.v 0)))) <|
    .st (.act none (.als 9 none 4)) <|
    .st (.act none (.pget (some 10) (some 9) 4 1 none)) <|
    .st (.act none (.px (some 11) (.lenV (.v 10)))) <|
    .st (.act none (.px (some 13) (.mv (.v 0)))) <|
    .both K150_12 K150_16
@[simp] def W150_17 := @C.wpe _ _ K150_17.eq_1
def K150_18 : C := .cond 6 (.v 9) K150_17 (.skip)
@[simp] def W150_18 := @C.wpe _ _ K150_18.eq_1
def K150_19 : C := .seq (.pl <| .st (.ext 6 4) <|
    .st (.act none (.als 6 none 4)) <|
    .st (.act none (.pget (some 7) (some 6) 4 1 none)) <|
    .st (.act none (.px (some 8) (.lenV (.v 7)))) <|
    .st (.act none (.px (some 9) (.bin .gtr (.v 8) (.c (.int .i64 0))))) .done) K150_18
@[simp] def W150_19 := @C.wpe _ _ K150_19.eq_1
def K150_20 : C := .seq (.pl <| .st (.ext 6 1) <|
    .st (.act none (.px (some 6) (.build [.slice none 0 0, .slice none 0 0] []))) <|
    .st (.act none (.pset none 3 0 2 (.v 6))) .done) (.ret)
@[simp] def W150_20 := @C.wpe _ _ K150_20.eq_1
def K150_21 : C := .cond 6 (.v 7) K150_20 (.skip)
@[simp] def W150_21 := @C.wpe _ _ K150_21.eq_1
def K150_22 : C := .seq (.pl <| .st (.ext 6 2) <|
    .st (.act none (.px (some 6) (.bin .eql (.v 5) (.c (.int .i64 3))))) <|
    .st (.act none (.px (some 7) (.mv (.v 6)))) .done) K150_21
@[simp] def W150_22 := @C.wpe _ _ K150_22.eq_1
def K150_23 : C := .cond 6 (.v 7) K150_19 K150_22
@[simp] def W150_23 := @C.wpe _ _ K150_23.eq_1
def K150_24 : C := .seq (.pl <| .st (.ext 6 2) <|
    .st (.act none (.px (some 6) (.bin .eql (.v 5) (.c (.int .i64 2))))) <|
    .st (.act none (.px (some 7) (.mv (.v 6)))) .done) K150_23
@[simp] def W150_24 := @C.wpe _ _ K150_24.eq_1
def K150_25 : C := .cond 6 (.v 7) K150_8 K150_24
@[simp] def W150_25 := @C.wpe _ _ K150_25.eq_1
def K150_26 : C := .seq (.pl <| .st (.ext 6 2) <|
    .st (.act none (.px (some 6) (.bin .eql (.v 5) (.c (.int .i64 1))))) <|
    .st (.act none (.px (some 7) (.mv (.v 6)))) .done) K150_25
@[simp] def W150_26 := @C.wpe _ _ K150_26.eq_1
def K150_27 : C := .cond 6 (.v 7) K150_3 K150_26
@[simp] def W150_27 := @C.wpe _ _ K150_27.eq_1
def K150_28 : C := .block 0 (.seq (.pl <| .st (.ext 6 2) <|
    .st (.act none (.px (some 6) (.bin .eql (.v 5) (.c (.int .i64 0))))) <|
    .st (.act none (.px (some 7) (.mv (.v 6)))) .done) K150_27)
@[simp] def W150_28 := @C.wpe _ _ K150_28.eq_1
def K150_29 : C := .seq (.seq (.pl <| .st (.ext 6 1) <|
    .st (.act none (.px (some 6) (.mv (.v 0)))) <|
    .st (.act none (.ex (some 5) (.call fn_spec_l16Rd_pick [.v 6, .c (.int .i64 40)]))) .done) K150_28) K150_1
@[simp] def W150_29 := @C.wpe _ _ K150_29.eq_1
def K150_30 : Pl := .st (.act none (.px (some 14) (.build [.slice none 0 0, .slice none 0 0] [(0, 1, .v 9), (1, 1, .v 13)]))) <|
    .st (.act none (.pset none 4 0 2 (.v 14))) .done
@[simp] def W150_30 := @Pl.wpe _ _ K150_30.eq_1
def K150_31 : Pl := .st (.act none (.ex (some 13) (.app 8 1 [.int .i64 0] (.p 0 10) (.o (.v 12))))) K150_30
@[simp] def W150_31 := @Pl.wpe _ _ K150_31.eq_1
def K150_32 : C := .seq (.pl <| .st (.ext 6 9) <|
    .st (.act none (.psl 6 [] [])) <|
    .st (.act none (.als 7 none 2)) <|
    .st (.act none (.pget (some 8) (some 7) 2 0 none)) <|
    .st (.act none (.psl 10 [] [])) <|
    .st (.act none (.als 11 none 2)) <|
    .st (.act none (.pget (some 12) (some 11) 2 1 none)) <|
    .st (.act none (.pnew 4 (.c (.agg #[.slice none 0 0, .slice none 0 0])) [])) <|
    .st (.act none (.ex (some 9) (.app 8 1 [.int .i64 0] (.p 0 6) (.o (.v 8))))) K150_31) K150_29
@[simp] def W150_32 := @C.wpe _ _ K150_32.eq_1
def B_spec_l3Mutate : C := .seq (.pl <| .st (.ext 6 0) <|
    .st (.act none (.pnew 2 (.v 1) [])) <|
    .st (.act none (.pnew 3 (.c (.agg #[.slice none 0 0, .slice none 0 0])) [])) .done) K150_32
@[simp] def WB_spec_l3Mutate := @C.wpe _ _ B_spec_l3Mutate.eq_1
def R_spec_l3Mutate : FIR := ⟨B_spec_l3Mutate, 6, [(3, some (some 2))]⟩
theorem IR_spec_l3Mutate : cfun Try.prog H_spec_l3Mutate Try.f150 = some R_spec_l3Mutate := by kernel_rfl
theorem EN_spec_l3Mutate {args : List Value} {h : Heap} {k : Value → Heap → Prop} (hargs : args.length = 2) (hw : B_spec_l3Mutate.wp Try.prog (retQ [(3, some (some 2))] k) (env0 args 6) h) : CallE Try.prog fn_spec_l3Mutate args h k := enter Try.func150 rfl IR_spec_l3Mutate hargs hw

def H_spec_l3Partners : Hint := ⟨[(0, false), (1, false), (2, false), (3, false), (4, true), (5, true), (8, false), (9, false), (10, false), (11, false), (12, false)], [[0, 1, 6, 10], [0, 1, 6]]⟩
def K174_1 : C := .seq (.pl <| .st (.ext 11 1) <|
    .st (.act none (.px (some 11) (.mv (.v 7)))) <|
    .st (.act none (.px (some 6) (.mv (.v 11)))) .done) (.ret)
@[simp] def W174_1 := @C.wpe _ _ K174_1.eq_1
def K174_2 : C := .pl <| .st (.ext 11 2) <|
    .st (.act none (.px (some 11) (.mv (.v 9)))) <|
    .st (.act none (.px (some 12) (.bin .add (.v 11) (.c (.int .i64 1))))) <|
    .st (.act none (.px (some 9) (.mv (.v 12)))) .done
@[simp] def W174_2 := @C.wpe _ _ K174_2.eq_1
def K174_3 : C := .pl <| .st (.ext 11 2) <|
    .st (.act none (.px (some 11) (.mv (.v 10)))) <|
    .st (.act none (.px (some 12) (.bin .add (.v 11) (.c (.int .i64 1))))) <|
    .st (.act none (.px (some 10) (.mv (.v 12)))) .done
@[simp] def W174_3 := @C.wpe _ _ K174_3.eq_1
def K174_4 : Pl := .st (.act none (.px (some 7) (.mv (.v 18)))) .done
@[simp] def W174_4 := @Pl.wpe _ _ K174_4.eq_1
def K174_5 : C := .pl <| .st (.ext 11 8) <|
    .st (.act none (.px (some 11) (.mv (.v 7)))) <|
    .st (.act none (.px (some 12) (.mv (.v 2)))) <|
    .st (.act none (.px (some 13) (.mv (.v 3)))) <|
    .st (.act none (.px (some 14) (.mv (.v 9)))) <|
    .st (.act none (.px (some 15) (.mv (.v 10)))) <|
    .st (.act none (.px (some 16) (.build [.int .i64 0, .int .i64 0, .int .i64 0, .int .i64 0] [(0, 1, .v 12), (1, 1, .v 13), (2, 1, .v 14), (3, 1, .v 15)]))) <|
    .st (.act none (.psl 17 [.int .i64 0, .int .i64 0, .int .i64 0, .int .i64 0] [(0, 4, .v 16)])) <|
    .st (.act none (.ex (some 18) (.app 32 4 [.int .i64 0, .int .i64 0, .int .i64 0, .int .i64 0] (.o (.v 11)) (.p 1 17)))) K174_4
@[simp] def W174_5 := @C.wpe _ _ K174_5.eq_1
def K174_6 : C := .cond 11 (.v 35) K174_5 (.skip)
@[simp] def W174_6 := @C.wpe _ _ K174_6.eq_1
def K174_7 : Pl := .st (.act none (.px (some 35) (.pick (.v 29) (.v 34) (.c (.bool false))))) .done
@[simp] def W174_7 := @Pl.wpe _ _ K174_7.eq_1
def K174_8 : C := .seq (.block 3 (.seq (.pl <| .st (.ext 11 25) <|
    .st (.act none (.px (some 11) (.mv (.v 9)))) <|
    .st (.act none (.px (some 12) (.mv (.v 2)))) <|
    .st (.act none (.px (some 13) (.bin .neq (.v 11) (.v 12)))) <|
    .st (.act none (.px (some 14) (.mv (.v 13)))) <|
    .st (.act (some (.v 14, true)) (.als 15 none 4)) <|
    .st (.act (some (.v 14, true)) (.pget (some 16) (some 15) 4 1 none)) <|
    .st (.act (some (.v 14, true)) (.px (some 17) (.mv (.v 9)))) <|
    .st (.act (some (.v 14, true)) (.px (some 18) (.ia 2 (.v 16) (.v 17)))) <|
    .st (.act (some (.v 14, true)) (.px (some 19) (.fa 1 (.v 18)))) <|
    .st (.act (some (.v 14, true)) (.ld (some 20) (.v 19) none)) <|
    .st (.act (some (.v 14, true)) (.px (some 21) (.mv (.v 10)))) <|
    .st (.act (some (.v 14, true)) (.px (some 22) (.ia 10 (.v 20) (.v 21)))) <|
    .st (.act (some (.v 14, true)) (.px (some 23) (.fa 9 (.v 22)))) <|
    .st (.act (some (.v 14, true)) (.ld (some 24) (.v 23) none)) <|
    .st (.act (some (.v 14, true)) (.px (some 25) (.mv (.v 8)))) <|
    .st (.act (some (.v 14, true)) (.px (some 26) (.un .neg (.v 25)))) <|
    .st (.act (some (.v 14, true)) (.px (some 27) (.bin .eql (.v 24) (.v 26)))) <|
    .st (.act none (.px (some 28) (.pick (.v 14) (.v 27) (.c (.bool false))))) <|
    .st (.act none (.px (some 29) (.mv (.v 28)))) <|
    .st (.act (some (.v 29, true)) (.pget (some 30) none 4 0 (some 2))) <|
    .st (.act (some (.v 29, true)) (.pget (some 31) none 5 0 (some 2))) <|
    .st (.act (some (.v 29, true)) (.px (some 32) (.mv (.v 9)))) <|
    .st (.act (some (.v 29, true)) (.px (some 33) (.mv (.v 10)))) <|
    .st (.act (some (.v 29, true)) (.ex (some 34) (.call fn_spec_l3Ready [.v 30, .v 31, .v 32, .v 33]))) K174_7) K174_6)) K174_3
@[simp] def W174_8 := @C.wpe _ _ K174_8.eq_1
def K174_9 : C := .cond 11 (.v 19) (.skip) (.exit 2)
@[simp] def W174_9 := @C.wpe _ _ K174_9.eq_1
def K174_10 : C := .seq (.seq (.pl <| .st (.ext 11 9) <|
    .st (.act none (.px (some 11) (.mv (.v 10)))) <|
    .st (.act none (.als 12 none 4)) <|
    .st (.act none (.pget (some 13) (some 12) 4 1 none)) <|
    .st (.act none (.px (some 14) (.mv (.v 9)))) <|
    .st (.act none (.px (some 15) (.ia 2 (.v 13) (.v 14)))) <|
    .st (.act none (.px (some 16) (.fa 1 (.v 15)))) <|
    .st (.act none (.ld (some 17) (.v 16) none)) <|
    .st (.act none (.px (some 18) (.lenV (.v 17)))) <|
    .st (.act none (.px (some 19) (.bin .lss (.v 11) (.v 18)))) .done) K174_9) K174_8
@[simp] def W174_10 := @C.wpe _ _ K174_10.eq_1
def K174_11 : C := .block 2 (.loop 11 [0, 1, 6] K174_10)
@[simp] def W174_11 := @C.wpe _ _ K174_11.eq_1
def K174_12 : C := .seq (.block 1 (.seq (.pl <| .st (.ext 11 0) <|
    .st (.act none (.px (some 10) (.mv (.c (.int .i64 0))))) .done) K174_11)) K174_2
@[simp] def W174_12 := @C.wpe _ _ K174_12.eq_1
def K174_13 : C := .cond 11 (.v 15) (.skip) (.exit 0)
@[simp] def W174_13 := @C.wpe _ _ K174_13.eq_1
def K174_14 : C := .seq (.seq (.pl <| .st (.ext 11 5) <|
    .st (.act none (.px (some 11) (.mv (.v 9)))) <|
    .st (.act none (.als 12 none 4)) <|
    .st (.act none (.pget (some 13) (some 12) 4 1 none)) <|
    .st (.act none (.px (some 14) (.lenV (.v 13)))) <|
    .st (.act none (.px (some 15) (.bin .lss (.v 11) (.v 14)))) .done) K174_13) K174_12
@[simp] def W174_14 := @C.wpe _ _ K174_14.eq_1
def K174_15 : C := .block 0 (.loop 11 [0, 1, 6, 10] K174_14)
@[simp] def W174_15 := @C.wpe _ _ K174_15.eq_1
def K174_16 : C := .seq (.seq (.pl <| .st (.ext 11 0) <|
    .st (.act none (.px (some 9) (.mv (.c (.int .i64 0))))) .done) K174_15) K174_1
@[simp] def W174_16 := @C.wpe _ _ K174_16.eq_1
def K174_17 : C := .seq (.pl <| .st (.ext 11 10) <|
    .st (.act none (.als 11 none 4)) <|
    .st (.act none (.pget (some 12) (some 11) 4 1 none)) <|
    .st (.act none (.px (some 13) (.mv (.v 2)))) <|
    .st (.act none (.px (some 14) (.ia 2 (.v 12) (.v 13)))) <|
    .st (.act none (.px (some 15) (.fa 1 (.v 14)))) <|
    .st (.act none (.ld (some 16) (.v 15) none)) <|
    .st (.act none (.px (some 17) (.mv (.v 3)))) <|
    .st (.act none (.px (some 18) (.ia 10 (.v 16) (.v 17)))) <|
    .st (.act none (.px (some 19) (.fa 9 (.v 18)))) <|
    .st (.act none (.ld (some 20) (.v 19) none)) <|
    .st (.act none (.px (some 8) (.mv (.v 20)))) .done) K174_16
@[simp] def W174_17 := @C.wpe _ _ K174_17.eq_1
def K174_18 : Pl := .st (.act none (.px (some 7) (.mv (.v 11)))) .done
@[simp] def W174_18 := @Pl.wpe _ _ K174_18.eq_1
def K174_19 : C := .seq (.pl <| .st (.ext 11 1) <|
    .st (.act none (.ex (some 11) (.bls 4 0 [.int .i64 0, .int .i64 0, .int .i64 0, .int .i64 0] []))) K174_18) K174_17
@[simp] def W174_19 := @C.wpe _ _ K174_19.eq_1
def B_spec_l3Partners : C := .seq (.pl <| .st (.ext 11 0) <|
    .st (.act none (.pnew 4 (.v 0) [])) <|
    .st (.act none (.pnew 5 (.v 1) [])) <|
    .st (.act none (.px (some 6) (.mv (.c (.slice none 0 0))))) .done) K174_19
@[simp] def WB_spec_l3Partners := @C.wpe _ _ B_spec_l3Partners.eq_1
def R_spec_l3Partners : FIR := ⟨B_spec_l3Partners, 11, [(6, none)]⟩
theorem IR_spec_l3Partners : cfun Try.prog H_spec_l3Partners Try.f174 = some R_spec_l3Partners := by kernel_rfl
theorem EN_spec_l3Partners {args : List Value} {h : Heap} {k : Value → Heap → Prop} (hargs : args.length = 4) (hw : B_spec_l3Partners.wp Try.prog (retQ [(6, none)] k) (env0 args 11) h) : CallE Try.prog fn_spec_l3Partners args h k := enter Try.func174 rfl IR_spec_l3Partners hargs hw

def H_spec_l3Ready : Hint := ⟨[(0, false), (1, false), (2, false), (3, false), (4, true), (5, true), (8, false), (9, true)], []⟩
def K173_1 : Pl := .st (.act (some (.v 16, true)) (.px (some 22) (.bin .neq (.v 21) (.c (.int .i64 0))))) <|
    .st (.act none (.px (some 23) (.pick (.v 16) (.v 22) (.c (.bool false))))) <|
    .st (.act none (.px (some 6) (.mv (.v 23)))) .done
@[simp] def W173_1 := @Pl.wpe _ _ K173_1.eq_1
def K173_2 : C := .seq (.pl <| .st (.ext 8 16) <|
    .st (.act none (.als 8 none 7)) <|
    .st (.act none (.pget (some 9) (some 8) 7 0 none)) <|
    .st (.act none (.als 10 none 5)) <|
    .st (.act none (.pget (some 11) (some 10) 5 0 none)) <|
    .st (.act none (.px (some 12) (.mv (.v 2)))) <|
    .st (.act none (.px (some 13) (.ia 1 (.v 11) (.v 12)))) <|
    .st (.act none (.ld (some 14) (.v 13) none)) <|
    .st (.act none (.px (some 15) (.bin .eql (.v 9) (.v 14)))) <|
    .st (.act none (.px (some 16) (.mv (.v 15)))) <|
    .st (.act (some (.v 16, true)) (.als 17 none 7)) <|
    .st (.act (some (.v 16, true)) (.pget (some 18) (some 17) 7 2 (some 3))) <|
    .st (.act (some (.v 16, true)) (.als 19 none 5)) <|
    .st (.act (some (.v 16, true)) (.pget (some 20) (some 19) 5 1 none)) <|
    .st (.act (some (.v 16, true)) (.ex (some 21) (.call fn_spec_l1Eval [.v 18, .v 20]))) K173_1) (.ret)
@[simp] def W173_2 := @C.wpe _ _ K173_2.eq_1
def K173_3 : C := .seq (.pl <| .st (.ext 8 9) <|
    .st (.act none (.als 8 none 4)) <|
    .st (.act none (.pget (some 9) (some 8) 4 1 none)) <|
    .st (.act none (.px (some 10) (.mv (.v 2)))) <|
    .st (.act none (.px (some 11) (.ia 2 (.v 9) (.v 10)))) <|
    .st (.act none (.px (some 12) (.fa 1 (.v 11)))) <|
    .st (.act none (.ld (some 13) (.v 12) none)) <|
    .st (.act none (.px (some 14) (.mv (.v 3)))) <|
    .st (.act none (.px (some 15) (.ia 10 (.v 13) (.v 14)))) <|
    .st (.act none (.ld (some 16) (.v 15) (some 10))) <|
    .st (.act none (.pnew 7 (.c (.agg #[.int .i64 0, .int .i64 0, .int .i64 0, .int .i64 0, .slice none 0 0, .int .i64 0, .int .i64 0, .int .i64 0, .slice none 0 0, .int .i64 0])) [])) <|
    .st (.act none (.pset none 7 0 10 (.v 16))) .done) K173_2
@[simp] def W173_3 := @C.wpe _ _ K173_3.eq_1
def B_spec_l3Ready : C := .seq (.pl <| .st (.ext 8 0) <|
    .st (.act none (.pnew 4 (.v 0) [])) <|
    .st (.act none (.pnew 5 (.v 1) [])) <|
    .st (.act none (.px (some 6) (.mv (.c (.bool false))))) .done) K173_3
@[simp] def WB_spec_l3Ready := @C.wpe _ _ B_spec_l3Ready.eq_1
def R_spec_l3Ready : FIR := ⟨B_spec_l3Ready, 8, [(6, none)]⟩
theorem IR_spec_l3Ready : cfun Try.prog H_spec_l3Ready Try.f173 = some R_spec_l3Ready := by kernel_rfl
theorem EN_spec_l3Ready {args : List Value} {h : Heap} {k : Value → Heap → Prop} (hargs : args.length = 4) (hw : B_spec_l3Ready.wp Try.prog (retQ [(6, none)] k) (env0 args 8) h) : CallE Try.prog fn_spec_l3Ready args h k := enter Try.func173 rfl IR_spec_l3Ready hargs hw

def H_spec_l3State : Hint := ⟨[(0, false), (1, false), (3, true), (4, true), (5, true), (6, false), (7, false), (8, false), (9, false)], [[1, 5, 7, 8], [1, 5, 6, 8]]⟩
def K151_1 : C := .seq (.pl <| .st (.ext 9 1) <|
    .st (.act none (.pget (some 9) none 4 0 (some 2))) <|
    .st (.act none (.pset none 3 0 2 (.v 9))) .done) (.ret)
@[simp] def W151_1 := @C.wpe _ _ K151_1.eq_1
def K151_2 : C := .pl <| .st (.ext 9 2) <|
    .st (.act none (.px (some 9) (.mv (.v 7)))) <|
    .st (.act none (.px (some 10) (.bin .sub (.v 9) (.c (.int .i64 1))))) <|
    .st (.act none (.px (some 7) (.mv (.v 10)))) .done
@[simp] def W151_2 := @C.wpe _ _ K151_2.eq_1
def K151_3 : Pl := .st (.act none (.pset none 4 0 2 (.v 18))) .done
@[simp] def W151_3 := @Pl.wpe _ _ K151_3.eq_1
def K151_4 : Pl := .st (.act none (.px (some 16) (.ia 4 (.v 11) (.v 15)))) <|
    .st (.act none (.ld (some 17) (.v 16) (some 4))) <|
    .st (.act none (.ex (some 18) (.call fn_spec_l3Apply [.v 9, .v 10, .v 17]))) K151_3
@[simp] def W151_4 := @Pl.wpe _ _ K151_4.eq_1
def K151_5 : C := .pl <| .st (.ext 9 10) <|
    .st (.act none (.pget (some 9) none 2 0 (some 2))) <|
    .st (.act none (.pget (some 10) none 4 0 (some 2))) <|
    .st (.act none (.px (some 11) (.mv (.v 8)))) <|
    .st (.act none (.px (some 12) (.mv (.v 0)))) <|
    .st (.act none (.px (some 13) (.mv (.v 8)))) <|
    .st (.act none (.px (some 14) (.lenV (.v 13)))) <|
    .st (.act none (.ex (some 15) (.call fn_spec_l16Rd_pick [.v 12, .v 14]))) K151_4
@[simp] def W151_5 := @C.wpe _ _ K151_5.eq_1
def K151_6 : C := .cond 9 (.v 11) (.exit 2) (.skip)
@[simp] def W151_6 := @C.wpe _ _ K151_6.eq_1
def K151_7 : C := .seq (.seq (.pl <| .st (.ext 9 3) <|
    .st (.act none (.px (some 9) (.mv (.v 8)))) <|
    .st (.act none (.px (some 10) (.lenV (.v 9)))) <|
    .st (.act none (.px (some 11) (.bin .eql (.v 10) (.c (.int .i64 0))))) .done) K151_6) K151_5
@[simp] def W151_7 := @C.wpe _ _ K151_7.eq_1
def K151_8 : Pl := .st (.act none (.px (some 8) (.mv (.v 11)))) .done
@[simp] def W151_8 := @Pl.wpe _ _ K151_8.eq_1
def K151_9 : C := .seq (.block 3 (.seq (.pl <| .st (.ext 9 3) <|
    .st (.act none (.pget (some 9) none 2 0 (some 2))) <|
    .st (.act none (.pget (some 10) none 4 0 (some 2))) <|
    .st (.act none (.ex (some 11) (.call fn_spec_l3Steps [.v 9, .v 10]))) K151_8) K151_7)) K151_2
@[simp] def W151_9 := @C.wpe _ _ K151_9.eq_1
def K151_10 : C := .cond 9 (.v 10) (.skip) (.exit 2)
@[simp] def W151_10 := @C.wpe _ _ K151_10.eq_1
def K151_11 : C := .seq (.seq (.pl <| .st (.ext 9 2) <|
    .st (.act none (.px (some 9) (.mv (.v 7)))) <|
    .st (.act none (.px (some 10) (.bin .gtr (.v 9) (.c (.int .i64 0))))) .done) K151_10) K151_9
@[simp] def W151_11 := @C.wpe _ _ K151_11.eq_1
def K151_12 : C := .block 2 (.loop 9 [1, 5, 6, 8] K151_11)
@[simp] def W151_12 := @C.wpe _ _ K151_12.eq_1
def K151_13 : Pl := .st (.act none (.px (some 7) (.mv (.v 11)))) .done
@[simp] def W151_13 := @Pl.wpe _ _ K151_13.eq_1
def K151_14 : Pl := .st (.act none (.ex (some 11) (.call fn_spec_l16Rd_num [.v 9, .v 10]))) K151_13
@[simp] def W151_14 := @Pl.wpe _ _ K151_14.eq_1
def K151_15 : C := .seq (.seq (.pl <| .st (.ext 9 3) <|
    .st (.act none (.px (some 9) (.mv (.v 0)))) <|
    .st (.act none (.ex (some 10) (.bls 1 5 [.int .i64 0] [(0, 1, .c (.int .i64 2)), (1, 1, .c (.int .i64 4)), (2, 1, .c (.int .i64 1)), (3, 1, .c (.int .i64 0)), (4, 1, .c (.int .i64 6))]))) K151_14) K151_12) K151_1
@[simp] def W151_15 := @C.wpe _ _ K151_15.eq_1
def K151_16 : C := .seq (.pl <| .st (.ext 9 1) <|
    .st (.act none (.pget (some 9) none 4 0 (some 2))) <|
    .st (.act none (.pset none 3 0 2 (.v 9))) .done) (.ret)
@[simp] def W151_16 := @C.wpe _ _ K151_16.eq_1
def K151_17 : Pl := .st (.act none (.als 16 none 4)) <|
    .st (.act none (.pset (some 16) 4 1 1 (.v 15))) .done
@[simp] def W151_17 := @Pl.wpe _ _ K151_17.eq_1
def K151_18 : Pl := .st (.act none (.ex (some 15) (.bls 1 3 [.int .i64 0] [(0, 1, .v 10), (1, 1, .v 12), (2, 1, .v 14)]))) K151_17
@[simp] def W151_18 := @Pl.wpe _ _ K151_18.eq_1
def K151_19 : Pl := .st (.act none (.px (some 13) (.mv (.v 0)))) <|
    .st (.act none (.ex (some 14) (.call fn_spec_l16Rd_pick [.v 13, .c (.int .i64 4)]))) K151_18
@[simp] def W151_19 := @Pl.wpe _ _ K151_19.eq_1
def K151_20 : Pl := .st (.act none (.px (some 11) (.mv (.v 0)))) <|
    .st (.act none (.ex (some 12) (.call fn_spec_l16Rd_pick [.v 11, .c (.int .i64 4)]))) K151_19
@[simp] def W151_20 := @Pl.wpe _ _ K151_20.eq_1
def K151_21 : C := .seq (.pl <| .st (.ext 9 8) <|
    .st (.act none (.px (some 9) (.mv (.v 0)))) <|
    .st (.act none (.ex (some 10) (.call fn_spec_l16Rd_pick [.v 9, .c (.int .i64 4)]))) K151_20) K151_16
@[simp] def W151_21 := @C.wpe _ _ K151_21.eq_1
def K151_22 : C := .pl <| .st (.ext 9 2) <|
    .st (.act none (.px (some 9) (.mv (.v 6)))) <|
    .st (.act none (.px (some 10) (.bin .add (.v 9) (.c (.int .i64 1))))) <|
    .st (.act none (.px (some 6) (.mv (.v 10)))) .done
@[simp] def W151_22 := @C.wpe _ _ K151_22.eq_1
def K151_23 : Pl := .st (.act none (.px (some 20) (.ia 1 (.v 10) (.v 11)))) <|
    .st (.act none (.ex none (.store 1 (.v 20) (.v 19)))) .done
@[simp] def W151_23 := @Pl.wpe _ _ K151_23.eq_1
def K151_24 : C := .seq (.block 1 (.pl <| .st (.ext 9 12) <|
    .st (.act none (.als 9 none 4)) <|
    .st (.act none (.pget (some 10) (some 9) 4 0 none)) <|
    .st (.act none (.px (some 11) (.mv (.v 6)))) <|
    .st (.act none (.px (some 12) (.mv (.v 0)))) <|
    .st (.act none (.als 13 none 2)) <|
    .st (.act none (.pget (some 14) (some 13) 2 1 none)) <|
    .st (.act none (.px (some 15) (.mv (.v 6)))) <|
    .st (.act none (.px (some 16) (.ia 2 (.v 14) (.v 15)))) <|
    .st (.act none (.px (some 17) (.fa 0 (.v 16)))) <|
    .st (.act none (.ld (some 18) (.v 17) none)) <|
    .st (.act none (.ex (some 19) (.call fn_spec_l16Rd_pick [.v 12, .v 18]))) K151_23)) K151_22
@[simp] def W151_24 := @C.wpe _ _ K151_24.eq_1
def K151_25 : C := .cond 9 (.v 13) (.skip) (.exit 0)
@[simp] def W151_25 := @C.wpe _ _ K151_25.eq_1
def K151_26 : C := .seq (.seq (.pl <| .st (.ext 9 5) <|
    .st (.act none (.px (some 9) (.mv (.v 6)))) <|
    .st (.act none (.als 10 none 4)) <|
    .st (.act none (.pget (some 11) (some 10) 4 0 none)) <|
    .st (.act none (.px (some 12) (.lenV (.v 11)))) <|
    .st (.act none (.px (some 13) (.bin .lss (.v 9) (.v 12)))) .done) K151_25) K151_24
@[simp] def W151_26 := @C.wpe _ _ K151_26.eq_1
def K151_27 : C := .block 0 (.loop 9 [1, 5, 7, 8] K151_26)
@[simp] def W151_27 := @C.wpe _ _ K151_27.eq_1
def K151_28 : C := .seq (.seq (.pl <| .st (.ext 9 0) <|
    .st (.act none (.px (some 6) (.mv (.c (.int .i64 0))))) .done) K151_27) K151_21
@[simp] def W151_28 := @C.wpe _ _ K151_28.eq_1
def K151_29 : C := .cond 9 (.v 11) K151_28 (.skip)
@[simp] def W151_29 := @C.wpe _ _ K151_29.eq_1
def K151_30 : Pl := .st (.act none (.px (some 11) (.bin .eql (.v 10) (.c (.int .i64 0))))) .done
@[simp] def W151_30 := @Pl.wpe _ _ K151_30.eq_1
def K151_31 : C := .seq (.seq (.pl <| .st (.ext 9 3) <|
    .st (.act none (.px (some 9) (.mv (.v 0)))) <|
    .st (.act none (.ex (some 10) (.call fn_spec_l16Rd_pick [.v 9, .c (.int .i64 4)]))) K151_30) K151_29) K151_15
@[simp] def W151_31 := @C.wpe _ _ K151_31.eq_1
def K151_32 : Pl := .st (.act none (.px (some 11) (.build [.slice none 0 0, .slice none 0 0] [(0, 1, .v 9), (1, 1, .v 10)]))) <|
    .st (.act none (.pset none 3 0 2 (.v 11))) .done
@[simp] def W151_32 := @Pl.wpe _ _ K151_32.eq_1
def K151_33 : Pl := .st (.act none (.ex (some 10) (.bls 1 3 [.int .i64 0] [(0, 1, .c (.int .i64 0)), (1, 1, .c (.int .i64 0)), (2, 1, .c (.int .i64 0))]))) K151_32
@[simp] def W151_33 := @Pl.wpe _ _ K151_33.eq_1
def K151_34 : C := .seq (.pl <| .st (.ext 9 3) <|
    .st (.act none (.ex (some 9) (.bls 1 1 [.int .i64 0] [(0, 1, .c (.int .i64 0))]))) K151_33) (.ret)
@[simp] def W151_34 := @C.wpe _ _ K151_34.eq_1
def K151_35 : C := .cond 9 (.v 10) K151_34 (.skip)
@[simp] def W151_35 := @C.wpe _ _ K151_35.eq_1
def K151_36 : C := .seq (.seq (.pl <| .st (.ext 9 2) <|
    .st (.act none (.px (some 9) (.mv (.v 5)))) <|
    .st (.act none (.px (some 10) (.un .not (.v 9)))) .done) K151_35) K151_31
@[simp] def W151_36 := @C.wpe _ _ K151_36.eq_1
def K151_37 : Pl := .st (.act none (.px (some 11) (.mv (.v 10)))) <|
    .st (.act none (.px (some 12) (.extract 0 (.v 11)))) <|
    .st (.act none (.px (some 13) (.extract 1 (.v 11)))) <|
    .st (.act none (.pnew 4 (.c (.agg #[.slice none 0 0, .slice none 0 0])) [])) <|
    .st (.act none (.pset none 4 0 2 (.v 12))) <|
    .st (.act none (.px (some 5) (.mv (.v 13)))) .done
@[simp] def W151_37 := @Pl.wpe _ _ K151_37.eq_1
def K151_38 : C := .seq (.pl <| .st (.ext 9 5) <|
    .st (.act none (.pget (some 9) none 2 0 (some 2))) <|
    .st (.act none (.ex (some 10) (.call fn_spec_InitialState [.v 9]))) K151_37) K151_36
@[simp] def W151_38 := @C.wpe _ _ K151_38.eq_1
def B_spec_l3State : C := .seq (.pl <| .st (.ext 9 0) <|
    .st (.act none (.pnew 2 (.v 1) [])) <|
    .st (.act none (.pnew 3 (.c (.agg #[.slice none 0 0, .slice none 0 0])) [])) .done) K151_38
@[simp] def WB_spec_l3State := @C.wpe _ _ B_spec_l3State.eq_1
def R_spec_l3State : FIR := ⟨B_spec_l3State, 9, [(3, some (some 2))]⟩
theorem IR_spec_l3State : cfun Try.prog H_spec_l3State Try.f151 = some R_spec_l3State := by kernel_rfl
theorem EN_spec_l3State {args : List Value} {h : Heap} {k : Value → Heap → Prop} (hargs : args.length = 2) (hw : B_spec_l3State.wp Try.prog (retQ [(3, some (some 2))] k) (env0 args 9) h) : CallE Try.prog fn_spec_l3State args h k := enter Try.func151 rfl IR_spec_l3State hargs hw


end Go.Proofs.Ythgimpheeemooaa

/-
  Bodies of functions in the small language, as a program printed them, and that each is what the translation gives.
-/
namespace Go.Proofs.Ythgimpheeemooaa
open Go
set_option linter.all false
set_option linter.defProp false
set_option maxRecDepth 1000000

def H_spec_l1Subst : Hint := ⟨[(0, false), (1, false), (2, false), (3, true), (5, true), (6, true), (7, true), (8, false)], [[0, 2]]⟩
def K132_1 : C := .seq (.pl <| .st (.ext 8 1) <|
    .st (.act none (.pget (some 8) none 6 0 (some 3))) <|
    .st (.act none (.pset none 5 0 3 (.v 8))) .done) (.ret)
@[simp] def W132_1 := @C.wpe _ _ K132_1.eq_1
def K132_2 : C := .pl <| .st (.ext 8 2) <|
    .st (.act none (.px (some 8) (.mv (.v 7)))) <|
    .st (.act none (.px (some 9) (.bin .add (.v 8) (.c (.int .i64 1))))) <|
    .st (.act none (.px (some 7) (.mv (.v 9)))) .done
@[simp] def W132_2 := @C.wpe _ _ K132_2.eq_1
def K132_3 : Pl := .st (.act none (.als 20 none 6)) <|
    .st (.act none (.pset (some 20) 6 2 1 (.v 19))) .done
@[simp] def W132_3 := @Pl.wpe _ _ K132_3.eq_1
def K132_4 : Pl := .st (.act none (.psl 18 [.int .i64 0, .int .i64 0, .slice none 0 0] [(0, 3, .v 17)])) <|
    .st (.act none (.ex (some 19) (.app 40 3 [.int .i64 0, .int .i64 0, .slice none 0 0] (.o (.v 9)) (.p 1 18)))) K132_3
@[simp] def W132_4 := @Pl.wpe _ _ K132_4.eq_1
def K132_5 : C := .seq (.block 1 (.pl <| .st (.ext 8 13) <|
    .st (.act none (.als 8 none 6)) <|
    .st (.act none (.pget (some 9) (some 8) 6 2 none)) <|
    .st (.act none (.als 10 none 3)) <|
    .st (.act none (.pget (some 11) (some 10) 3 2 none)) <|
    .st (.act none (.px (some 12) (.mv (.v 7)))) <|
    .st (.act none (.px (some 13) (.ia 3 (.v 11) (.v 12)))) <|
    .st (.act none (.ld (some 14) (.v 13) (some 3))) <|
    .st (.act none (.px (some 15) (.mv (.v 1)))) <|
    .st (.act none (.pget (some 16) none 4 0 (some 3))) <|
    .st (.act none (.ex (some 17) (.call fn_spec_l1Subst [.v 14, .v 15, .v 16]))) K132_4)) K132_2
@[simp] def W132_5 := @C.wpe _ _ K132_5.eq_1
def K132_6 : C := .cond 8 (.v 12) (.skip) (.exit 0)
@[simp] def W132_6 := @C.wpe _ _ K132_6.eq_1
def K132_7 : C := .seq (.seq (.pl <| .st (.ext 8 5) <|
    .st (.act none (.px (some 8) (.mv (.v 7)))) <|
    .st (.act none (.als 9 none 3)) <|
    .st (.act none (.pget (some 10) (some 9) 3 2 none)) <|
    .st (.act none (.px (some 11) (.lenV (.v 10)))) <|
    .st (.act none (.px (some 12) (.bin .lss (.v 8) (.v 11)))) .done) K132_6) K132_5
@[simp] def W132_7 := @C.wpe _ _ K132_7.eq_1
def K132_8 : C := .block 0 (.loop 8 [0, 2] K132_7)
@[simp] def W132_8 := @C.wpe _ _ K132_8.eq_1
def K132_9 : C := .seq (.seq (.pl <| .st (.ext 8 0) <|
    .st (.act none (.px (some 7) (.mv (.c (.int .i64 0))))) .done) K132_8) K132_1
@[simp] def W132_9 := @C.wpe _ _ K132_9.eq_1
def K132_10 : C := .seq (.pl <| .st (.ext 8 5) <|
    .st (.act none (.als 8 none 3)) <|
    .st (.act none (.pget (some 9) (some 8) 3 0 none)) <|
    .st (.act none (.als 10 none 3)) <|
    .st (.act none (.pget (some 11) (some 10) 3 1 none)) <|
    .st (.act none (.px (some 12) (.build [.int .i64 0, .int .i64 0, .slice none 0 0] [(0, 1, .v 9), (1, 1, .v 11)]))) <|
    .st (.act none (.pnew 6 (.c (.agg #[.int .i64 0, .int .i64 0, .slice none 0 0])) [])) <|
    .st (.act none (.pset none 6 0 3 (.v 12))) .done) K132_9
@[simp] def W132_10 := @C.wpe _ _ K132_10.eq_1
def K132_11 : Pl := .st (.act none (.pset none 5 0 3 (.v 10))) .done
@[simp] def W132_11 := @Pl.wpe _ _ K132_11.eq_1
def K132_12 : C := .seq (.pl <| .st (.ext 8 3) <|
    .st (.act none (.pget (some 8) none 4 0 (some 3))) <|
    .st (.act none (.px (some 9) (.build [.int .i64 0, .int .i64 0, .slice none 0 0] []))) <|
    .st (.act none (.ex (some 10) (.call fn_spec_l1Subst [.v 8, .c (.int .i64 (-1)), .v 9]))) K132_11) (.ret)
@[simp] def W132_12 := @C.wpe _ _ K132_12.eq_1
def K132_13 : C := .cond 8 (.v 16) K132_12 (.skip)
@[simp] def W132_13 := @C.wpe _ _ K132_13.eq_1
def K132_14 : C := .seq (.seq (.pl <| .st (.ext 8 9) <|
    .st (.act none (.als 8 none 3)) <|
    .st (.act none (.pget (some 9) (some 8) 3 0 none)) <|
    .st (.act none (.px (some 10) (.bin .eql (.v 9) (.c (.int .i64 2))))) <|
    .st (.act none (.px (some 11) (.mv (.v 10)))) <|
    .st (.act (some (.v 11, true)) (.als 12 none 3)) <|
    .st (.act (some (.v 11, true)) (.pget (some 13) (some 12) 3 1 none)) <|
    .st (.act (some (.v 11, true)) (.px (some 14) (.mv (.v 1)))) <|
    .st (.act (some (.v 11, true)) (.px (some 15) (.bin .eql (.v 13) (.v 14)))) <|
    .st (.act none (.px (some 16) (.pick (.v 11) (.v 15) (.c (.bool false))))) .done) K132_13) K132_10
@[simp] def W132_14 := @C.wpe _ _ K132_14.eq_1
def B_spec_l1Subst : C := .seq (.pl <| .st (.ext 8 0) <|
    .st (.act none (.pnew 3 (.v 0) [])) <|
    .st (.act none (.pnew 4 (.v 2) [])) <|
    .st (.act none (.pnew 5 (.c (.agg #[.int .i64 0, .int .i64 0, .slice none 0 0])) [])) .done) K132_14
@[simp] def WB_spec_l1Subst := @C.wpe _ _ B_spec_l1Subst.eq_1
def R_spec_l1Subst : FIR := ⟨B_spec_l1Subst, 8, [(5, some (some 3))]⟩
theorem IR_spec_l1Subst : cfun Try.prog H_spec_l1Subst Try.f132 = some R_spec_l1Subst := by kernel_rfl
theorem EN_spec_l1Subst {args : List Value} {h : Heap} {k : Value → Heap → Prop} (hargs : args.length = 3) (hw : B_spec_l1Subst.wp Try.prog (retQ [(5, some (some 3))] k) (env0 args 8) h) : CallE Try.prog fn_spec_l1Subst args h k := enter Try.func132 rfl IR_spec_l1Subst hargs hw

def H_spec_l1Vals : Hint := ⟨[(0, false), (2, false), (3, false)], [[1]]⟩
def K115_1 : C := .seq (.pl <| .st (.ext 3 3) <|
    .st (.act none (.px (some 3) (.mv (.v 0)))) <|
    .st (.act none (.px (some 4) (.lenV (.v 3)))) <|
    .st (.act none (.px (some 5) (.bin .eql (.v 4) (.c (.int .i64 3))))) <|
    .st (.act none (.px (some 1) (.mv (.v 5)))) .done) (.ret)
@[simp] def W115_1 := @C.wpe _ _ K115_1.eq_1
def K115_2 : C := .pl <| .st (.ext 3 2) <|
    .st (.act none (.px (some 3) (.mv (.v 2)))) <|
    .st (.act none (.px (some 4) (.bin .add (.v 3) (.c (.int .i64 1))))) <|
    .st (.act none (.px (some 2) (.mv (.v 4)))) .done
@[simp] def W115_2 := @C.wpe _ _ K115_2.eq_1
def K115_3 : C := .seq (.pl <| .st (.ext 3 0) <|
    .st (.act none (.px (some 1) (.mv (.c (.bool false))))) .done) (.ret)
@[simp] def W115_3 := @C.wpe _ _ K115_3.eq_1
def K115_4 : C := .cond 3 (.v 14) K115_3 (.skip)
@[simp] def W115_4 := @C.wpe _ _ K115_4.eq_1
def K115_5 : C := .seq (.block 1 (.seq (.pl <| .st (.ext 3 12) <|
    .st (.act none (.px (some 3) (.mv (.v 0)))) <|
    .st (.act none (.px (some 4) (.mv (.v 2)))) <|
    .st (.act none (.px (some 5) (.ia 1 (.v 3) (.v 4)))) <|
    .st (.act none (.ld (some 6) (.v 5) none)) <|
    .st (.act none (.px (some 7) (.bin .lss (.v 6) (.c (.int .i64 0))))) <|
    .st (.act none (.px (some 8) (.mv (.v 7)))) <|
    .st (.act (some (.v 8, false)) (.px (some 9) (.mv (.v 0)))) <|
    .st (.act (some (.v 8, false)) (.px (some 10) (.mv (.v 2)))) <|
    .st (.act (some (.v 8, false)) (.px (some 11) (.ia 1 (.v 9) (.v 10)))) <|
    .st (.act (some (.v 8, false)) (.ld (some 12) (.v 11) none)) <|
    .st (.act (some (.v 8, false)) (.px (some 13) (.bin .gtr (.v 12) (.c (.int .i64 3))))) <|
    .st (.act none (.px (some 14) (.pick (.v 8) (.c (.bool true)) (.v 13)))) .done) K115_4)) K115_2
@[simp] def W115_5 := @C.wpe _ _ K115_5.eq_1
def K115_6 : C := .cond 3 (.v 6) (.skip) (.exit 0)
@[simp] def W115_6 := @C.wpe _ _ K115_6.eq_1
def K115_7 : C := .seq (.seq (.pl <| .st (.ext 3 4) <|
    .st (.act none (.px (some 3) (.mv (.v 2)))) <|
    .st (.act none (.px (some 4) (.mv (.v 0)))) <|
    .st (.act none (.px (some 5) (.lenV (.v 4)))) <|
    .st (.act none (.px (some 6) (.bin .lss (.v 3) (.v 5)))) .done) K115_6) K115_5
@[simp] def W115_7 := @C.wpe _ _ K115_7.eq_1
def K115_8 : C := .block 0 (.loop 3 [1] K115_7)
@[simp] def W115_8 := @C.wpe _ _ K115_8.eq_1
def K115_9 : C := .seq (.seq (.pl <| .st (.ext 3 0) <|
    .st (.act none (.px (some 2) (.mv (.c (.int .i64 0))))) .done) K115_8) K115_1
@[simp] def W115_9 := @C.wpe _ _ K115_9.eq_1
def B_spec_l1Vals : C := .seq (.pl <| .st (.ext 3 0) <|
    .st (.act none (.px (some 1) (.mv (.c (.bool false))))) .done) K115_9
@[simp] def WB_spec_l1Vals := @C.wpe _ _ B_spec_l1Vals.eq_1
def R_spec_l1Vals : FIR := ⟨B_spec_l1Vals, 3, [(1, none)]⟩
theorem IR_spec_l1Vals : cfun Try.prog H_spec_l1Vals Try.f115 = some R_spec_l1Vals := by kernel_rfl
theorem EN_spec_l1Vals {args : List Value} {h : Heap} {k : Value → Heap → Prop} (hargs : args.length = 1) (hw : B_spec_l1Vals.wp Try.prog (retQ [(1, none)] k) (env0 args 3) h) : CallE Try.prog fn_spec_l1Vals args h k := enter Try.func115 rfl IR_spec_l1Vals hargs hw

def H_spec_l2Copy : Hint := ⟨[(0, false), (1, true), (2, true), (3, true), (4, false), (5, true), (6, false), (7, true)], [[0, 5, 6, 7], [0, 7]]⟩
def K86_1 : C := .seq (.pl <| .st (.ext 8 1) <|
    .st (.act none (.pget (some 8) none 3 0 (some 2))) <|
    .st (.act none (.pset none 2 0 2 (.v 8))) .done) (.ret)
@[simp] def W86_1 := @C.wpe _ _ K86_1.eq_1
def K86_2 : C := .pl <| .st (.ext 8 2) <|
    .st (.act none (.px (some 8) (.mv (.v 4)))) <|
    .st (.act none (.px (some 9) (.bin .add (.v 8) (.c (.int .i64 1))))) <|
    .st (.act none (.px (some 4) (.mv (.v 9)))) .done
@[simp] def W86_2 := @C.wpe _ _ K86_2.eq_1
def K86_3 : Pl := .st (.act none (.als 13 none 3)) <|
    .st (.act none (.pset (some 13) 3 1 1 (.v 12))) .done
@[simp] def W86_3 := @Pl.wpe _ _ K86_3.eq_1
def K86_4 : C := .pl <| .st (.ext 8 6) <|
    .st (.act none (.als 8 none 3)) <|
    .st (.act none (.pget (some 9) (some 8) 3 1 none)) <|
    .st (.act none (.pget (some 10) none 5 0 (some 2))) <|
    .st (.act none (.psl 11 [.int .i64 0, .slice none 0 0] [(0, 2, .v 10)])) <|
    .st (.act none (.ex (some 12) (.app 32 2 [.int .i64 0, .slice none 0 0] (.o (.v 9)) (.p 1 11)))) K86_3
@[simp] def W86_4 := @C.wpe _ _ K86_4.eq_1
def K86_5 : C := .pl <| .st (.ext 8 2) <|
    .st (.act none (.px (some 8) (.mv (.v 6)))) <|
    .st (.act none (.px (some 9) (.bin .add (.v 8) (.c (.int .i64 1))))) <|
    .st (.act none (.px (some 6) (.mv (.v 9)))) .done
@[simp] def W86_5 := @C.wpe _ _ K86_5.eq_1
def K86_6 : Pl := .st (.act none (.als 13 none 5)) <|
    .st (.act none (.pset (some 13) 5 1 1 (.v 12))) .done
@[simp] def W86_6 := @Pl.wpe _ _ K86_6.eq_1
def K86_7 : C := .pl <| .st (.ext 8 6) <|
    .st (.act none (.als 8 none 5)) <|
    .st (.act none (.pget (some 9) (some 8) 5 1 none)) <|
    .st (.act none (.pget (some 10) none 7 0 (some 10))) <|
    .st (.act none (.psl 11 [.int .i64 0, .int .i64 0, .int .i64 0, .int .i64 0, .slice none 0 0, .int .i64 0, .int .i64 0, .int .i64 0, .slice none 0 0, .int .i64 0] [(0, 10, .v 10)])) <|
    .st (.act none (.ex (some 12) (.app 112 10 [.int .i64 0, .int .i64 0, .int .i64 0, .int .i64 0, .slice none 0 0, .int .i64 0, .int .i64 0, .int .i64 0, .slice none 0 0, .int .i64 0] (.o (.v 9)) (.p 1 11)))) K86_6
@[simp] def W86_7 := @C.wpe _ _ K86_7.eq_1
def K86_8 : Pl := .st (.act none (.als 12 none 7)) <|
    .st (.act none (.pset (some 12) 7 6 3 (.v 11))) .done
@[simp] def W86_8 := @Pl.wpe _ _ K86_8.eq_1
def K86_9 : C := .seq (.pl <| .st (.ext 8 5) <|
    .st (.act none (.als 8 none 7)) <|
    .st (.act none (.pget (some 9) (some 8) 7 6 (some 3))) <|
    .st (.act none (.px (some 10) (.build [.int .i64 0, .int .i64 0, .slice none 0 0] []))) <|
    .st (.act none (.ex (some 11) (.call fn_spec_l1Subst [.v 9, .c (.int .i64 (-1)), .v 10]))) K86_8) K86_7
@[simp] def W86_9 := @C.wpe _ _ K86_9.eq_1
def K86_10 : Pl := .st (.act none (.als 12 none 7)) <|
    .st (.act none (.pset (some 12) 7 2 3 (.v 11))) .done
@[simp] def W86_10 := @Pl.wpe _ _ K86_10.eq_1
def K86_11 : C := .seq (.pl <| .st (.ext 8 5) <|
    .st (.act none (.als 8 none 7)) <|
    .st (.act none (.pget (some 9) (some 8) 7 2 (some 3))) <|
    .st (.act none (.px (some 10) (.build [.int .i64 0, .int .i64 0, .slice none 0 0] []))) <|
    .st (.act none (.ex (some 11) (.call fn_spec_l1Subst [.v 9, .c (.int .i64 (-1)), .v 10]))) K86_10) K86_9
@[simp] def W86_11 := @C.wpe _ _ K86_11.eq_1
def K86_12 : C := .seq (.block 3 (.seq (.pl <| .st (.ext 8 9) <|
    .st (.act none (.als 8 none 1)) <|
    .st (.act none (.pget (some 9) (some 8) 1 1 none)) <|
    .st (.act none (.px (some 10) (.mv (.v 4)))) <|
    .st (.act none (.px (some 11) (.ia 2 (.v 9) (.v 10)))) <|
    .st (.act none (.px (some 12) (.fa 1 (.v 11)))) <|
    .st (.act none (.ld (some 13) (.v 12) none)) <|
    .st (.act none (.px (some 14) (.mv (.v 6)))) <|
    .st (.act none (.px (some 15) (.ia 10 (.v 13) (.v 14)))) <|
    .st (.act none (.ld (some 16) (.v 15) (some 10))) <|
    .st (.act none (.pnew 7 (.c (.agg #[.int .i64 0, .int .i64 0, .int .i64 0, .int .i64 0, .slice none 0 0, .int .i64 0, .int .i64 0, .int .i64 0, .slice none 0 0, .int .i64 0])) [])) <|
    .st (.act none (.pset none 7 0 10 (.v 16))) .done) K86_11)) K86_5
@[simp] def W86_12 := @C.wpe _ _ K86_12.eq_1
def K86_13 : C := .cond 8 (.v 16) (.skip) (.exit 2)
@[simp] def W86_13 := @C.wpe _ _ K86_13.eq_1
def K86_14 : C := .seq (.seq (.pl <| .st (.ext 8 9) <|
    .st (.act none (.px (some 8) (.mv (.v 6)))) <|
    .st (.act none (.als 9 none 1)) <|
    .st (.act none (.pget (some 10) (some 9) 1 1 none)) <|
    .st (.act none (.px (some 11) (.mv (.v 4)))) <|
    .st (.act none (.px (some 12) (.ia 2 (.v 10) (.v 11)))) <|
    .st (.act none (.px (some 13) (.fa 1 (.v 12)))) <|
    .st (.act none (.ld (some 14) (.v 13) none)) <|
    .st (.act none (.px (some 15) (.lenV (.v 14)))) <|
    .st (.act none (.px (some 16) (.bin .lss (.v 8) (.v 15)))) .done) K86_13) K86_12
@[simp] def W86_14 := @C.wpe _ _ K86_14.eq_1
def K86_15 : C := .block 2 (.loop 8 [0, 7] K86_14)
@[simp] def W86_15 := @C.wpe _ _ K86_15.eq_1
def K86_16 : C := .seq (.seq (.pl <| .st (.ext 8 0) <|
    .st (.act none (.px (some 6) (.mv (.c (.int .i64 0))))) .done) K86_15) K86_4
@[simp] def W86_16 := @C.wpe _ _ K86_16.eq_1
def K86_17 : C := .seq (.block 1 (.seq (.pl <| .st (.ext 8 7) <|
    .st (.act none (.als 8 none 1)) <|
    .st (.act none (.pget (some 9) (some 8) 1 1 none)) <|
    .st (.act none (.px (some 10) (.mv (.v 4)))) <|
    .st (.act none (.px (some 11) (.ia 2 (.v 9) (.v 10)))) <|
    .st (.act none (.px (some 12) (.fa 0 (.v 11)))) <|
    .st (.act none (.ld (some 13) (.v 12) none)) <|
    .st (.act none (.px (some 14) (.build [.int .i64 0, .slice none 0 0] [(0, 1, .v 13)]))) <|
    .st (.act none (.pnew 5 (.c (.agg #[.int .i64 0, .slice none 0 0])) [])) <|
    .st (.act none (.pset none 5 0 2 (.v 14))) .done) K86_16)) K86_2
@[simp] def W86_17 := @C.wpe _ _ K86_17.eq_1
def K86_18 : C := .cond 8 (.v 12) (.skip) (.exit 0)
@[simp] def W86_18 := @C.wpe _ _ K86_18.eq_1
def K86_19 : C := .seq (.seq (.pl <| .st (.ext 8 5) <|
    .st (.act none (.px (some 8) (.mv (.v 4)))) <|
    .st (.act none (.als 9 none 1)) <|
    .st (.act none (.pget (some 10) (some 9) 1 1 none)) <|
    .st (.act none (.px (some 11) (.lenV (.v 10)))) <|
    .st (.act none (.px (some 12) (.bin .lss (.v 8) (.v 11)))) .done) K86_18) K86_17
@[simp] def W86_19 := @C.wpe _ _ K86_19.eq_1
def K86_20 : C := .block 0 (.loop 8 [0, 5, 6, 7] K86_19)
@[simp] def W86_20 := @C.wpe _ _ K86_20.eq_1
def K86_21 : C := .seq (.seq (.pl <| .st (.ext 8 0) <|
    .st (.act none (.px (some 4) (.mv (.c (.int .i64 0))))) .done) K86_20) K86_1
@[simp] def W86_21 := @C.wpe _ _ K86_21.eq_1
def K86_22 : Pl := .st (.act none (.px (some 12) (.build [.slice none 0 0, .slice none 0 0] [(0, 1, .v 11)]))) <|
    .st (.act none (.pnew 3 (.c (.agg #[.slice none 0 0, .slice none 0 0])) [])) <|
    .st (.act none (.pset none 3 0 2 (.v 12))) .done
@[simp] def W86_22 := @Pl.wpe _ _ K86_22.eq_1
def K86_23 : C := .seq (.pl <| .st (.ext 8 5) <|
    .st (.act none (.psl 8 [] [])) <|
    .st (.act none (.als 9 none 1)) <|
    .st (.act none (.pget (some 10) (some 9) 1 0 none)) <|
    .st (.act none (.ex (some 11) (.app 8 1 [.int .i64 0] (.p 0 8) (.o (.v 10))))) K86_22) K86_21
@[simp] def W86_23 := @C.wpe _ _ K86_23.eq_1
def B_spec_l2Copy : C := .seq (.pl <| .st (.ext 8 0) <|
    .st (.act none (.pnew 1 (.v 0) [])) <|
    .st (.act none (.pnew 2 (.c (.agg #[.slice none 0 0, .slice none 0 0])) [])) .done) K86_23
@[simp] def WB_spec_l2Copy := @C.wpe _ _ B_spec_l2Copy.eq_1
def R_spec_l2Copy : FIR := ⟨B_spec_l2Copy, 8, [(2, some (some 2))]⟩
theorem IR_spec_l2Copy : cfun Try.prog H_spec_l2Copy Try.f86 = some R_spec_l2Copy := by kernel_rfl
theorem EN_spec_l2Copy {args : List Value} {h : Heap} {k : Value → Heap → Prop} (hargs : args.length = 1) (hw : B_spec_l2Copy.wp Try.prog (retQ [(2, some (some 2))] k) (env0 args 8) h) : CallE Try.prog fn_spec_l2Copy args h k := enter Try.func86 rfl IR_spec_l2Copy hargs hw

def H_spec_l2DrawEdge : Hint := ⟨[(0, false), (1, false), (4, true), (5, true), (6, true), (7, true), (29, false)], []⟩
def K179_1 : C := .seq (.pl <| .st (.ext 7 1) <|
    .st (.act none (.pget (some 7) none 3 0 (some 10))) <|
    .st (.act none (.pset none 2 0 10 (.v 7))) .done) (.ret)
@[simp] def W179_1 := @C.wpe _ _ K179_1.eq_1
def K179_2 : Pl := .st (.act none (.als 10 none 3)) <|
    .st (.act none (.pset (some 10) 3 9 1 (.v 9))) .done
@[simp] def W179_2 := @Pl.wpe _ _ K179_2.eq_1
def K179_3 : Pl := .st (.act none (.ex (some 9) (.call fn_spec_l16Rd_num [.v 7, .v 8]))) K179_2
@[simp] def W179_3 := @Pl.wpe _ _ K179_3.eq_1
def K179_4 : C := .pl <| .st (.ext 7 4) <|
    .st (.act none (.px (some 7) (.mv (.v 0)))) <|
    .st (.act none (.ex (some 8) (.bls 1 6 [.int .i64 0] [(0, 1, .c (.int .i64 1)), (1, 1, .c (.int .i64 (-1))), (2, 1, .c (.int .i64 1)), (3, 1, .c (.int .i64 (-1))), (4, 1, .c (.int .i64 2)), (5, 1, .c (.int .i64 (-2)))]))) K179_3
@[simp] def W179_4 := @C.wpe _ _ K179_4.eq_1
def K179_5 : C := .cond 7 (.v 9) K179_4 (.skip)
@[simp] def W179_5 := @C.wpe _ _ K179_5.eq_1
def K179_6 : Pl := .st (.act none (.px (some 9) (.bin .eql (.v 8) (.c (.int .i64 0))))) .done
@[simp] def W179_6 := @Pl.wpe _ _ K179_6.eq_1
def K179_7 : C := .seq (.seq (.pl <| .st (.ext 7 3) <|
    .st (.act none (.px (some 7) (.mv (.v 0)))) <|
    .st (.act none (.ex (some 8) (.call fn_spec_l16Rd_pick [.v 7, .c (.int .i64 4)]))) K179_6) K179_5) K179_1
@[simp] def W179_7 := @C.wpe _ _ K179_7.eq_1
def K179_8 : Pl := .st (.act none (.px (some 9) (.build [.int .i64 0, .int .i64 0, .slice none 0 0] [(0, 1, .c (.int .i64 1)), (1, 1, .v 8)]))) <|
    .st (.act none (.als 10 none 3)) <|
    .st (.act none (.pset (some 10) 3 6 3 (.v 9))) .done
@[simp] def W179_8 := @Pl.wpe _ _ K179_8.eq_1
def K179_9 : C := .pl <| .st (.ext 7 4) <|
    .st (.act none (.px (some 7) (.mv (.v 0)))) <|
    .st (.act none (.ex (some 8) (.call fn_spec_l16Rd_pick [.v 7, .c (.int .i64 3)]))) K179_8
@[simp] def W179_9 := @C.wpe _ _ K179_9.eq_1
def K179_10 : Pl := .st (.act none (.px (some 10) (.build [.int .i64 0, .int .i64 0, .slice none 0 0] [(0, 1, .c (.int .i64 8)), (2, 1, .v 9)]))) <|
    .st (.act none (.als 11 none 3)) <|
    .st (.act none (.pset (some 11) 3 6 3 (.v 10))) .done
@[simp] def W179_10 := @Pl.wpe _ _ K179_10.eq_1
def K179_11 : C := .pl <| .st (.ext 7 5) <|
    .st (.act none (.pget (some 7) none 4 0 (some 3))) <|
    .st (.act none (.pget (some 8) none 5 0 (some 3))) <|
    .st (.act none (.ex (some 9) (.bls 3 2 [.int .i64 0, .int .i64 0, .slice none 0 0] [(0, 3, .v 7), (3, 3, .v 8)]))) K179_10
@[simp] def W179_11 := @C.wpe _ _ K179_11.eq_1
def K179_12 : Pl := .st (.act none (.px (some 10) (.build [.int .i64 0, .int .i64 0, .slice none 0 0] [(0, 1, .c (.int .i64 9)), (2, 1, .v 9)]))) <|
    .st (.act none (.als 11 none 3)) <|
    .st (.act none (.pset (some 11) 3 6 3 (.v 10))) .done
@[simp] def W179_12 := @Pl.wpe _ _ K179_12.eq_1
def K179_13 : C := .pl <| .st (.ext 7 5) <|
    .st (.act none (.pget (some 7) none 5 0 (some 3))) <|
    .st (.act none (.pget (some 8) none 4 0 (some 3))) <|
    .st (.act none (.ex (some 9) (.bls 3 2 [.int .i64 0, .int .i64 0, .slice none 0 0] [(0, 3, .v 7), (3, 3, .v 8)]))) K179_12
@[simp] def W179_13 := @C.wpe _ _ K179_13.eq_1
def K179_14 : Pl := .st (.act none (.als 9 none 3)) <|
    .st (.act none (.pset (some 9) 3 6 3 (.v 8))) .done
@[simp] def W179_14 := @Pl.wpe _ _ K179_14.eq_1
def K179_15 : C := .pl <| .st (.ext 7 3) <|
    .st (.act none (.px (some 7) (.mv (.v 0)))) <|
    .st (.act none (.ex (some 8) (.call fn_spec_l1Expr [.v 7]))) K179_14
@[simp] def W179_15 := @C.wpe _ _ K179_15.eq_1
def K179_16 : C := .cond 7 (.v 8) K179_13 K179_15
@[simp] def W179_16 := @C.wpe _ _ K179_16.eq_1
def K179_17 : C := .seq (.pl <| .st (.ext 7 2) <|
    .st (.act none (.px (some 7) (.bin .eql (.v 6) (.c (.int .i64 2))))) <|
    .st (.act none (.px (some 8) (.mv (.v 7)))) .done) K179_16
@[simp] def W179_17 := @C.wpe _ _ K179_17.eq_1
def K179_18 : C := .cond 7 (.v 8) K179_11 K179_17
@[simp] def W179_18 := @C.wpe _ _ K179_18.eq_1
def K179_19 : C := .seq (.pl <| .st (.ext 7 2) <|
    .st (.act none (.px (some 7) (.bin .eql (.v 6) (.c (.int .i64 1))))) <|
    .st (.act none (.px (some 8) (.mv (.v 7)))) .done) K179_18
@[simp] def W179_19 := @C.wpe _ _ K179_19.eq_1
def K179_20 : C := .cond 7 (.v 8) K179_9 K179_19
@[simp] def W179_20 := @C.wpe _ _ K179_20.eq_1
def K179_21 : C := .block 0 (.seq (.pl <| .st (.ext 7 2) <|
    .st (.act none (.px (some 7) (.bin .eql (.v 6) (.c (.int .i64 0))))) <|
    .st (.act none (.px (some 8) (.mv (.v 7)))) .done) K179_20)
@[simp] def W179_21 := @C.wpe _ _ K179_21.eq_1
def K179_22 : C := .seq (.pl <| .st (.ext 7 1) <|
    .st (.act none (.px (some 7) (.mv (.v 0)))) <|
    .st (.act none (.ex (some 6) (.call fn_spec_l16Rd_pick [.v 7, .c (.int .i64 4)]))) .done) K179_21
@[simp] def W179_22 := @C.wpe _ _ K179_22.eq_1
def K179_23 : C := .seq (.pl <| .st (.ext 7 1) <|
    .st (.act none (.px (some 7) (.build [.int .i64 0, .int .i64 0, .slice none 0 0] [(0, 1, .c (.int .i64 1)), (1, 1, .c (.int .i64 1))]))) <|
    .st (.act none (.pnew 5 (.c (.agg #[.int .i64 0, .int .i64 0, .slice none 0 0])) [])) <|
    .st (.act none (.pset none 5 0 3 (.v 7))) .done) K179_22
@[simp] def W179_23 := @C.wpe _ _ K179_23.eq_1
def K179_24 : C := .seq (.pl <| .st (.ext 7 3) <|
    .st (.act none (.als 7 none 3)) <|
    .st (.act none (.pget (some 8) (some 7) 3 5 none)) <|
    .st (.act none (.px (some 9) (.build [.int .i64 0, .int .i64 0, .slice none 0 0] [(0, 1, .c (.int .i64 2)), (1, 1, .v 8)]))) <|
    .st (.act none (.pnew 4 (.c (.agg #[.int .i64 0, .int .i64 0, .slice none 0 0])) [])) <|
    .st (.act none (.pset none 4 0 3 (.v 9))) .done) K179_23
@[simp] def W179_24 := @C.wpe _ _ K179_24.eq_1
def K179_25 : Pl := .st (.act none (.als 10 none 3)) <|
    .st (.act none (.pset (some 10) 3 5 1 (.v 9))) .done
@[simp] def W179_25 := @Pl.wpe _ _ K179_25.eq_1
def K179_26 : Pl := .st (.act none (.ex (some 9) (.call fn_spec_l16Rd_num [.v 7, .v 8]))) K179_25
@[simp] def W179_26 := @Pl.wpe _ _ K179_26.eq_1
def K179_27 : C := .seq (.pl <| .st (.ext 7 4) <|
    .st (.act none (.px (some 7) (.mv (.v 0)))) <|
    .st (.act none (.ex (some 8) (.bls 1 4 [.int .i64 0] [(0, 1, .c (.int .i64 0)), (1, 1, .c (.int .i64 1)), (2, 1, .c (.int .i64 0)), (3, 1, .c (.int .i64 2))]))) K179_26) K179_24
@[simp] def W179_27 := @C.wpe _ _ K179_27.eq_1
def K179_28 : C := .cond 7 (.v 9) K179_27 (.skip)
@[simp] def W179_28 := @C.wpe _ _ K179_28.eq_1
def K179_29 : Pl := .st (.act none (.px (some 9) (.bin .gtr (.v 8) (.c (.int .i64 0))))) .done
@[simp] def W179_29 := @Pl.wpe _ _ K179_29.eq_1
def K179_30 : C := .seq (.seq (.pl <| .st (.ext 7 3) <|
    .st (.act none (.px (some 7) (.mv (.v 0)))) <|
    .st (.act none (.ex (some 8) (.call fn_spec_l16Rd_pick [.v 7, .c (.int .i64 3)]))) K179_29) K179_28) K179_7
@[simp] def W179_30 := @C.wpe _ _ K179_30.eq_1
def K179_31 : Pl := .st (.act none (.px (some 15) (.build [.int .i64 0, .int .i64 0, .int .i64 0, .int .i64 0, .slice none 0 0, .int .i64 0, .int .i64 0, .int .i64 0, .slice none 0 0, .int .i64 0] [(0, 1, .v 9), (1, 1, .v 12), (2, 3, .v 14), (5, 1, .c (.int .i64 (-1)))]))) <|
    .st (.act none (.pnew 3 (.c (.agg #[.int .i64 0, .int .i64 0, .int .i64 0, .int .i64 0, .slice none 0 0, .int .i64 0, .int .i64 0, .int .i64 0, .slice none 0 0, .int .i64 0])) [])) <|
    .st (.act none (.pset none 3 0 10 (.v 15))) .done
@[simp] def W179_31 := @Pl.wpe _ _ K179_31.eq_1
def K179_32 : Pl := .st (.act none (.px (some 13) (.mv (.v 0)))) <|
    .st (.act none (.ex (some 14) (.call fn_spec_l2Guard [.v 13]))) K179_31
@[simp] def W179_32 := @Pl.wpe _ _ K179_32.eq_1
def K179_33 : Pl := .st (.act none (.px (some 10) (.mv (.v 0)))) <|
    .st (.act none (.px (some 11) (.mv (.v 1)))) <|
    .st (.act none (.ex (some 12) (.call fn_spec_l16Rd_pick [.v 10, .v 11]))) K179_32
@[simp] def W179_33 := @Pl.wpe _ _ K179_33.eq_1
def K179_34 : C := .seq (.pl <| .st (.ext 7 9) <|
    .st (.act none (.px (some 7) (.mv (.v 0)))) <|
    .st (.act none (.px (some 8) (.mv (.v 1)))) <|
    .st (.act none (.ex (some 9) (.call fn_spec_l16Rd_pick [.v 7, .v 8]))) K179_33) K179_30
@[simp] def W179_34 := @C.wpe _ _ K179_34.eq_1
def B_spec_l2DrawEdge : C := .seq (.pl <| .st (.ext 7 0) <|
    .st (.act none (.pnew 2 (.c (.agg #[.int .i64 0, .int .i64 0, .int .i64 0, .int .i64 0, .slice none 0 0, .int .i64 0, .int .i64 0, .int .i64 0, .slice none 0 0, .int .i64 0])) [])) .done) K179_34
@[simp] def WB_spec_l2DrawEdge := @C.wpe _ _ B_spec_l2DrawEdge.eq_1
def R_spec_l2DrawEdge : FIR := ⟨B_spec_l2DrawEdge, 7, [(2, some (some 10))]⟩
theorem IR_spec_l2DrawEdge : cfun Try.prog H_spec_l2DrawEdge Try.f179 = some R_spec_l2DrawEdge := by kernel_rfl
theorem EN_spec_l2DrawEdge {args : List Value} {h : Heap} {k : Value → Heap → Prop} (hargs : args.length = 2) (hw : B_spec_l2DrawEdge.wp Try.prog (retQ [(2, some (some 10))] k) (env0 args 7) h) : CallE Try.prog fn_spec_l2DrawEdge args h k := enter Try.func179 rfl IR_spec_l2DrawEdge hargs hw

def H_spec_l2Guard : Hint := ⟨[(0, false), (2, true), (3, true), (4, true), (5, true)], []⟩
def K177_1 : C := .seq (.pl <| .st (.ext 5 1) <|
    .st (.act none (.pget (some 5) none 4 0 (some 3))) <|
    .st (.act none (.pset none 1 0 3 (.v 5))) .done) (.ret)
@[simp] def W177_1 := @C.wpe _ _ K177_1.eq_1
def K177_2 : Pl := .st (.act none (.px (some 7) (.build [.int .i64 0, .int .i64 0, .slice none 0 0] [(0, 1, .c (.int .i64 3)), (2, 1, .v 6)]))) <|
    .st (.act none (.pset none 1 0 3 (.v 7))) .done
@[simp] def W177_2 := @Pl.wpe _ _ K177_2.eq_1
def K177_3 : C := .seq (.pl <| .st (.ext 5 3) <|
    .st (.act none (.pget (some 5) none 4 0 (some 3))) <|
    .st (.act none (.ex (some 6) (.bls 3 1 [.int .i64 0, .int .i64 0, .slice none 0 0] [(0, 3, .v 5)]))) K177_2) (.ret)
@[simp] def W177_3 := @C.wpe _ _ K177_3.eq_1
def K177_4 : C := .cond 5 (.v 7) K177_3 (.skip)
@[simp] def W177_4 := @C.wpe _ _ K177_4.eq_1
def K177_5 : Pl := .st (.act none (.px (some 7) (.bin .eql (.v 6) (.c (.int .i64 0))))) .done
@[simp] def W177_5 := @Pl.wpe _ _ K177_5.eq_1
def K177_6 : C := .seq (.seq (.pl <| .st (.ext 5 3) <|
    .st (.act none (.px (some 5) (.mv (.v 0)))) <|
    .st (.act none (.ex (some 6) (.call fn_spec_l16Rd_pick [.v 5, .c (.int .i64 5)]))) K177_5) K177_4) K177_1
@[simp] def W177_6 := @C.wpe _ _ K177_6.eq_1
def K177_7 : Pl := .st (.act none (.px (some 11) (.build [.int .i64 0, .int .i64 0, .slice none 0 0] [(0, 1, .v 7), (2, 1, .v 10)]))) <|
    .st (.act none (.pset none 4 0 3 (.v 11))) .done
@[simp] def W177_7 := @Pl.wpe _ _ K177_7.eq_1
def K177_8 : Pl := .st (.act none (.ex (some 10) (.bls 3 2 [.int .i64 0, .int .i64 0, .slice none 0 0] [(0, 3, .v 8), (3, 3, .v 9)]))) K177_7
@[simp] def W177_8 := @Pl.wpe _ _ K177_8.eq_1
def K177_9 : Pl := .st (.act none (.ex (some 7) (.call fn_spec_l16Rd_num [.v 5, .v 6]))) K177_8
@[simp] def W177_9 := @Pl.wpe _ _ K177_9.eq_1
def K177_10 : Pl := .st (.act none (.px (some 11) (.build [.int .i64 0, .int .i64 0, .slice none 0 0] [(0, 1, .v 7), (2, 1, .v 10)]))) <|
    .st (.act none (.pset none 4 0 3 (.v 11))) .done
@[simp] def W177_10 := @Pl.wpe _ _ K177_10.eq_1
def K177_11 : Pl := .st (.act none (.ex (some 7) (.call fn_spec_l16Rd_num [.v 5, .v 6]))) K177_10
@[simp] def W177_11 := @Pl.wpe _ _ K177_11.eq_1
def K177_12 : Pl := .st (.act none (.ex (some 10) (.bls 3 2 [.int .i64 0, .int .i64 0, .slice none 0 0] [(0, 3, .v 8), (3, 3, .v 9)]))) K177_11
@[simp] def W177_12 := @Pl.wpe _ _ K177_12.eq_1
def K177_13 : Pl := .both K177_9 K177_12
@[simp] def W177_13 := @Pl.wpe _ _ K177_13.eq_1
def K177_14 : Pl := .st (.act none (.ex (some 6) (.bls 1 3 [.int .i64 0] [(0, 1, .c (.int .i64 6)), (1, 1, .c (.int .i64 7)), (2, 1, .c (.int .i64 6))]))) K177_13
@[simp] def W177_14 := @Pl.wpe _ _ K177_14.eq_1
def K177_15 : Pl := .st (.act none (.px (some 11) (.build [.int .i64 0, .int .i64 0, .slice none 0 0] [(0, 1, .v 7), (2, 1, .v 10)]))) <|
    .st (.act none (.pset none 4 0 3 (.v 11))) .done
@[simp] def W177_15 := @Pl.wpe _ _ K177_15.eq_1
def K177_16 : Pl := .st (.act none (.ex (some 7) (.call fn_spec_l16Rd_num [.v 5, .v 6]))) K177_15
@[simp] def W177_16 := @Pl.wpe _ _ K177_16.eq_1
def K177_17 : Pl := .st (.act none (.ex (some 6) (.bls 1 3 [.int .i64 0] [(0, 1, .c (.int .i64 6)), (1, 1, .c (.int .i64 7)), (2, 1, .c (.int .i64 6))]))) K177_16
@[simp] def W177_17 := @Pl.wpe _ _ K177_17.eq_1
def K177_18 : Pl := .st (.act none (.ex (some 10) (.bls 3 2 [.int .i64 0, .int .i64 0, .slice none 0 0] [(0, 3, .v 8), (3, 3, .v 9)]))) K177_17
@[simp] def W177_18 := @Pl.wpe _ _ K177_18.eq_1
def K177_19 : C := .seq (.pl <| .st (.ext 5 7) <|
    .st (.act none (.px (some 5) (.mv (.v 0)))) <|
    .st (.act none (.pget (some 8) none 2 0 (some 3))) <|
    .st (.act none (.pget (some 9) none 3 0 (some 3))) <|
    .st (.act none (.pnew 4 (.c (.agg #[.int .i64 0, .int .i64 0, .slice none 0 0])) [])) <|
    .both K177_14 K177_18) K177_6
@[simp] def W177_19 := @C.wpe _ _ K177_19.eq_1
def K177_20 : Pl := .st (.act none (.px (some 7) (.build [.int .i64 0, .int .i64 0, .slice none 0 0] [(0, 1, .c (.int .i64 1)), (1, 1, .v 6)]))) <|
    .st (.act none (.pnew 3 (.c (.agg #[.int .i64 0, .int .i64 0, .slice none 0 0])) [])) <|
    .st (.act none (.pset none 3 0 3 (.v 7))) .done
@[simp] def W177_20 := @Pl.wpe _ _ K177_20.eq_1
def K177_21 : C := .seq (.pl <| .st (.ext 5 3) <|
    .st (.act none (.px (some 5) (.mv (.v 0)))) <|
    .st (.act none (.ex (some 6) (.call fn_spec_l16Rd_pick [.v 5, .c (.int .i64 3)]))) K177_20) K177_19
@[simp] def W177_21 := @C.wpe _ _ K177_21.eq_1
def K177_22 : Pl := .st (.act none (.px (some 8) (.build [.int .i64 0, .int .i64 0, .slice none 0 0] [(0, 1, .c (.int .i64 2)), (1, 1, .v 7)]))) <|
    .st (.act none (.pnew 2 (.c (.agg #[.int .i64 0, .int .i64 0, .slice none 0 0])) [])) <|
    .st (.act none (.pset none 2 0 3 (.v 8))) .done
@[simp] def W177_22 := @Pl.wpe _ _ K177_22.eq_1
def K177_23 : Pl := .st (.act none (.ex (some 7) (.call fn_spec_l16Rd_num [.v 5, .v 6]))) K177_22
@[simp] def W177_23 := @Pl.wpe _ _ K177_23.eq_1
def K177_24 : C := .seq (.pl <| .st (.ext 5 4) <|
    .st (.act none (.px (some 5) (.mv (.v 0)))) <|
    .st (.act none (.ex (some 6) (.bls 1 4 [.int .i64 0] [(0, 1, .c (.int .i64 0)), (1, 1, .c (.int .i64 1)), (2, 1, .c (.int .i64 0)), (3, 1, .c (.int .i64 2))]))) K177_23) K177_21
@[simp] def W177_24 := @C.wpe _ _ K177_24.eq_1
def K177_25 : C := .seq (.pl <| .st (.ext 5 1) <|
    .st (.act none (.px (some 5) (.build [.int .i64 0, .int .i64 0, .slice none 0 0] [(0, 1, .c (.int .i64 1)), (1, 1, .c (.int .i64 1))]))) <|
    .st (.act none (.pset none 1 0 3 (.v 5))) .done) (.ret)
@[simp] def W177_25 := @C.wpe _ _ K177_25.eq_1
def K177_26 : C := .cond 5 (.v 7) K177_25 (.skip)
@[simp] def W177_26 := @C.wpe _ _ K177_26.eq_1
def K177_27 : Pl := .st (.act none (.px (some 7) (.bin .eql (.v 6) (.c (.int .i64 0))))) .done
@[simp] def W177_27 := @Pl.wpe _ _ K177_27.eq_1
def K177_28 : C := .seq (.seq (.pl <| .st (.ext 5 3) <|
    .st (.act none (.px (some 5) (.mv (.v 0)))) <|
    .st (.act none (.ex (some 6) (.call fn_spec_l16Rd_pick [.v 5, .c (.int .i64 3)]))) K177_27) K177_26) K177_24
@[simp] def W177_28 := @C.wpe _ _ K177_28.eq_1
def B_spec_l2Guard : C := .seq (.pl <| .st (.ext 5 0) <|
    .st (.act none (.pnew 1 (.c (.agg #[.int .i64 0, .int .i64 0, .slice none 0 0])) [])) .done) K177_28
@[simp] def WB_spec_l2Guard := @C.wpe _ _ B_spec_l2Guard.eq_1
def R_spec_l2Guard : FIR := ⟨B_spec_l2Guard, 5, [(1, some (some 3))]⟩
theorem IR_spec_l2Guard : cfun Try.prog H_spec_l2Guard Try.f177 = some R_spec_l2Guard := by kernel_rfl
theorem EN_spec_l2Guard {args : List Value} {h : Heap} {k : Value → Heap → Prop} (hargs : args.length = 1) (hw : B_spec_l2Guard.wp Try.prog (retQ [(1, some (some 3))] k) (env0 args 5) h) : CallE Try.prog fn_spec_l2Guard args h k := enter Try.func177 rfl IR_spec_l2Guard hargs hw

def H_spec_l2Mutate : Hint := ⟨[(0, false), (1, false), (3, true), (4, true), (5, true), (6, false), (31, false)], []⟩
def K96_1 : C := .seq (.pl <| .st (.ext 7 1) <|
    .st (.act none (.pget (some 7) none 4 0 (some 2))) <|
    .st (.act none (.pset none 3 0 2 (.v 7))) .done) (.ret)
@[simp] def W96_1 := @C.wpe _ _ K96_1.eq_1
def K96_2 : Pl := .st (.act none (.als 11 none 4)) <|
    .st (.act none (.pset (some 11) 4 0 1 (.v 10))) .done
@[simp] def W96_2 := @Pl.wpe _ _ K96_2.eq_1
def K96_3 : C := .pl <| .st (.ext 7 5) <|
    .st (.act none (.als 7 none 4)) <|
    .st (.act none (.pget (some 8) (some 7) 4 0 none)) <|
    .st (.act none (.psl 9 [.int .i64 0] [(0, 1, .c (.int .i64 0))])) <|
    .st (.act none (.ex (some 10) (.app 8 1 [.int .i64 0] (.o (.v 8)) (.p 1 9)))) K96_2
@[simp] def W96_3 := @C.wpe _ _ K96_3.eq_1
def K96_4 : Pl := .st (.act none (.als 15 none 4)) <|
    .st (.act none (.pset (some 15) 4 1 1 (.v 14))) .done
@[simp] def W96_4 := @Pl.wpe _ _ K96_4.eq_1
def K96_5 : Pl := .st (.act none (.px (some 12) (.build [.int .i64 0, .slice none 0 0] [(0, 1, .v 11)]))) <|
    .st (.act none (.psl 13 [.int .i64 0, .slice none 0 0] [(0, 2, .v 12)])) <|
    .st (.act none (.ex (some 14) (.app 32 2 [.int .i64 0, .slice none 0 0] (.o (.v 8)) (.p 1 13)))) K96_4
@[simp] def W96_5 := @Pl.wpe _ _ K96_5.eq_1
def K96_6 : Pl := .st (.act none (.ex (some 11) (.call fn_spec_l16Rd_num [.v 9, .v 10]))) K96_5
@[simp] def W96_6 := @Pl.wpe _ _ K96_6.eq_1
def K96_7 : C := .pl <| .st (.ext 7 9) <|
    .st (.act none (.als 7 none 4)) <|
    .st (.act none (.pget (some 8) (some 7) 4 1 none)) <|
    .st (.act none (.px (some 9) (.mv (.v 0)))) <|
    .st (.act none (.ex (some 10) (.bls 1 4 [.int .i64 0] [(0, 1, .c (.int .i64 0)), (1, 1, .c (.int .i64 1)), (2, 1, .c (.int .i64 4)), (3, 1, .c (.int .i64 5))]))) K96_6
@[simp] def W96_7 := @C.wpe _ _ K96_7.eq_1
def K96_8 : Pl := .st (.re 12 (.v 11) none none) <|
    .st (.act none (.px (some 17) (.ia 10 (.v 12) (.c (.int .i64 0))))) <|
    .st (.act none (.px (some 18) (.fa 2 (.v 17)))) <|
    .st (.act none (.ex none (.store 3 (.v 18) (.v 16)))) .done
@[simp] def W96_8 := @Pl.wpe _ _ K96_8.eq_1
def K96_9 : Pl := .st (.re 12 (.v 11) none none) <|
    .st (.act none (.ex (some 16) (.call fn_spec_l1Mutate [.v 13, .v 15]))) K96_8
@[simp] def W96_9 := @Pl.wpe _ _ K96_9.eq_1
def K96_10 : C := .pl <| .st (.ext 7 12) <|
    .st (.act none (.als 7 none 4)) <|
    .st (.act none (.pget (some 8) (some 7) 4 1 none)) <|
    .st (.act none (.px (some 9) (.mv (.v 5)))) <|
    .st (.act none (.px (some 10) (.ia 2 (.v 8) (.v 9)))) <|
    .st (.act none (.px (some 11) (.fa 1 (.v 10)))) <|
    .st (.act none (.ld (some 12) (.v 11) none)) <|
    .st (.act none (.px (some 13) (.mv (.v 0)))) <|
    .st (.act none (.px (some 14) (.mv (.v 0)))) <|
    .st (.act none (.ex (some 15) (.call fn_spec_l1Expr [.v 14]))) K96_9
@[simp] def W96_10 := @C.wpe _ _ K96_10.eq_1
def K96_11 : C := .cond 7 (.v 8) K96_10 (.skip)
@[simp] def W96_11 := @C.wpe _ _ K96_11.eq_1
def K96_12 : C := .seq (.pl <| .st (.ext 7 2) <|
    .st (.act none (.px (some 7) (.mv (.v 5)))) <|
    .st (.act none (.px (some 8) (.bin .geq (.v 7) (.c (.int .i64 0))))) .done) K96_11
@[simp] def W96_12 := @C.wpe _ _ K96_12.eq_1
def K96_13 : Pl := .st (.re 12 (.v 11) none none) <|
    .st (.act none (.px (some 16) (.ia 10 (.v 12) (.c (.int .i64 0))))) <|
    .st (.act none (.px (some 17) (.fa 5 (.v 16)))) <|
    .st (.act none (.ex none (.store 1 (.v 17) (.v 15)))) .done
@[simp] def W96_13 := @Pl.wpe _ _ K96_13.eq_1
def K96_14 : Pl := .st (.re 12 (.v 11) none none) <|
    .st (.act none (.ex (some 15) (.call fn_spec_l16Rd_num [.v 13, .v 14]))) K96_13
@[simp] def W96_14 := @Pl.wpe _ _ K96_14.eq_1
def K96_15 : C := .pl <| .st (.ext 7 11) <|
    .st (.act none (.als 7 none 4)) <|
    .st (.act none (.pget (some 8) (some 7) 4 1 none)) <|
    .st (.act none (.px (some 9) (.mv (.v 5)))) <|
    .st (.act none (.px (some 10) (.ia 2 (.v 8) (.v 9)))) <|
    .st (.act none (.px (some 11) (.fa 1 (.v 10)))) <|
    .st (.act none (.ld (some 12) (.v 11) none)) <|
    .st (.act none (.px (some 13) (.mv (.v 0)))) <|
    .st (.act none (.ex (some 14) (.bls 1 4 [.int .i64 0] [(0, 1, .c (.int .i64 (-1))), (1, 1, .c (.int .i64 3)), (2, 1, .c (.int .i64 0)), (3, 1, .c (.int .i64 (-2)))]))) K96_14
@[simp] def W96_15 := @C.wpe _ _ K96_15.eq_1
def K96_16 : C := .cond 7 (.v 8) K96_15 (.skip)
@[simp] def W96_16 := @C.wpe _ _ K96_16.eq_1
def K96_17 : C := .seq (.pl <| .st (.ext 7 2) <|
    .st (.act none (.px (some 7) (.mv (.v 5)))) <|
    .st (.act none (.px (some 8) (.bin .geq (.v 7) (.c (.int .i64 0))))) .done) K96_16
@[simp] def W96_17 := @C.wpe _ _ K96_17.eq_1
def K96_18 : Pl := .st (.re 12 (.v 11) none none) <|
    .st (.act none (.px (some 16) (.ia 10 (.v 12) (.c (.int .i64 0))))) <|
    .st (.act none (.px (some 17) (.fa 9 (.v 16)))) <|
    .st (.act none (.ex none (.store 1 (.v 17) (.v 15)))) .done
@[simp] def W96_18 := @Pl.wpe _ _ K96_18.eq_1
def K96_19 : Pl := .st (.re 12 (.v 11) none none) <|
    .st (.act none (.ex (some 15) (.call fn_spec_l16Rd_num [.v 13, .v 14]))) K96_18
@[simp] def W96_19 := @Pl.wpe _ _ K96_19.eq_1
def K96_20 : C := .pl <| .st (.ext 7 11) <|
    .st (.act none (.als 7 none 4)) <|
    .st (.act none (.pget (some 8) (some 7) 4 1 none)) <|
    .st (.act none (.px (some 9) (.mv (.v 5)))) <|
    .st (.act none (.px (some 10) (.ia 2 (.v 8) (.v 9)))) <|
    .st (.act none (.px (some 11) (.fa 1 (.v 10)))) <|
    .st (.act none (.ld (some 12) (.v 11) none)) <|
    .st (.act none (.px (some 13) (.mv (.v 0)))) <|
    .st (.act none (.ex (some 14) (.bls 1 4 [.int .i64 0] [(0, 1, .c (.int .i64 3)), (1, 1, .c (.int .i64 (-3))), (2, 1, .c (.int .i64 2)), (3, 1, .c (.int .i64 (-9223372036854775808)))]))) K96_19
@[simp] def W96_20 := @C.wpe _ _ K96_20.eq_1
def K96_21 : C := .cond 7 (.v 8) K96_20 (.skip)
@[simp] def W96_21 := @C.wpe _ _ K96_21.eq_1
def K96_22 : C := .seq (.pl <| .st (.ext 7 2) <|
    .st (.act none (.px (some 7) (.mv (.v 5)))) <|
    .st (.act none (.px (some 8) (.bin .geq (.v 7) (.c (.int .i64 0))))) .done) K96_21
@[simp] def W96_22 := @C.wpe _ _ K96_22.eq_1
def K96_23 : Pl := .st (.re 12 (.v 11) none none) <|
    .st (.act none (.px (some 16) (.ia 10 (.v 12) (.c (.int .i64 0))))) <|
    .st (.act none (.px (some 17) (.fa 1 (.v 16)))) <|
    .st (.act none (.ex none (.store 1 (.v 17) (.v 15)))) .done
@[simp] def W96_23 := @Pl.wpe _ _ K96_23.eq_1
def K96_24 : Pl := .st (.re 12 (.v 11) none none) <|
    .st (.act none (.ex (some 15) (.call fn_spec_l16Rd_num [.v 13, .v 14]))) K96_23
@[simp] def W96_24 := @Pl.wpe _ _ K96_24.eq_1
def K96_25 : C := .pl <| .st (.ext 7 11) <|
    .st (.act none (.als 7 none 4)) <|
    .st (.act none (.pget (some 8) (some 7) 4 1 none)) <|
    .st (.act none (.px (some 9) (.mv (.v 5)))) <|
    .st (.act none (.px (some 10) (.ia 2 (.v 8) (.v 9)))) <|
    .st (.act none (.px (some 11) (.fa 1 (.v 10)))) <|
    .st (.act none (.ld (some 12) (.v 11) none)) <|
    .st (.act none (.px (some 13) (.mv (.v 0)))) <|
    .st (.act none (.ex (some 14) (.bls 1 4 [.int .i64 0] [(0, 1, .c (.int .i64 (-1))), (1, 1, .c (.int .i64 4)), (2, 1, .c (.int .i64 0)), (3, 1, .c (.int .i64 9223372036854775807))]))) K96_24
@[simp] def W96_25 := @C.wpe _ _ K96_25.eq_1
def K96_26 : C := .cond 7 (.v 8) K96_25 (.skip)
@[simp] def W96_26 := @C.wpe _ _ K96_26.eq_1
def K96_27 : C := .seq (.pl <| .st (.ext 7 2) <|
    .st (.act none (.px (some 7) (.mv (.v 5)))) <|
    .st (.act none (.px (some 8) (.bin .geq (.v 7) (.c (.int .i64 0))))) .done) K96_26
@[simp] def W96_27 := @C.wpe _ _ K96_27.eq_1
def K96_28 : C := .seq (.pl <| .st (.ext 7 1) <|
    .st (.act none (.px (some 7) (.build [.slice none 0 0, .slice none 0 0] []))) <|
    .st (.act none (.pset none 3 0 2 (.v 7))) .done) (.ret)
@[simp] def W96_28 := @C.wpe _ _ K96_28.eq_1
def K96_29 : C := .cond 7 (.v 8) K96_28 (.skip)
@[simp] def W96_29 := @C.wpe _ _ K96_29.eq_1
def K96_30 : C := .seq (.pl <| .st (.ext 7 2) <|
    .st (.act none (.px (some 7) (.bin .eql (.v 6) (.c (.int .i64 6))))) <|
    .st (.act none (.px (some 8) (.mv (.v 7)))) .done) K96_29
@[simp] def W96_30 := @C.wpe _ _ K96_30.eq_1
def K96_31 : C := .cond 7 (.v 8) K96_27 K96_30
@[simp] def W96_31 := @C.wpe _ _ K96_31.eq_1
def K96_32 : C := .seq (.pl <| .st (.ext 7 2) <|
    .st (.act none (.px (some 7) (.bin .eql (.v 6) (.c (.int .i64 5))))) <|
    .st (.act none (.px (some 8) (.mv (.v 7)))) .done) K96_31
@[simp] def W96_32 := @C.wpe _ _ K96_32.eq_1
def K96_33 : C := .cond 7 (.v 8) K96_22 K96_32
@[simp] def W96_33 := @C.wpe _ _ K96_33.eq_1
def K96_34 : C := .seq (.pl <| .st (.ext 7 2) <|
    .st (.act none (.px (some 7) (.bin .eql (.v 6) (.c (.int .i64 4))))) <|
    .st (.act none (.px (some 8) (.mv (.v 7)))) .done) K96_33
@[simp] def W96_34 := @C.wpe _ _ K96_34.eq_1
def K96_35 : C := .cond 7 (.v 8) K96_17 K96_34
@[simp] def W96_35 := @C.wpe _ _ K96_35.eq_1
def K96_36 : C := .seq (.pl <| .st (.ext 7 2) <|
    .st (.act none (.px (some 7) (.bin .eql (.v 6) (.c (.int .i64 3))))) <|
    .st (.act none (.px (some 8) (.mv (.v 7)))) .done) K96_35
@[simp] def W96_36 := @C.wpe _ _ K96_36.eq_1
def K96_37 : C := .cond 7 (.v 8) K96_12 K96_36
@[simp] def W96_37 := @C.wpe _ _ K96_37.eq_1
def K96_38 : C := .seq (.pl <| .st (.ext 7 2) <|
    .st (.act none (.px (some 7) (.bin .eql (.v 6) (.c (.int .i64 2))))) <|
    .st (.act none (.px (some 8) (.mv (.v 7)))) .done) K96_37
@[simp] def W96_38 := @C.wpe _ _ K96_38.eq_1
def K96_39 : C := .cond 7 (.v 8) K96_7 K96_38
@[simp] def W96_39 := @C.wpe _ _ K96_39.eq_1
def K96_40 : C := .seq (.pl <| .st (.ext 7 2) <|
    .st (.act none (.px (some 7) (.bin .eql (.v 6) (.c (.int .i64 1))))) <|
    .st (.act none (.px (some 8) (.mv (.v 7)))) .done) K96_39
@[simp] def W96_40 := @C.wpe _ _ K96_40.eq_1
def K96_41 : C := .cond 7 (.v 8) K96_3 K96_40
@[simp] def W96_41 := @C.wpe _ _ K96_41.eq_1
def K96_42 : C := .block 0 (.seq (.pl <| .st (.ext 7 2) <|
    .st (.act none (.px (some 7) (.bin .eql (.v 6) (.c (.int .i64 0))))) <|
    .st (.act none (.px (some 8) (.mv (.v 7)))) .done) K96_41)
@[simp] def W96_42 := @C.wpe _ _ K96_42.eq_1
def K96_43 : C := .seq (.seq (.pl <| .st (.ext 7 1) <|
    .st (.act none (.px (some 7) (.mv (.v 0)))) <|
    .st (.act none (.ex (some 6) (.call fn_spec_l16Rd_pick [.v 7, .c (.int .i64 50)]))) .done) K96_42) K96_1
@[simp] def W96_43 := @C.wpe _ _ K96_43.eq_1
def K96_44 : C := .pl <| .st (.ext 7 0) <|
    .st (.act none (.px (some 5) (.mv (.c (.int .i64 (-1)))))) .done
@[simp] def W96_44 := @C.wpe _ _ K96_44.eq_1
def K96_45 : C := .cond 7 (.v 21) K96_44 (.skip)
@[simp] def W96_45 := @C.wpe _ _ K96_45.eq_1
def K96_46 : C := .seq (.seq (.pl <| .st (.ext 7 15) <|
    .st (.act none (.px (some 7) (.mv (.v 5)))) <|
    .st (.act none (.als 8 none 2)) <|
    .st (.act none (.pget (some 9) (some 8) 2 1 none)) <|
    .st (.act none (.px (some 10) (.lenV (.v 9)))) <|
    .st (.act none (.px (some 11) (.bin .eql (.v 7) (.v 10)))) <|
    .st (.act none (.px (some 12) (.mv (.v 11)))) <|
    .st (.act (some (.v 12, false)) (.als 13 none 4)) <|
    .st (.act (some (.v 12, false)) (.pget (some 14) (some 13) 4 1 none)) <|
    .st (.act (some (.v 12, false)) (.px (some 15) (.mv (.v 5)))) <|
    .st (.act (some (.v 12, false)) (.px (some 16) (.ia 2 (.v 14) (.v 15)))) <|
    .st (.act (some (.v 12, false)) (.px (some 17) (.fa 1 (.v 16)))) <|
    .st (.act (some (.v 12, false)) (.ld (some 18) (.v 17) none)) <|
    .st (.act (some (.v 12, false)) (.px (some 19) (.lenV (.v 18)))) <|
    .st (.act (some (.v 12, false)) (.px (some 20) (.bin .eql (.v 19) (.c (.int .i64 0))))) <|
    .st (.act none (.px (some 21) (.pick (.v 12) (.c (.bool true)) (.v 20)))) .done) K96_45) K96_43
@[simp] def W96_46 := @C.wpe _ _ K96_46.eq_1
def K96_47 : Pl := .st (.act none (.px (some 5) (.mv (.v 12)))) .done
@[simp] def W96_47 := @Pl.wpe _ _ K96_47.eq_1
def K96_48 : C := .seq (.pl <| .st (.ext 7 6) <|
    .st (.act none (.px (some 7) (.mv (.v 0)))) <|
    .st (.act none (.als 8 none 2)) <|
    .st (.act none (.pget (some 9) (some 8) 2 1 none)) <|
    .st (.act none (.px (some 10) (.lenV (.v 9)))) <|
    .st (.act none (.px (some 11) (.bin .add (.v 10) (.c (.int .i64 1))))) <|
    .st (.act none (.ex (some 12) (.call fn_spec_l16Rd_pick [.v 7, .v 11]))) K96_47) K96_46
@[simp] def W96_48 := @C.wpe _ _ K96_48.eq_1
def K96_49 : Pl := .st (.act none (.pnew 4 (.c (.agg #[.slice none 0 0, .slice none 0 0])) [])) <|
    .st (.act none (.pset none 4 0 2 (.v 8))) .done
@[simp] def W96_49 := @Pl.wpe _ _ K96_49.eq_1
def K96_50 : C := .seq (.pl <| .st (.ext 7 2) <|
    .st (.act none (.pget (some 7) none 2 0 (some 2))) <|
    .st (.act none (.ex (some 8) (.call fn_spec_l2Copy [.v 7]))) K96_49) K96_48
@[simp] def W96_50 := @C.wpe _ _ K96_50.eq_1
def B_spec_l2Mutate : C := .seq (.pl <| .st (.ext 7 0) <|
    .st (.act none (.pnew 2 (.v 1) [])) <|
    .st (.act none (.pnew 3 (.c (.agg #[.slice none 0 0, .slice none 0 0])) [])) .done) K96_50
@[simp] def WB_spec_l2Mutate := @C.wpe _ _ B_spec_l2Mutate.eq_1
def R_spec_l2Mutate : FIR := ⟨B_spec_l2Mutate, 7, [(3, some (some 2))]⟩
theorem IR_spec_l2Mutate : cfun Try.prog H_spec_l2Mutate Try.f96 = some R_spec_l2Mutate := by kernel_rfl
theorem EN_spec_l2Mutate {args : List Value} {h : Heap} {k : Value → Heap → Prop} (hargs : args.length = 2) (hw : B_spec_l2Mutate.wp Try.prog (retQ [(3, some (some 2))] k) (env0 args 7) h) : CallE Try.prog fn_spec_l2Mutate args h k := enter Try.func96 rfl IR_spec_l2Mutate hargs hw

def H_spec_l2None : Hint := ⟨[(0, false), (1, true), (2, false)], []⟩
def K184_1 : C := .seq (.pl <| .st (.ext 3 14) <|
    .st (.act none (.als 3 none 1)) <|
    .st (.act none (.pget (some 4) (some 3) 1 0 none)) <|
    .st (.act none (.px (some 5) (.bin .eql (.v 4) (.c (.int .i64 0))))) <|
    .st (.act none (.px (some 6) (.mv (.v 5)))) <|
    .st (.act (some (.v 6, true)) (.als 7 none 1)) <|
    .st (.act (some (.v 6, true)) (.pget (some 8) (some 7) 1 1 none)) <|
    .st (.act (some (.v 6, true)) (.px (some 9) (.bin .eql (.v 8) (.c (.int .i64 0))))) <|
    .st (.act none (.px (some 10) (.pick (.v 6) (.v 9) (.c (.bool false))))) <|
    .st (.act none (.px (some 11) (.mv (.v 10)))) <|
    .st (.act (some (.v 11, true)) (.als 12 none 1)) <|
    .st (.act (some (.v 11, true)) (.pget (some 13) (some 12) 1 2 none)) <|
    .st (.act (some (.v 11, true)) (.px (some 14) (.lenV (.v 13)))) <|
    .st (.act (some (.v 11, true)) (.px (some 15) (.bin .eql (.v 14) (.c (.int .i64 0))))) <|
    .st (.act none (.px (some 16) (.pick (.v 11) (.v 15) (.c (.bool false))))) <|
    .st (.act none (.px (some 2) (.mv (.v 16)))) .done) (.ret)
@[simp] def W184_1 := @C.wpe _ _ K184_1.eq_1
def B_spec_l2None : C := .seq (.pl <| .st (.ext 3 0) <|
    .st (.act none (.pnew 1 (.v 0) [])) <|
    .st (.act none (.px (some 2) (.mv (.c (.bool false))))) .done) K184_1
@[simp] def WB_spec_l2None := @C.wpe _ _ B_spec_l2None.eq_1
def R_spec_l2None : FIR := ⟨B_spec_l2None, 3, [(2, none)]⟩
theorem IR_spec_l2None : cfun Try.prog H_spec_l2None Try.f184 = some R_spec_l2None := by kernel_rfl
theorem EN_spec_l2None {args : List Value} {h : Heap} {k : Value → Heap → Prop} (hargs : args.length = 1) (hw : B_spec_l2None.wp Try.prog (retQ [(2, none)] k) (env0 args 3) h) : CallE Try.prog fn_spec_l2None args h k := enter Try.func184 rfl IR_spec_l2None hargs hw

def H_spec_l2Process : Hint := ⟨[(0, false), (1, true), (2, false), (3, false)], [[0, 2]]⟩
def K114_1 : C := .seq (.pl <| .st (.ext 4 14) <|
    .st (.act none (.als 4 none 1)) <|
    .st (.act none (.pget (some 5) (some 4) 1 0 none)) <|
    .st (.act none (.px (some 6) (.bin .geq (.v 5) (.c (.int .i64 1))))) <|
    .st (.act none (.px (some 7) (.mv (.v 6)))) <|
    .st (.act (some (.v 7, true)) (.als 8 none 1)) <|
    .st (.act (some (.v 7, true)) (.pget (some 9) (some 8) 1 0 none)) <|
    .st (.act (some (.v 7, true)) (.px (some 10) (.bin .leq (.v 9) (.c (.int .i64 4))))) <|
    .st (.act none (.px (some 11) (.pick (.v 7) (.v 10) (.c (.bool false))))) <|
    .st (.act none (.px (some 12) (.mv (.v 11)))) <|
    .st (.act (some (.v 12, true)) (.als 13 none 1)) <|
    .st (.act (some (.v 12, true)) (.pget (some 14) (some 13) 1 1 none)) <|
    .st (.act (some (.v 12, true)) (.px (some 15) (.lenV (.v 14)))) <|
    .st (.act (some (.v 12, true)) (.px (some 16) (.bin .leq (.v 15) (.c (.int .i64 6))))) <|
    .st (.act none (.px (some 17) (.pick (.v 12) (.v 16) (.c (.bool false))))) <|
    .st (.act none (.px (some 2) (.mv (.v 17)))) .done) (.ret)
@[simp] def W114_1 := @C.wpe _ _ K114_1.eq_1
def K114_2 : C := .pl <| .st (.ext 4 2) <|
    .st (.act none (.px (some 4) (.mv (.v 3)))) <|
    .st (.act none (.px (some 5) (.bin .add (.v 4) (.c (.int .i64 1))))) <|
    .st (.act none (.px (some 3) (.mv (.v 5)))) .done
@[simp] def W114_2 := @C.wpe _ _ K114_2.eq_1
def K114_3 : C := .seq (.pl <| .st (.ext 4 0) <|
    .st (.act none (.px (some 2) (.mv (.c (.bool false))))) .done) (.ret)
@[simp] def W114_3 := @C.wpe _ _ K114_3.eq_1
def K114_4 : C := .cond 4 (.v 12) K114_3 (.skip)
@[simp] def W114_4 := @C.wpe _ _ K114_4.eq_1
def K114_5 : Pl := .st (.act none (.px (some 12) (.un .not (.v 11)))) .done
@[simp] def W114_5 := @Pl.wpe _ _ K114_5.eq_1
def K114_6 : C := .seq (.block 1 (.seq (.pl <| .st (.ext 4 9) <|
    .st (.act none (.als 4 none 1)) <|
    .st (.act none (.pget (some 5) (some 4) 1 1 none)) <|
    .st (.act none (.px (some 6) (.mv (.v 3)))) <|
    .st (.act none (.px (some 7) (.ia 10 (.v 5) (.v 6)))) <|
    .st (.act none (.ld (some 8) (.v 7) (some 10))) <|
    .st (.act none (.als 9 none 1)) <|
    .st (.act none (.pget (some 10) (some 9) 1 0 none)) <|
    .st (.act none (.ex (some 11) (.call fn_spec_EdgeValid [.v 8, .v 10]))) K114_5) K114_4)) K114_2
@[simp] def W114_6 := @C.wpe _ _ K114_6.eq_1
def K114_7 : C := .cond 4 (.v 8) (.skip) (.exit 0)
@[simp] def W114_7 := @C.wpe _ _ K114_7.eq_1
def K114_8 : C := .seq (.seq (.pl <| .st (.ext 4 5) <|
    .st (.act none (.px (some 4) (.mv (.v 3)))) <|
    .st (.act none (.als 5 none 1)) <|
    .st (.act none (.pget (some 6) (some 5) 1 1 none)) <|
    .st (.act none (.px (some 7) (.lenV (.v 6)))) <|
    .st (.act none (.px (some 8) (.bin .lss (.v 4) (.v 7)))) .done) K114_7) K114_6
@[simp] def W114_8 := @C.wpe _ _ K114_8.eq_1
def K114_9 : C := .block 0 (.loop 4 [0, 2] K114_8)
@[simp] def W114_9 := @C.wpe _ _ K114_9.eq_1
def K114_10 : C := .seq (.seq (.pl <| .st (.ext 4 0) <|
    .st (.act none (.px (some 3) (.mv (.c (.int .i64 0))))) .done) K114_9) K114_1
@[simp] def W114_10 := @C.wpe _ _ K114_10.eq_1
def B_spec_l2Process : C := .seq (.pl <| .st (.ext 4 0) <|
    .st (.act none (.pnew 1 (.v 0) [])) <|
    .st (.act none (.px (some 2) (.mv (.c (.bool false))))) .done) K114_10
@[simp] def WB_spec_l2Process := @C.wpe _ _ B_spec_l2Process.eq_1
def R_spec_l2Process : FIR := ⟨B_spec_l2Process, 4, [(2, none)]⟩
theorem IR_spec_l2Process : cfun Try.prog H_spec_l2Process Try.f114 = some R_spec_l2Process := by kernel_rfl
theorem EN_spec_l2Process {args : List Value} {h : Heap} {k : Value → Heap → Prop} (hargs : args.length = 1) (hw : B_spec_l2Process.wp Try.prog (retQ [(2, none)] k) (env0 args 4) h) : CallE Try.prog fn_spec_l2Process args h k := enter Try.func114 rfl IR_spec_l2Process hargs hw

def H_spec_l2System : Hint := ⟨[(0, false), (2, true), (3, true), (4, false), (5, true), (6, false)], [[4, 5], []]⟩
def K145_1 : C := .seq (.pl <| .st (.ext 6 1) <|
    .st (.act none (.pget (some 6) none 2 0 (some 2))) <|
    .st (.act none (.pset none 1 0 2 (.v 6))) .done) (.ret)
@[simp] def W145_1 := @C.wpe _ _ K145_1.eq_1
def K145_2 : C := .pl <| .st (.ext 6 2) <|
    .st (.act none (.px (some 6) (.mv (.v 3)))) <|
    .st (.act none (.px (some 7) (.bin .sub (.v 6) (.c (.int .i64 1))))) <|
    .st (.act none (.px (some 3) (.mv (.v 7)))) .done
@[simp] def W145_2 := @C.wpe _ _ K145_2.eq_1
def K145_3 : Pl := .st (.act none (.als 11 none 2)) <|
    .st (.act none (.pset (some 11) 2 1 1 (.v 10))) .done
@[simp] def W145_3 := @Pl.wpe _ _ K145_3.eq_1
def K145_4 : C := .pl <| .st (.ext 6 6) <|
    .st (.act none (.als 6 none 2)) <|
    .st (.act none (.pget (some 7) (some 6) 2 1 none)) <|
    .st (.act none (.pget (some 8) none 4 0 (some 2))) <|
    .st (.act none (.psl 9 [.int .i64 0, .slice none 0 0] [(0, 2, .v 8)])) <|
    .st (.act none (.ex (some 10) (.app 32 2 [.int .i64 0, .slice none 0 0] (.o (.v 7)) (.p 1 9)))) K145_3
@[simp] def W145_4 := @C.wpe _ _ K145_4.eq_1
def K145_5 : C := .pl <| .st (.ext 6 2) <|
    .st (.act none (.px (some 6) (.mv (.v 5)))) <|
    .st (.act none (.px (some 7) (.bin .sub (.v 6) (.c (.int .i64 1))))) <|
    .st (.act none (.px (some 5) (.mv (.v 7)))) .done
@[simp] def W145_5 := @C.wpe _ _ K145_5.eq_1
def K145_6 : Pl := .st (.act none (.als 14 none 4)) <|
    .st (.act none (.pset (some 14) 4 1 1 (.v 13))) .done
@[simp] def W145_6 := @Pl.wpe _ _ K145_6.eq_1
def K145_7 : Pl := .st (.act none (.psl 12 [.int .i64 0, .int .i64 0, .int .i64 0, .int .i64 0, .slice none 0 0, .int .i64 0, .int .i64 0, .int .i64 0, .slice none 0 0, .int .i64 0] [(0, 10, .v 11)])) <|
    .st (.act none (.ex (some 13) (.app 112 10 [.int .i64 0, .int .i64 0, .int .i64 0, .int .i64 0, .slice none 0 0, .int .i64 0, .int .i64 0, .int .i64 0, .slice none 0 0, .int .i64 0] (.o (.v 7)) (.p 1 12)))) K145_6
@[simp] def W145_7 := @Pl.wpe _ _ K145_7.eq_1
def K145_8 : C := .seq (.block 3 (.pl <| .st (.ext 6 9) <|
    .st (.act none (.als 6 none 4)) <|
    .st (.act none (.pget (some 7) (some 6) 4 1 none)) <|
    .st (.act none (.px (some 8) (.mv (.v 0)))) <|
    .st (.act none (.als 9 none 4)) <|
    .st (.act none (.pget (some 10) (some 9) 4 0 none)) <|
    .st (.act none (.ex (some 11) (.call fn_spec_l2DrawEdge [.v 8, .v 10]))) K145_7)) K145_5
@[simp] def W145_8 := @C.wpe _ _ K145_8.eq_1
def K145_9 : C := .cond 6 (.v 7) (.skip) (.exit 2)
@[simp] def W145_9 := @C.wpe _ _ K145_9.eq_1
def K145_10 : C := .seq (.seq (.pl <| .st (.ext 6 2) <|
    .st (.act none (.px (some 6) (.mv (.v 5)))) <|
    .st (.act none (.px (some 7) (.bin .gtr (.v 6) (.c (.int .i64 0))))) .done) K145_9) K145_8
@[simp] def W145_10 := @C.wpe _ _ K145_10.eq_1
def K145_11 : C := .block 2 (.loop 6 [] K145_10)
@[simp] def W145_11 := @C.wpe _ _ K145_11.eq_1
def K145_12 : Pl := .st (.act none (.px (some 5) (.mv (.v 8)))) .done
@[simp] def W145_12 := @Pl.wpe _ _ K145_12.eq_1
def K145_13 : Pl := .st (.act none (.ex (some 8) (.call fn_spec_l16Rd_num [.v 6, .v 7]))) K145_12
@[simp] def W145_13 := @Pl.wpe _ _ K145_13.eq_1
def K145_14 : C := .seq (.seq (.pl <| .st (.ext 6 3) <|
    .st (.act none (.px (some 6) (.mv (.v 0)))) <|
    .st (.act none (.ex (some 7) (.bls 1 5 [.int .i64 0] [(0, 1, .c (.int .i64 3)), (1, 1, .c (.int .i64 4)), (2, 1, .c (.int .i64 2)), (3, 1, .c (.int .i64 5)), (4, 1, .c (.int .i64 1))]))) K145_13) K145_11) K145_4
@[simp] def W145_14 := @C.wpe _ _ K145_14.eq_1
def K145_15 : Pl := .st (.act none (.px (some 9) (.build [.int .i64 0, .slice none 0 0] [(0, 1, .v 8)]))) <|
    .st (.act none (.pnew 4 (.c (.agg #[.int .i64 0, .slice none 0 0])) [])) <|
    .st (.act none (.pset none 4 0 2 (.v 9))) .done
@[simp] def W145_15 := @Pl.wpe _ _ K145_15.eq_1
def K145_16 : Pl := .st (.act none (.ex (some 8) (.call fn_spec_l16Rd_num [.v 6, .v 7]))) K145_15
@[simp] def W145_16 := @Pl.wpe _ _ K145_16.eq_1
def K145_17 : C := .seq (.block 1 (.seq (.pl <| .st (.ext 6 4) <|
    .st (.act none (.px (some 6) (.mv (.v 0)))) <|
    .st (.act none (.ex (some 7) (.bls 1 4 [.int .i64 0] [(0, 1, .c (.int .i64 2)), (1, 1, .c (.int .i64 3)), (2, 1, .c (.int .i64 1)), (3, 1, .c (.int .i64 2))]))) K145_16) K145_14)) K145_2
@[simp] def W145_17 := @C.wpe _ _ K145_17.eq_1
def K145_18 : C := .cond 6 (.v 7) (.skip) (.exit 0)
@[simp] def W145_18 := @C.wpe _ _ K145_18.eq_1
def K145_19 : C := .seq (.seq (.pl <| .st (.ext 6 2) <|
    .st (.act none (.px (some 6) (.mv (.v 3)))) <|
    .st (.act none (.px (some 7) (.bin .gtr (.v 6) (.c (.int .i64 0))))) .done) K145_18) K145_17
@[simp] def W145_19 := @C.wpe _ _ K145_19.eq_1
def K145_20 : C := .block 0 (.loop 6 [4, 5] K145_19)
@[simp] def W145_20 := @C.wpe _ _ K145_20.eq_1
def K145_21 : Pl := .st (.act none (.px (some 3) (.mv (.v 8)))) .done
@[simp] def W145_21 := @Pl.wpe _ _ K145_21.eq_1
def K145_22 : Pl := .st (.act none (.ex (some 8) (.call fn_spec_l16Rd_num [.v 6, .v 7]))) K145_21
@[simp] def W145_22 := @Pl.wpe _ _ K145_22.eq_1
def K145_23 : C := .seq (.seq (.pl <| .st (.ext 6 3) <|
    .st (.act none (.px (some 6) (.mv (.v 0)))) <|
    .st (.act none (.ex (some 7) (.bls 1 4 [.int .i64 0] [(0, 1, .c (.int .i64 2)), (1, 1, .c (.int .i64 1)), (2, 1, .c (.int .i64 2)), (3, 1, .c (.int .i64 3))]))) K145_22) K145_20) K145_1
@[simp] def W145_23 := @C.wpe _ _ K145_23.eq_1
def K145_24 : Pl := .st (.act none (.px (some 12) (.build [.slice none 0 0, .slice none 0 0] [(0, 1, .v 11)]))) <|
    .st (.act none (.pnew 2 (.c (.agg #[.slice none 0 0, .slice none 0 0])) [])) <|
    .st (.act none (.pset none 2 0 2 (.v 12))) .done
@[simp] def W145_24 := @Pl.wpe _ _ K145_24.eq_1
def K145_25 : Pl := .st (.act none (.ex (some 11) (.bls 1 3 [.int .i64 0] [(0, 1, .v 7), (1, 1, .v 10), (2, 1, .c (.int .i64 0))]))) K145_24
@[simp] def W145_25 := @Pl.wpe _ _ K145_25.eq_1
def K145_26 : Pl := .st (.act none (.ex (some 10) (.call fn_spec_l16Rd_num [.v 8, .v 9]))) K145_25
@[simp] def W145_26 := @Pl.wpe _ _ K145_26.eq_1
def K145_27 : Pl := .st (.act none (.px (some 8) (.mv (.v 0)))) <|
    .st (.act none (.ex (some 9) (.bls 1 4 [.int .i64 0] [(0, 1, .c (.int .i64 0)), (1, 1, .c (.int .i64 0)), (2, 1, .c (.int .i64 1)), (3, 1, .c (.int .i64 3))]))) K145_26
@[simp] def W145_27 := @Pl.wpe _ _ K145_27.eq_1
def K145_28 : C := .seq (.pl <| .st (.ext 6 7) <|
    .st (.act none (.px (some 6) (.mv (.v 0)))) <|
    .st (.act none (.ex (some 7) (.call fn_spec_l16Rd_pick [.v 6, .c (.int .i64 2)]))) K145_27) K145_23
@[simp] def W145_28 := @C.wpe _ _ K145_28.eq_1
def B_spec_l2System : C := .seq (.pl <| .st (.ext 6 0) <|
    .st (.act none (.pnew 1 (.c (.agg #[.slice none 0 0, .slice none 0 0])) [])) .done) K145_28
@[simp] def WB_spec_l2System := @C.wpe _ _ B_spec_l2System.eq_1
def R_spec_l2System : FIR := ⟨B_spec_l2System, 6, [(1, some (some 2))]⟩
theorem IR_spec_l2System : cfun Try.prog H_spec_l2System Try.f145 = some R_spec_l2System := by kernel_rfl
theorem EN_spec_l2System {args : List Value} {h : Heap} {k : Value → Heap → Prop} (hargs : args.length = 1) (hw : B_spec_l2System.wp Try.prog (retQ [(1, some (some 2))] k) (env0 args 6) h) : CallE Try.prog fn_spec_l2System args h k := enter Try.func145 rfl IR_spec_l2System hargs hw


end Go.Proofs.Ythgimpheeemooaa

/-
  Bodies of functions in the small language, as a program printed them, and that each is what the translation gives.
-/
namespace Go.Proofs.Ythgimpheeemooaa
open Go
set_option linter.all false
set_option linter.defProp false
set_option maxRecDepth 1000000

end Go.Proofs.Ythgimpheeemooaa
