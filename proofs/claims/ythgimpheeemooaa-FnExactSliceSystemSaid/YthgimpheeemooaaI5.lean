/-
  Bodies of functions in the small language, as a program printed them, and that each is what the translation gives.
-/
import Derived.Test.YthgimpheeemooaaI1
namespace Go.Proofs.Ythgimpheeemooaa
open Go
set_option linter.all false
set_option linter.defProp false
set_option maxRecDepth 1000000

def H_laws_eqExpr : Hint := ⟨[(0, false), (1, false), (2, true), (3, true), (4, false)], []⟩
def K69_1 : C := .seq (.pl <| .st (.ext 5 0) <|
    .st (.act none (.px (some 4) (.mv (.c (.bool true))))) .done) (.ret)
@[simp] def W69_1 := @C.wpe _ _ K69_1.eq_1
def K69_2 : C := .seq (.pl <| .st (.ext 5 0) <|
    .st (.act none (.px (some 4) (.mv (.c (.bool false))))) .done) (.ret)
@[simp] def W69_2 := @C.wpe _ _ K69_2.eq_1
def K69_3 : C := .cond 5 (.v 10) K69_2 (.skip)
@[simp] def W69_3 := @C.wpe _ _ K69_3.eq_1
def K69_4 : Pl := .st (.act none (.px (some 10) (.un .not (.v 9)))) .done
@[simp] def W69_4 := @Pl.wpe _ _ K69_4.eq_1
def K69_5 : C := .seq (.seq (.pl <| .st (.ext 5 6) <|
    .st (.act none (.als 5 none 2)) <|
    .st (.act none (.pget (some 6) (some 5) 2 2 none)) <|
    .st (.act none (.als 7 none 3)) <|
    .st (.act none (.pget (some 8) (some 7) 3 2 none)) <|
    .st (.act none (.ex (some 9) (.call fn_laws_eqExprS [.v 6, .v 8]))) K69_4) K69_3) K69_1
@[simp] def W69_5 := @C.wpe _ _ K69_5.eq_1
def K69_6 : C := .seq (.pl <| .st (.ext 5 0) <|
    .st (.act none (.px (some 4) (.mv (.c (.bool false))))) .done) (.ret)
@[simp] def W69_6 := @C.wpe _ _ K69_6.eq_1
def K69_7 : C := .cond 5 (.v 9) K69_6 (.skip)
@[simp] def W69_7 := @C.wpe _ _ K69_7.eq_1
def K69_8 : C := .seq (.seq (.pl <| .st (.ext 5 5) <|
    .st (.act none (.als 5 none 2)) <|
    .st (.act none (.pget (some 6) (some 5) 2 1 none)) <|
    .st (.act none (.als 7 none 3)) <|
    .st (.act none (.pget (some 8) (some 7) 3 1 none)) <|
    .st (.act none (.px (some 9) (.bin .neq (.v 6) (.v 8)))) .done) K69_7) K69_5
@[simp] def W69_8 := @C.wpe _ _ K69_8.eq_1
def K69_9 : C := .seq (.pl <| .st (.ext 5 0) <|
    .st (.act none (.px (some 4) (.mv (.c (.bool false))))) .done) (.ret)
@[simp] def W69_9 := @C.wpe _ _ K69_9.eq_1
def K69_10 : C := .cond 5 (.v 9) K69_9 (.skip)
@[simp] def W69_10 := @C.wpe _ _ K69_10.eq_1
def K69_11 : C := .seq (.seq (.pl <| .st (.ext 5 5) <|
    .st (.act none (.als 5 none 2)) <|
    .st (.act none (.pget (some 6) (some 5) 2 0 none)) <|
    .st (.act none (.als 7 none 3)) <|
    .st (.act none (.pget (some 8) (some 7) 3 0 none)) <|
    .st (.act none (.px (some 9) (.bin .neq (.v 6) (.v 8)))) .done) K69_10) K69_8
@[simp] def W69_11 := @C.wpe _ _ K69_11.eq_1
def B_laws_eqExpr : C := .seq (.pl <| .st (.ext 5 0) <|
    .st (.act none (.pnew 2 (.v 0) [])) <|
    .st (.act none (.pnew 3 (.v 1) [])) <|
    .st (.act none (.px (some 4) (.mv (.c (.bool false))))) .done) K69_11
@[simp] def WB_laws_eqExpr := @C.wpe _ _ B_laws_eqExpr.eq_1
def R_laws_eqExpr : FIR := ⟨B_laws_eqExpr, 5, [(4, none)]⟩
theorem IR_laws_eqExpr : cfun Try.prog H_laws_eqExpr Try.f69 = some R_laws_eqExpr := by kernel_rfl
theorem EN_laws_eqExpr {args : List Value} {h : Heap} {k : Value → Heap → Prop} (hargs : args.length = 2) (hw : B_laws_eqExpr.wp Try.prog (retQ [(4, none)] k) (env0 args 5) h) : CallE Try.prog fn_laws_eqExpr args h k := enter Try.func69 rfl IR_laws_eqExpr hargs hw

def H_laws_eqExprS : Hint := ⟨[(0, false), (1, false), (4, false), (5, false)], [[2]]⟩
def K19_1 : C := .seq (.pl <| .st (.ext 4 0) <|
    .st (.act none (.px (some 2) (.mv (.c (.bool true))))) .done) (.ret)
@[simp] def W19_1 := @C.wpe _ _ K19_1.eq_1
def K19_2 : C := .pl <| .st (.ext 4 2) <|
    .st (.act none (.px (some 4) (.mv (.v 3)))) <|
    .st (.act none (.px (some 5) (.bin .add (.v 4) (.c (.int .i64 1))))) <|
    .st (.act none (.px (some 3) (.mv (.v 5)))) .done
@[simp] def W19_2 := @C.wpe _ _ K19_2.eq_1
def K19_3 : C := .seq (.pl <| .st (.ext 4 0) <|
    .st (.act none (.px (some 2) (.mv (.c (.bool false))))) .done) (.ret)
@[simp] def W19_3 := @C.wpe _ _ K19_3.eq_1
def K19_4 : C := .cond 4 (.v 13) K19_3 (.skip)
@[simp] def W19_4 := @C.wpe _ _ K19_4.eq_1
def K19_5 : Pl := .st (.act none (.px (some 13) (.un .not (.v 12)))) .done
@[simp] def W19_5 := @Pl.wpe _ _ K19_5.eq_1
def K19_6 : C := .seq (.block 1 (.seq (.pl <| .st (.ext 4 10) <|
    .st (.act none (.px (some 4) (.mv (.v 0)))) <|
    .st (.act none (.px (some 5) (.mv (.v 3)))) <|
    .st (.act none (.px (some 6) (.ia 3 (.v 4) (.v 5)))) <|
    .st (.act none (.ld (some 7) (.v 6) (some 3))) <|
    .st (.act none (.px (some 8) (.mv (.v 1)))) <|
    .st (.act none (.px (some 9) (.mv (.v 3)))) <|
    .st (.act none (.px (some 10) (.ia 3 (.v 8) (.v 9)))) <|
    .st (.act none (.ld (some 11) (.v 10) (some 3))) <|
    .st (.act none (.ex (some 12) (.call fn_laws_eqExpr [.v 7, .v 11]))) K19_5) K19_4)) K19_2
@[simp] def W19_6 := @C.wpe _ _ K19_6.eq_1
def K19_7 : C := .cond 4 (.v 7) (.skip) (.exit 0)
@[simp] def W19_7 := @C.wpe _ _ K19_7.eq_1
def K19_8 : C := .seq (.seq (.pl <| .st (.ext 4 4) <|
    .st (.act none (.px (some 4) (.mv (.v 3)))) <|
    .st (.act none (.px (some 5) (.mv (.v 0)))) <|
    .st (.act none (.px (some 6) (.lenV (.v 5)))) <|
    .st (.act none (.px (some 7) (.bin .lss (.v 4) (.v 6)))) .done) K19_7) K19_6
@[simp] def W19_8 := @C.wpe _ _ K19_8.eq_1
def K19_9 : C := .block 0 (.loop 4 [2] K19_8)
@[simp] def W19_9 := @C.wpe _ _ K19_9.eq_1
def K19_10 : C := .seq (.seq (.pl <| .st (.ext 4 0) <|
    .st (.act none (.px (some 3) (.mv (.c (.int .i64 0))))) .done) K19_9) K19_1
@[simp] def W19_10 := @C.wpe _ _ K19_10.eq_1
def K19_11 : C := .seq (.pl <| .st (.ext 4 0) <|
    .st (.act none (.px (some 2) (.mv (.c (.bool false))))) .done) (.ret)
@[simp] def W19_11 := @C.wpe _ _ K19_11.eq_1
def K19_12 : C := .cond 4 (.v 8) K19_11 (.skip)
@[simp] def W19_12 := @C.wpe _ _ K19_12.eq_1
def K19_13 : C := .seq (.seq (.pl <| .st (.ext 4 5) <|
    .st (.act none (.px (some 4) (.mv (.v 0)))) <|
    .st (.act none (.px (some 5) (.lenV (.v 4)))) <|
    .st (.act none (.px (some 6) (.mv (.v 1)))) <|
    .st (.act none (.px (some 7) (.lenV (.v 6)))) <|
    .st (.act none (.px (some 8) (.bin .neq (.v 5) (.v 7)))) .done) K19_12) K19_10
@[simp] def W19_13 := @C.wpe _ _ K19_13.eq_1
def B_laws_eqExprS : C := .seq (.pl <| .st (.ext 4 0) <|
    .st (.act none (.px (some 2) (.mv (.c (.bool false))))) .done) K19_13
@[simp] def WB_laws_eqExprS := @C.wpe _ _ B_laws_eqExprS.eq_1
def R_laws_eqExprS : FIR := ⟨B_laws_eqExprS, 4, [(2, none)]⟩
theorem IR_laws_eqExprS : cfun Try.prog H_laws_eqExprS Try.f19 = some R_laws_eqExprS := by kernel_rfl
theorem EN_laws_eqExprS {args : List Value} {h : Heap} {k : Value → Heap → Prop} (hargs : args.length = 2) (hw : B_laws_eqExprS.wp Try.prog (retQ [(2, none)] k) (env0 args 4) h) : CallE Try.prog fn_laws_eqExprS args h k := enter Try.func19 rfl IR_laws_eqExprS hargs hw

def H_laws_eqIntS : Hint := ⟨[(0, false), (1, false), (4, false), (5, false)], [[2]]⟩
def K28_1 : C := .seq (.pl <| .st (.ext 4 0) <|
    .st (.act none (.px (some 2) (.mv (.c (.bool true))))) .done) (.ret)
@[simp] def W28_1 := @C.wpe _ _ K28_1.eq_1
def K28_2 : C := .pl <| .st (.ext 4 2) <|
    .st (.act none (.px (some 4) (.mv (.v 3)))) <|
    .st (.act none (.px (some 5) (.bin .add (.v 4) (.c (.int .i64 1))))) <|
    .st (.act none (.px (some 3) (.mv (.v 5)))) .done
@[simp] def W28_2 := @C.wpe _ _ K28_2.eq_1
def K28_3 : C := .seq (.pl <| .st (.ext 4 0) <|
    .st (.act none (.px (some 2) (.mv (.c (.bool false))))) .done) (.ret)
@[simp] def W28_3 := @C.wpe _ _ K28_3.eq_1
def K28_4 : C := .cond 4 (.v 12) K28_3 (.skip)
@[simp] def W28_4 := @C.wpe _ _ K28_4.eq_1
def K28_5 : C := .seq (.block 1 (.seq (.pl <| .st (.ext 4 9) <|
    .st (.act none (.px (some 4) (.mv (.v 0)))) <|
    .st (.act none (.px (some 5) (.mv (.v 3)))) <|
    .st (.act none (.px (some 6) (.ia 1 (.v 4) (.v 5)))) <|
    .st (.act none (.ld (some 7) (.v 6) none)) <|
    .st (.act none (.px (some 8) (.mv (.v 1)))) <|
    .st (.act none (.px (some 9) (.mv (.v 3)))) <|
    .st (.act none (.px (some 10) (.ia 1 (.v 8) (.v 9)))) <|
    .st (.act none (.ld (some 11) (.v 10) none)) <|
    .st (.act none (.px (some 12) (.bin .neq (.v 7) (.v 11)))) .done) K28_4)) K28_2
@[simp] def W28_5 := @C.wpe _ _ K28_5.eq_1
def K28_6 : C := .cond 4 (.v 7) (.skip) (.exit 0)
@[simp] def W28_6 := @C.wpe _ _ K28_6.eq_1
def K28_7 : C := .seq (.seq (.pl <| .st (.ext 4 4) <|
    .st (.act none (.px (some 4) (.mv (.v 3)))) <|
    .st (.act none (.px (some 5) (.mv (.v 0)))) <|
    .st (.act none (.px (some 6) (.lenV (.v 5)))) <|
    .st (.act none (.px (some 7) (.bin .lss (.v 4) (.v 6)))) .done) K28_6) K28_5
@[simp] def W28_7 := @C.wpe _ _ K28_7.eq_1
def K28_8 : C := .block 0 (.loop 4 [2] K28_7)
@[simp] def W28_8 := @C.wpe _ _ K28_8.eq_1
def K28_9 : C := .seq (.seq (.pl <| .st (.ext 4 0) <|
    .st (.act none (.px (some 3) (.mv (.c (.int .i64 0))))) .done) K28_8) K28_1
@[simp] def W28_9 := @C.wpe _ _ K28_9.eq_1
def K28_10 : C := .seq (.pl <| .st (.ext 4 0) <|
    .st (.act none (.px (some 2) (.mv (.c (.bool false))))) .done) (.ret)
@[simp] def W28_10 := @C.wpe _ _ K28_10.eq_1
def K28_11 : C := .cond 4 (.v 8) K28_10 (.skip)
@[simp] def W28_11 := @C.wpe _ _ K28_11.eq_1
def K28_12 : C := .seq (.seq (.pl <| .st (.ext 4 5) <|
    .st (.act none (.px (some 4) (.mv (.v 0)))) <|
    .st (.act none (.px (some 5) (.lenV (.v 4)))) <|
    .st (.act none (.px (some 6) (.mv (.v 1)))) <|
    .st (.act none (.px (some 7) (.lenV (.v 6)))) <|
    .st (.act none (.px (some 8) (.bin .neq (.v 5) (.v 7)))) .done) K28_11) K28_9
@[simp] def W28_12 := @C.wpe _ _ K28_12.eq_1
def B_laws_eqIntS : C := .seq (.pl <| .st (.ext 4 0) <|
    .st (.act none (.px (some 2) (.mv (.c (.bool false))))) .done) K28_12
@[simp] def WB_laws_eqIntS := @C.wpe _ _ B_laws_eqIntS.eq_1
def R_laws_eqIntS : FIR := ⟨B_laws_eqIntS, 4, [(2, none)]⟩
theorem IR_laws_eqIntS : cfun Try.prog H_laws_eqIntS Try.f28 = some R_laws_eqIntS := by kernel_rfl
theorem EN_laws_eqIntS {args : List Value} {h : Heap} {k : Value → Heap → Prop} (hargs : args.length = 2) (hw : B_laws_eqIntS.wp Try.prog (retQ [(2, none)] k) (env0 args 4) h) : CallE Try.prog fn_laws_eqIntS args h k := enter Try.func28 rfl IR_laws_eqIntS hargs hw

def H_laws_markExprS : Hint := ⟨[(0, false), (1, false), (4, false), (5, false)], [[2]]⟩
def K21_1 : C := .seq (.pl <| .st (.ext 4 1) <|
    .st (.act none (.px (some 4) (.mv (.v 1)))) <|
    .st (.act none (.px (some 2) (.mv (.v 4)))) .done) (.ret)
@[simp] def W21_1 := @C.wpe _ _ K21_1.eq_1
def K21_2 : C := .pl <| .st (.ext 4 2) <|
    .st (.act none (.px (some 4) (.mv (.v 3)))) <|
    .st (.act none (.px (some 5) (.bin .add (.v 4) (.c (.int .i64 1))))) <|
    .st (.act none (.px (some 3) (.mv (.v 5)))) .done
@[simp] def W21_2 := @C.wpe _ _ K21_2.eq_1
def K21_3 : Pl := .st (.act none (.px (some 1) (.mv (.v 10)))) .done
@[simp] def W21_3 := @Pl.wpe _ _ K21_3.eq_1
def K21_4 : C := .pl <| .st (.ext 4 7) <|
    .st (.act none (.px (some 4) (.mv (.v 0)))) <|
    .st (.act none (.px (some 5) (.mv (.v 3)))) <|
    .st (.act none (.px (some 6) (.ia 3 (.v 4) (.v 5)))) <|
    .st (.act none (.px (some 7) (.fa 2 (.v 6)))) <|
    .st (.act none (.ld (some 8) (.v 7) none)) <|
    .st (.act none (.px (some 9) (.mv (.v 1)))) <|
    .st (.act none (.ex (some 10) (.call fn_laws_markExprS [.v 8, .v 9]))) K21_3
@[simp] def W21_4 := @C.wpe _ _ K21_4.eq_1
def K21_5 : C := .seq (.pl <| .st (.ext 4 2) <|
    .st (.act none (.px (some 4) (.mv (.v 1)))) <|
    .st (.act none (.px (some 5) (.bin .add (.v 4) (.c (.int .i64 1))))) <|
    .st (.act none (.px (some 1) (.mv (.v 5)))) .done) K21_4
@[simp] def W21_5 := @C.wpe _ _ K21_5.eq_1
def K21_6 : C := .seq (.pl <| .st (.ext 4 5) <|
    .st (.act none (.px (some 4) (.mv (.v 0)))) <|
    .st (.act none (.px (some 5) (.mv (.v 3)))) <|
    .st (.act none (.px (some 6) (.mv (.v 1)))) <|
    .st (.act none (.px (some 7) (.ia 3 (.v 4) (.v 5)))) <|
    .st (.act none (.px (some 8) (.fa 1 (.v 7)))) <|
    .st (.act none (.ex none (.store 1 (.v 8) (.v 6)))) .done) K21_5
@[simp] def W21_6 := @C.wpe _ _ K21_6.eq_1
def K21_7 : C := .seq (.pl <| .st (.ext 4 2) <|
    .st (.act none (.px (some 4) (.mv (.v 1)))) <|
    .st (.act none (.px (some 5) (.bin .add (.v 4) (.c (.int .i64 1))))) <|
    .st (.act none (.px (some 1) (.mv (.v 5)))) .done) K21_6
@[simp] def W21_7 := @C.wpe _ _ K21_7.eq_1
def K21_8 : C := .seq (.block 1 (.seq (.pl <| .st (.ext 4 5) <|
    .st (.act none (.px (some 4) (.mv (.v 0)))) <|
    .st (.act none (.px (some 5) (.mv (.v 3)))) <|
    .st (.act none (.px (some 6) (.mv (.v 1)))) <|
    .st (.act none (.px (some 7) (.ia 3 (.v 4) (.v 5)))) <|
    .st (.act none (.px (some 8) (.fa 0 (.v 7)))) <|
    .st (.act none (.ex none (.store 1 (.v 8) (.v 6)))) .done) K21_7)) K21_2
@[simp] def W21_8 := @C.wpe _ _ K21_8.eq_1
def K21_9 : C := .cond 4 (.v 7) (.skip) (.exit 0)
@[simp] def W21_9 := @C.wpe _ _ K21_9.eq_1
def K21_10 : C := .seq (.seq (.pl <| .st (.ext 4 4) <|
    .st (.act none (.px (some 4) (.mv (.v 3)))) <|
    .st (.act none (.px (some 5) (.mv (.v 0)))) <|
    .st (.act none (.px (some 6) (.lenV (.v 5)))) <|
    .st (.act none (.px (some 7) (.bin .lss (.v 4) (.v 6)))) .done) K21_9) K21_8
@[simp] def W21_10 := @C.wpe _ _ K21_10.eq_1
def K21_11 : C := .block 0 (.loop 4 [2] K21_10)
@[simp] def W21_11 := @C.wpe _ _ K21_11.eq_1
def K21_12 : C := .seq (.seq (.pl <| .st (.ext 4 0) <|
    .st (.act none (.px (some 3) (.mv (.c (.int .i64 0))))) .done) K21_11) K21_1
@[simp] def W21_12 := @C.wpe _ _ K21_12.eq_1
def B_laws_markExprS : C := .seq (.pl <| .st (.ext 4 0) <|
    .st (.act none (.px (some 2) (.mv (.c (.int .i64 0))))) .done) K21_12
@[simp] def WB_laws_markExprS := @C.wpe _ _ B_laws_markExprS.eq_1
def R_laws_markExprS : FIR := ⟨B_laws_markExprS, 4, [(2, none)]⟩
theorem IR_laws_markExprS : cfun Try.prog H_laws_markExprS Try.f21 = some R_laws_markExprS := by kernel_rfl
theorem EN_laws_markExprS {args : List Value} {h : Heap} {k : Value → Heap → Prop} (hargs : args.length = 2) (hw : B_laws_markExprS.wp Try.prog (retQ [(2, none)] k) (env0 args 4) h) : CallE Try.prog fn_laws_markExprS args h k := enter Try.func21 rfl IR_laws_markExprS hargs hw

def H_laws_markIntS : Hint := ⟨[(0, false), (1, false), (4, false), (5, false)], [[2]]⟩
def K31_1 : C := .seq (.pl <| .st (.ext 4 1) <|
    .st (.act none (.px (some 4) (.mv (.v 1)))) <|
    .st (.act none (.px (some 2) (.mv (.v 4)))) .done) (.ret)
@[simp] def W31_1 := @C.wpe _ _ K31_1.eq_1
def K31_2 : C := .pl <| .st (.ext 4 2) <|
    .st (.act none (.px (some 4) (.mv (.v 3)))) <|
    .st (.act none (.px (some 5) (.bin .add (.v 4) (.c (.int .i64 1))))) <|
    .st (.act none (.px (some 3) (.mv (.v 5)))) .done
@[simp] def W31_2 := @C.wpe _ _ K31_2.eq_1
def K31_3 : C := .pl <| .st (.ext 4 2) <|
    .st (.act none (.px (some 4) (.mv (.v 1)))) <|
    .st (.act none (.px (some 5) (.bin .add (.v 4) (.c (.int .i64 1))))) <|
    .st (.act none (.px (some 1) (.mv (.v 5)))) .done
@[simp] def W31_3 := @C.wpe _ _ K31_3.eq_1
def K31_4 : C := .seq (.block 1 (.seq (.pl <| .st (.ext 4 4) <|
    .st (.act none (.px (some 4) (.mv (.v 0)))) <|
    .st (.act none (.px (some 5) (.mv (.v 3)))) <|
    .st (.act none (.px (some 6) (.mv (.v 1)))) <|
    .st (.act none (.px (some 7) (.ia 1 (.v 4) (.v 5)))) <|
    .st (.act none (.ex none (.store 1 (.v 7) (.v 6)))) .done) K31_3)) K31_2
@[simp] def W31_4 := @C.wpe _ _ K31_4.eq_1
def K31_5 : C := .cond 4 (.v 7) (.skip) (.exit 0)
@[simp] def W31_5 := @C.wpe _ _ K31_5.eq_1
def K31_6 : C := .seq (.seq (.pl <| .st (.ext 4 4) <|
    .st (.act none (.px (some 4) (.mv (.v 3)))) <|
    .st (.act none (.px (some 5) (.mv (.v 0)))) <|
    .st (.act none (.px (some 6) (.lenV (.v 5)))) <|
    .st (.act none (.px (some 7) (.bin .lss (.v 4) (.v 6)))) .done) K31_5) K31_4
@[simp] def W31_6 := @C.wpe _ _ K31_6.eq_1
def K31_7 : C := .block 0 (.loop 4 [2] K31_6)
@[simp] def W31_7 := @C.wpe _ _ K31_7.eq_1
def K31_8 : C := .seq (.seq (.pl <| .st (.ext 4 0) <|
    .st (.act none (.px (some 3) (.mv (.c (.int .i64 0))))) .done) K31_7) K31_1
@[simp] def W31_8 := @C.wpe _ _ K31_8.eq_1
def B_laws_markIntS : C := .seq (.pl <| .st (.ext 4 0) <|
    .st (.act none (.px (some 2) (.mv (.c (.int .i64 0))))) .done) K31_8
@[simp] def WB_laws_markIntS := @C.wpe _ _ B_laws_markIntS.eq_1
def R_laws_markIntS : FIR := ⟨B_laws_markIntS, 4, [(2, none)]⟩
theorem IR_laws_markIntS : cfun Try.prog H_laws_markIntS Try.f31 = some R_laws_markIntS := by kernel_rfl
theorem EN_laws_markIntS {args : List Value} {h : Heap} {k : Value → Heap → Prop} (hargs : args.length = 2) (hw : B_laws_markIntS.wp Try.prog (retQ [(2, none)] k) (env0 args 4) h) : CallE Try.prog fn_laws_markIntS args h k := enter Try.func31 rfl IR_laws_markIntS hargs hw

def H_laws_szExpr : Hint := ⟨[(0, false), (1, false), (2, true), (4, false)], []⟩
def K59_1 : C := .seq (.pl <| .st (.ext 4 1) <|
    .st (.act none (.px (some 4) (.mv (.v 1)))) <|
    .st (.act none (.px (some 3) (.mv (.v 4)))) .done) (.ret)
@[simp] def W59_1 := @C.wpe _ _ K59_1.eq_1
def K59_2 : C := .seq (.pl <| .st (.ext 4 0) <|
    .st (.act none (.px (some 3) (.mv (.c (.int .i64 (-1)))))) .done) (.ret)
@[simp] def W59_2 := @C.wpe _ _ K59_2.eq_1
def K59_3 : C := .cond 4 (.v 5) K59_2 (.skip)
@[simp] def W59_3 := @C.wpe _ _ K59_3.eq_1
def K59_4 : C := .seq (.seq (.pl <| .st (.ext 4 2) <|
    .st (.act none (.px (some 4) (.mv (.v 1)))) <|
    .st (.act none (.px (some 5) (.bin .lss (.v 4) (.c (.int .i64 0))))) .done) K59_3) K59_1
@[simp] def W59_4 := @C.wpe _ _ K59_4.eq_1
def K59_5 : Pl := .st (.act none (.px (some 1) (.mv (.v 7)))) .done
@[simp] def W59_5 := @Pl.wpe _ _ K59_5.eq_1
def K59_6 : C := .seq (.pl <| .st (.ext 4 4) <|
    .st (.act none (.als 4 none 2)) <|
    .st (.act none (.pget (some 5) (some 4) 2 2 none)) <|
    .st (.act none (.px (some 6) (.mv (.v 1)))) <|
    .st (.act none (.ex (some 7) (.call fn_laws_szExprS [.v 5, .v 6]))) K59_5) K59_4
@[simp] def W59_6 := @C.wpe _ _ K59_6.eq_1
def B_laws_szExpr : C := .seq (.pl <| .st (.ext 4 0) <|
    .st (.act none (.pnew 2 (.v 0) [])) <|
    .st (.act none (.px (some 3) (.mv (.c (.int .i64 0))))) .done) K59_6
@[simp] def WB_laws_szExpr := @C.wpe _ _ B_laws_szExpr.eq_1
def R_laws_szExpr : FIR := ⟨B_laws_szExpr, 4, [(3, none)]⟩
theorem IR_laws_szExpr : cfun Try.prog H_laws_szExpr Try.f59 = some R_laws_szExpr := by kernel_rfl
theorem EN_laws_szExpr {args : List Value} {h : Heap} {k : Value → Heap → Prop} (hargs : args.length = 2) (hw : B_laws_szExpr.wp Try.prog (retQ [(3, none)] k) (env0 args 4) h) : CallE Try.prog fn_laws_szExpr args h k := enter Try.func59 rfl IR_laws_szExpr hargs hw

def H_laws_szExprS : Hint := ⟨[(0, false), (1, false), (4, false), (5, false)], [[2]]⟩
def K12_1 : C := .seq (.pl <| .st (.ext 4 1) <|
    .st (.act none (.px (some 4) (.mv (.v 1)))) <|
    .st (.act none (.px (some 2) (.mv (.v 4)))) .done) (.ret)
@[simp] def W12_1 := @C.wpe _ _ K12_1.eq_1
def K12_2 : C := .pl <| .st (.ext 4 2) <|
    .st (.act none (.px (some 4) (.mv (.v 3)))) <|
    .st (.act none (.px (some 5) (.bin .add (.v 4) (.c (.int .i64 1))))) <|
    .st (.act none (.px (some 3) (.mv (.v 5)))) .done
@[simp] def W12_2 := @C.wpe _ _ K12_2.eq_1
def K12_3 : C := .seq (.pl <| .st (.ext 4 0) <|
    .st (.act none (.px (some 2) (.mv (.c (.int .i64 (-1)))))) .done) (.ret)
@[simp] def W12_3 := @C.wpe _ _ K12_3.eq_1
def K12_4 : C := .cond 4 (.v 5) K12_3 (.skip)
@[simp] def W12_4 := @C.wpe _ _ K12_4.eq_1
def K12_5 : C := .seq (.pl <| .st (.ext 4 2) <|
    .st (.act none (.px (some 4) (.mv (.v 1)))) <|
    .st (.act none (.px (some 5) (.bin .lss (.v 4) (.c (.int .i64 0))))) .done) K12_4
@[simp] def W12_5 := @C.wpe _ _ K12_5.eq_1
def K12_6 : Pl := .st (.act none (.px (some 1) (.mv (.v 9)))) .done
@[simp] def W12_6 := @Pl.wpe _ _ K12_6.eq_1
def K12_7 : C := .seq (.block 1 (.seq (.pl <| .st (.ext 4 6) <|
    .st (.act none (.px (some 4) (.mv (.v 0)))) <|
    .st (.act none (.px (some 5) (.mv (.v 3)))) <|
    .st (.act none (.px (some 6) (.ia 3 (.v 4) (.v 5)))) <|
    .st (.act none (.ld (some 7) (.v 6) (some 3))) <|
    .st (.act none (.px (some 8) (.mv (.v 1)))) <|
    .st (.act none (.ex (some 9) (.call fn_laws_szExpr [.v 7, .v 8]))) K12_6) K12_5)) K12_2
@[simp] def W12_7 := @C.wpe _ _ K12_7.eq_1
def K12_8 : C := .cond 4 (.v 7) (.skip) (.exit 0)
@[simp] def W12_8 := @C.wpe _ _ K12_8.eq_1
def K12_9 : C := .seq (.seq (.pl <| .st (.ext 4 4) <|
    .st (.act none (.px (some 4) (.mv (.v 3)))) <|
    .st (.act none (.px (some 5) (.mv (.v 0)))) <|
    .st (.act none (.px (some 6) (.lenV (.v 5)))) <|
    .st (.act none (.px (some 7) (.bin .lss (.v 4) (.v 6)))) .done) K12_8) K12_7
@[simp] def W12_9 := @C.wpe _ _ K12_9.eq_1
def K12_10 : C := .block 0 (.loop 4 [2] K12_9)
@[simp] def W12_10 := @C.wpe _ _ K12_10.eq_1
def K12_11 : C := .seq (.seq (.pl <| .st (.ext 4 0) <|
    .st (.act none (.px (some 3) (.mv (.c (.int .i64 0))))) .done) K12_10) K12_1
@[simp] def W12_11 := @C.wpe _ _ K12_11.eq_1
def K12_12 : C := .seq (.pl <| .st (.ext 4 0) <|
    .st (.act none (.px (some 2) (.mv (.c (.int .i64 (-1)))))) .done) (.ret)
@[simp] def W12_12 := @C.wpe _ _ K12_12.eq_1
def K12_13 : C := .cond 4 (.v 5) K12_12 (.skip)
@[simp] def W12_13 := @C.wpe _ _ K12_13.eq_1
def K12_14 : C := .seq (.seq (.pl <| .st (.ext 4 2) <|
    .st (.act none (.px (some 4) (.mv (.v 1)))) <|
    .st (.act none (.px (some 5) (.bin .lss (.v 4) (.c (.int .i64 0))))) .done) K12_13) K12_11
@[simp] def W12_14 := @C.wpe _ _ K12_14.eq_1
def K12_15 : C := .seq (.pl <| .st (.ext 4 4) <|
    .st (.act none (.px (some 4) (.mv (.v 1)))) <|
    .st (.act none (.px (some 5) (.mv (.v 0)))) <|
    .st (.act none (.px (some 6) (.lenV (.v 5)))) <|
    .st (.act none (.px (some 7) (.bin .sub (.v 4) (.v 6)))) <|
    .st (.act none (.px (some 1) (.mv (.v 7)))) .done) K12_14
@[simp] def W12_15 := @C.wpe _ _ K12_15.eq_1
def B_laws_szExprS : C := .seq (.pl <| .st (.ext 4 0) <|
    .st (.act none (.px (some 2) (.mv (.c (.int .i64 0))))) .done) K12_15
@[simp] def WB_laws_szExprS := @C.wpe _ _ B_laws_szExprS.eq_1
def R_laws_szExprS : FIR := ⟨B_laws_szExprS, 4, [(2, none)]⟩
theorem IR_laws_szExprS : cfun Try.prog H_laws_szExprS Try.f12 = some R_laws_szExprS := by kernel_rfl
theorem EN_laws_szExprS {args : List Value} {h : Heap} {k : Value → Heap → Prop} (hargs : args.length = 2) (hw : B_laws_szExprS.wp Try.prog (retQ [(2, none)] k) (env0 args 4) h) : CallE Try.prog fn_laws_szExprS args h k := enter Try.func12 rfl IR_laws_szExprS hargs hw

def H_laws_szIntS : Hint := ⟨[(0, false), (1, false), (4, false)], []⟩
def K57_1 : C := .seq (.pl <| .st (.ext 3 1) <|
    .st (.act none (.px (some 3) (.mv (.v 1)))) <|
    .st (.act none (.px (some 2) (.mv (.v 3)))) .done) (.ret)
@[simp] def W57_1 := @C.wpe _ _ K57_1.eq_1
def K57_2 : C := .seq (.pl <| .st (.ext 3 0) <|
    .st (.act none (.px (some 2) (.mv (.c (.int .i64 (-1)))))) .done) (.ret)
@[simp] def W57_2 := @C.wpe _ _ K57_2.eq_1
def K57_3 : C := .cond 3 (.v 4) K57_2 (.skip)
@[simp] def W57_3 := @C.wpe _ _ K57_3.eq_1
def K57_4 : C := .seq (.seq (.pl <| .st (.ext 3 2) <|
    .st (.act none (.px (some 3) (.mv (.v 1)))) <|
    .st (.act none (.px (some 4) (.bin .lss (.v 3) (.c (.int .i64 0))))) .done) K57_3) K57_1
@[simp] def W57_4 := @C.wpe _ _ K57_4.eq_1
def K57_5 : C := .seq (.pl <| .st (.ext 3 4) <|
    .st (.act none (.px (some 3) (.mv (.v 1)))) <|
    .st (.act none (.px (some 4) (.mv (.v 0)))) <|
    .st (.act none (.px (some 5) (.lenV (.v 4)))) <|
    .st (.act none (.px (some 6) (.bin .sub (.v 3) (.v 5)))) <|
    .st (.act none (.px (some 1) (.mv (.v 6)))) .done) K57_4
@[simp] def W57_5 := @C.wpe _ _ K57_5.eq_1
def B_laws_szIntS : C := .seq (.pl <| .st (.ext 3 0) <|
    .st (.act none (.px (some 2) (.mv (.c (.int .i64 0))))) .done) K57_5
@[simp] def WB_laws_szIntS := @C.wpe _ _ B_laws_szIntS.eq_1
def R_laws_szIntS : FIR := ⟨B_laws_szIntS, 3, [(2, none)]⟩
theorem IR_laws_szIntS : cfun Try.prog H_laws_szIntS Try.f57 = some R_laws_szIntS := by kernel_rfl
theorem EN_laws_szIntS {args : List Value} {h : Heap} {k : Value → Heap → Prop} (hargs : args.length = 2) (hw : B_laws_szIntS.wp Try.prog (retQ [(2, none)] k) (env0 args 3) h) : CallE Try.prog fn_laws_szIntS args h k := enter Try.func57 rfl IR_laws_szIntS hargs hw

def H_laws_toExpr : Hint := ⟨[(0, false), (1, true), (2, true), (3, true)], []⟩
def K65_1 : C := .seq (.pl <| .st (.ext 4 1) <|
    .st (.act none (.pget (some 4) none 3 0 (some 3))) <|
    .st (.act none (.pset none 2 0 3 (.v 4))) .done) (.ret)
@[simp] def W65_1 := @C.wpe _ _ K65_1.eq_1
def K65_2 : Pl := .st (.act none (.als 7 none 3)) <|
    .st (.act none (.pset (some 7) 3 2 1 (.v 6))) .done
@[simp] def W65_2 := @Pl.wpe _ _ K65_2.eq_1
def K65_3 : C := .seq (.pl <| .st (.ext 4 4) <|
    .st (.act none (.als 4 none 1)) <|
    .st (.act none (.pget (some 5) (some 4) 1 2 none)) <|
    .st (.act none (.ex (some 6) (.call fn_laws_toExprS [.v 5]))) K65_2) K65_1
@[simp] def W65_3 := @C.wpe _ _ K65_3.eq_1
def K65_4 : C := .seq (.pl <| .st (.ext 4 3) <|
    .st (.act none (.als 4 none 1)) <|
    .st (.act none (.pget (some 5) (some 4) 1 1 none)) <|
    .st (.act none (.als 6 none 3)) <|
    .st (.act none (.pset (some 6) 3 1 1 (.v 5))) .done) K65_3
@[simp] def W65_4 := @C.wpe _ _ K65_4.eq_1
def K65_5 : C := .seq (.pl <| .st (.ext 4 3) <|
    .st (.act none (.als 4 none 1)) <|
    .st (.act none (.pget (some 5) (some 4) 1 0 none)) <|
    .st (.act none (.als 6 none 3)) <|
    .st (.act none (.pset (some 6) 3 0 1 (.v 5))) .done) K65_4
@[simp] def W65_5 := @C.wpe _ _ K65_5.eq_1
def K65_6 : C := .seq (.pl <| .st (.ext 4 0) <|
    .st (.act none (.pnew 3 (.c (.agg #[.int .i64 0, .int .i64 0, .slice none 0 0])) [])) .done) K65_5
@[simp] def W65_6 := @C.wpe _ _ K65_6.eq_1
def B_laws_toExpr : C := .seq (.pl <| .st (.ext 4 0) <|
    .st (.act none (.pnew 1 (.v 0) [])) <|
    .st (.act none (.pnew 2 (.c (.agg #[.int .i64 0, .int .i64 0, .slice none 0 0])) [])) .done) K65_6
@[simp] def WB_laws_toExpr := @C.wpe _ _ B_laws_toExpr.eq_1
def R_laws_toExpr : FIR := ⟨B_laws_toExpr, 4, [(2, some (some 3))]⟩
theorem IR_laws_toExpr : cfun Try.prog H_laws_toExpr Try.f65 = some R_laws_toExpr := by kernel_rfl
theorem EN_laws_toExpr {args : List Value} {h : Heap} {k : Value → Heap → Prop} (hargs : args.length = 1) (hw : B_laws_toExpr.wp Try.prog (retQ [(2, some (some 3))] k) (env0 args 4) h) : CallE Try.prog fn_laws_toExpr args h k := enter Try.func65 rfl IR_laws_toExpr hargs hw

def H_laws_toExprS : Hint := ⟨[(0, false), (2, false), (3, false), (4, false)], [[1]]⟩
def K15_1 : C := .seq (.pl <| .st (.ext 4 1) <|
    .st (.act none (.px (some 4) (.mv (.v 2)))) <|
    .st (.act none (.px (some 1) (.mv (.v 4)))) .done) (.ret)
@[simp] def W15_1 := @C.wpe _ _ K15_1.eq_1
def K15_2 : C := .pl <| .st (.ext 4 2) <|
    .st (.act none (.px (some 4) (.mv (.v 3)))) <|
    .st (.act none (.px (some 5) (.bin .add (.v 4) (.c (.int .i64 1))))) <|
    .st (.act none (.px (some 3) (.mv (.v 5)))) .done
@[simp] def W15_2 := @C.wpe _ _ K15_2.eq_1
def K15_3 : Pl := .st (.act none (.px (some 11) (.ia 3 (.v 4) (.v 5)))) <|
    .st (.act none (.ex none (.store 3 (.v 11) (.v 10)))) .done
@[simp] def W15_3 := @Pl.wpe _ _ K15_3.eq_1
def K15_4 : C := .seq (.block 1 (.pl <| .st (.ext 4 8) <|
    .st (.act none (.px (some 4) (.mv (.v 2)))) <|
    .st (.act none (.px (some 5) (.mv (.v 3)))) <|
    .st (.act none (.px (some 6) (.mv (.v 0)))) <|
    .st (.act none (.px (some 7) (.mv (.v 3)))) <|
    .st (.act none (.px (some 8) (.ia 3 (.v 6) (.v 7)))) <|
    .st (.act none (.ld (some 9) (.v 8) (some 3))) <|
    .st (.act none (.ex (some 10) (.call fn_laws_toExpr [.v 9]))) K15_3)) K15_2
@[simp] def W15_4 := @C.wpe _ _ K15_4.eq_1
def K15_5 : C := .cond 4 (.v 7) (.skip) (.exit 0)
@[simp] def W15_5 := @C.wpe _ _ K15_5.eq_1
def K15_6 : C := .seq (.seq (.pl <| .st (.ext 4 4) <|
    .st (.act none (.px (some 4) (.mv (.v 3)))) <|
    .st (.act none (.px (some 5) (.mv (.v 0)))) <|
    .st (.act none (.px (some 6) (.lenV (.v 5)))) <|
    .st (.act none (.px (some 7) (.bin .lss (.v 4) (.v 6)))) .done) K15_5) K15_4
@[simp] def W15_6 := @C.wpe _ _ K15_6.eq_1
def K15_7 : C := .block 0 (.loop 4 [1] K15_6)
@[simp] def W15_7 := @C.wpe _ _ K15_7.eq_1
def K15_8 : C := .seq (.seq (.pl <| .st (.ext 4 0) <|
    .st (.act none (.px (some 3) (.mv (.c (.int .i64 0))))) .done) K15_7) K15_1
@[simp] def W15_8 := @C.wpe _ _ K15_8.eq_1
def K15_9 : Pl := .st (.act none (.px (some 2) (.mv (.v 6)))) .done
@[simp] def W15_9 := @Pl.wpe _ _ K15_9.eq_1
def K15_10 : C := .seq (.pl <| .st (.ext 4 3) <|
    .st (.act none (.px (some 4) (.mv (.v 0)))) <|
    .st (.act none (.px (some 5) (.lenV (.v 4)))) <|
    .st (.act none (.ex (some 6) (.mks 40 3 [.int .i64 0, .int .i64 0, .slice none 0 0] (.v 5) (.v 5)))) K15_9) K15_8
@[simp] def W15_10 := @C.wpe _ _ K15_10.eq_1
def B_laws_toExprS : C := .seq (.pl <| .st (.ext 4 0) <|
    .st (.act none (.px (some 1) (.mv (.c (.slice none 0 0))))) .done) K15_10
@[simp] def WB_laws_toExprS := @C.wpe _ _ B_laws_toExprS.eq_1
def R_laws_toExprS : FIR := ⟨B_laws_toExprS, 4, [(1, none)]⟩
theorem IR_laws_toExprS : cfun Try.prog H_laws_toExprS Try.f15 = some R_laws_toExprS := by kernel_rfl
theorem EN_laws_toExprS {args : List Value} {h : Heap} {k : Value → Heap → Prop} (hargs : args.length = 1) (hw : B_laws_toExprS.wp Try.prog (retQ [(1, none)] k) (env0 args 4) h) : CallE Try.prog fn_laws_toExprS args h k := enter Try.func15 rfl IR_laws_toExprS hargs hw

def H_laws_toIntS : Hint := ⟨[(0, false), (2, false), (3, false), (4, false)], [[1]]⟩
def K63_1 : C := .seq (.pl <| .st (.ext 4 1) <|
    .st (.act none (.px (some 4) (.mv (.v 2)))) <|
    .st (.act none (.px (some 1) (.mv (.v 4)))) .done) (.ret)
@[simp] def W63_1 := @C.wpe _ _ K63_1.eq_1
def K63_2 : C := .pl <| .st (.ext 4 2) <|
    .st (.act none (.px (some 4) (.mv (.v 3)))) <|
    .st (.act none (.px (some 5) (.bin .add (.v 4) (.c (.int .i64 1))))) <|
    .st (.act none (.px (some 3) (.mv (.v 5)))) .done
@[simp] def W63_2 := @C.wpe _ _ K63_2.eq_1
def K63_3 : C := .seq (.block 1 (.pl <| .st (.ext 4 7) <|
    .st (.act none (.px (some 4) (.mv (.v 2)))) <|
    .st (.act none (.px (some 5) (.mv (.v 3)))) <|
    .st (.act none (.px (some 6) (.mv (.v 0)))) <|
    .st (.act none (.px (some 7) (.mv (.v 3)))) <|
    .st (.act none (.px (some 8) (.ia 1 (.v 6) (.v 7)))) <|
    .st (.act none (.ld (some 9) (.v 8) none)) <|
    .st (.act none (.px (some 10) (.ia 1 (.v 4) (.v 5)))) <|
    .st (.act none (.ex none (.store 1 (.v 10) (.v 9)))) .done)) K63_2
@[simp] def W63_3 := @C.wpe _ _ K63_3.eq_1
def K63_4 : C := .cond 4 (.v 7) (.skip) (.exit 0)
@[simp] def W63_4 := @C.wpe _ _ K63_4.eq_1
def K63_5 : C := .seq (.seq (.pl <| .st (.ext 4 4) <|
    .st (.act none (.px (some 4) (.mv (.v 3)))) <|
    .st (.act none (.px (some 5) (.mv (.v 0)))) <|
    .st (.act none (.px (some 6) (.lenV (.v 5)))) <|
    .st (.act none (.px (some 7) (.bin .lss (.v 4) (.v 6)))) .done) K63_4) K63_3
@[simp] def W63_5 := @C.wpe _ _ K63_5.eq_1
def K63_6 : C := .block 0 (.loop 4 [1] K63_5)
@[simp] def W63_6 := @C.wpe _ _ K63_6.eq_1
def K63_7 : C := .seq (.seq (.pl <| .st (.ext 4 0) <|
    .st (.act none (.px (some 3) (.mv (.c (.int .i64 0))))) .done) K63_6) K63_1
@[simp] def W63_7 := @C.wpe _ _ K63_7.eq_1
def K63_8 : Pl := .st (.act none (.px (some 2) (.mv (.v 6)))) .done
@[simp] def W63_8 := @Pl.wpe _ _ K63_8.eq_1
def K63_9 : C := .seq (.pl <| .st (.ext 4 3) <|
    .st (.act none (.px (some 4) (.mv (.v 0)))) <|
    .st (.act none (.px (some 5) (.lenV (.v 4)))) <|
    .st (.act none (.ex (some 6) (.mks 8 1 [.int .i64 0] (.v 5) (.v 5)))) K63_8) K63_7
@[simp] def W63_9 := @C.wpe _ _ K63_9.eq_1
def B_laws_toIntS : C := .seq (.pl <| .st (.ext 4 0) <|
    .st (.act none (.px (some 1) (.mv (.c (.slice none 0 0))))) .done) K63_9
@[simp] def WB_laws_toIntS := @C.wpe _ _ B_laws_toIntS.eq_1
def R_laws_toIntS : FIR := ⟨B_laws_toIntS, 4, [(1, none)]⟩
theorem IR_laws_toIntS : cfun Try.prog H_laws_toIntS Try.f63 = some R_laws_toIntS := by kernel_rfl
theorem EN_laws_toIntS {args : List Value} {h : Heap} {k : Value → Heap → Prop} (hargs : args.length = 1) (hw : B_laws_toIntS.wp Try.prog (retQ [(1, none)] k) (env0 args 4) h) : CallE Try.prog fn_laws_toIntS args h k := enter Try.func63 rfl IR_laws_toIntS hargs hw


end Go.Proofs.Ythgimpheeemooaa
