/-
  Bodies of functions in the small language, as a program printed them, and that each is what the translation gives.
-/
import Derived.Test.YthgimpheeemooaaI1
namespace Go.Proofs.Ythgimpheeemooaa
open Go
set_option linter.all false
set_option linter.defProp false
set_option maxRecDepth 1000000

def H_laws_eqEdgeS : Hint := ⟨[(0, false), (1, false), (4, false), (5, false)], [[2]]⟩
def K159_1 : C := .seq (.pl <| .st (.ext 4 0) <|
    .st (.act none (.px (some 2) (.mv (.c (.bool true))))) .done) (.ret)
@[simp] def W159_1 := @C.wpe _ _ K159_1.eq_1
def K159_2 : C := .pl <| .st (.ext 4 2) <|
    .st (.act none (.px (some 4) (.mv (.v 3)))) <|
    .st (.act none (.px (some 5) (.bin .add (.v 4) (.c (.int .i64 1))))) <|
    .st (.act none (.px (some 3) (.mv (.v 5)))) .done
@[simp] def W159_2 := @C.wpe _ _ K159_2.eq_1
def K159_3 : C := .seq (.pl <| .st (.ext 4 0) <|
    .st (.act none (.px (some 2) (.mv (.c (.bool false))))) .done) (.ret)
@[simp] def W159_3 := @C.wpe _ _ K159_3.eq_1
def K159_4 : C := .cond 4 (.v 13) K159_3 (.skip)
@[simp] def W159_4 := @C.wpe _ _ K159_4.eq_1
def K159_5 : Pl := .st (.act none (.px (some 13) (.un .not (.v 12)))) .done
@[simp] def W159_5 := @Pl.wpe _ _ K159_5.eq_1
def K159_6 : C := .seq (.block 1 (.seq (.pl <| .st (.ext 4 10) <|
    .st (.act none (.px (some 4) (.mv (.v 0)))) <|
    .st (.act none (.px (some 5) (.mv (.v 3)))) <|
    .st (.act none (.px (some 6) (.ia 10 (.v 4) (.v 5)))) <|
    .st (.act none (.ld (some 7) (.v 6) (some 10))) <|
    .st (.act none (.px (some 8) (.mv (.v 1)))) <|
    .st (.act none (.px (some 9) (.mv (.v 3)))) <|
    .st (.act none (.px (some 10) (.ia 10 (.v 8) (.v 9)))) <|
    .st (.act none (.ld (some 11) (.v 10) (some 10))) <|
    .st (.act none (.ex (some 12) (.call fn_laws_eqEdge [.v 7, .v 11]))) K159_5) K159_4)) K159_2
@[simp] def W159_6 := @C.wpe _ _ K159_6.eq_1
def K159_7 : C := .cond 4 (.v 7) (.skip) (.exit 0)
@[simp] def W159_7 := @C.wpe _ _ K159_7.eq_1
def K159_8 : C := .seq (.seq (.pl <| .st (.ext 4 4) <|
    .st (.act none (.px (some 4) (.mv (.v 3)))) <|
    .st (.act none (.px (some 5) (.mv (.v 0)))) <|
    .st (.act none (.px (some 6) (.lenV (.v 5)))) <|
    .st (.act none (.px (some 7) (.bin .lss (.v 4) (.v 6)))) .done) K159_7) K159_6
@[simp] def W159_8 := @C.wpe _ _ K159_8.eq_1
def K159_9 : C := .block 0 (.loop 4 [2] K159_8)
@[simp] def W159_9 := @C.wpe _ _ K159_9.eq_1
def K159_10 : C := .seq (.seq (.pl <| .st (.ext 4 0) <|
    .st (.act none (.px (some 3) (.mv (.c (.int .i64 0))))) .done) K159_9) K159_1
@[simp] def W159_10 := @C.wpe _ _ K159_10.eq_1
def K159_11 : C := .seq (.pl <| .st (.ext 4 0) <|
    .st (.act none (.px (some 2) (.mv (.c (.bool false))))) .done) (.ret)
@[simp] def W159_11 := @C.wpe _ _ K159_11.eq_1
def K159_12 : C := .cond 4 (.v 8) K159_11 (.skip)
@[simp] def W159_12 := @C.wpe _ _ K159_12.eq_1
def K159_13 : C := .seq (.seq (.pl <| .st (.ext 4 5) <|
    .st (.act none (.px (some 4) (.mv (.v 0)))) <|
    .st (.act none (.px (some 5) (.lenV (.v 4)))) <|
    .st (.act none (.px (some 6) (.mv (.v 1)))) <|
    .st (.act none (.px (some 7) (.lenV (.v 6)))) <|
    .st (.act none (.px (some 8) (.bin .neq (.v 5) (.v 7)))) .done) K159_12) K159_10
@[simp] def W159_13 := @C.wpe _ _ K159_13.eq_1
def B_laws_eqEdgeS : C := .seq (.pl <| .st (.ext 4 0) <|
    .st (.act none (.px (some 2) (.mv (.c (.bool false))))) .done) K159_13
@[simp] def WB_laws_eqEdgeS := @C.wpe _ _ B_laws_eqEdgeS.eq_1
def R_laws_eqEdgeS : FIR := ⟨B_laws_eqEdgeS, 4, [(2, none)]⟩
theorem IR_laws_eqEdgeS : cfun Try.prog H_laws_eqEdgeS Try.f159 = some R_laws_eqEdgeS := by kernel_rfl
theorem EN_laws_eqEdgeS {args : List Value} {h : Heap} {k : Value → Heap → Prop} (hargs : args.length = 2) (hw : B_laws_eqEdgeS.wp Try.prog (retQ [(2, none)] k) (env0 args 4) h) : CallE Try.prog fn_laws_eqEdgeS args h k := enter Try.func159 rfl IR_laws_eqEdgeS hargs hw

def H_laws_eqExpr : Hint := ⟨[(0, false), (1, false), (2, true), (3, true), (4, false)], []⟩
def K69_1 : C := .seq (.pl <| .st (.ext 5 0) <|
    .st (.act none (.px (some 4) (.mv (.c (.bool true))))) .done) (.ret)
@[simp] def W69_1 := @C.wpe _ _ K69_1.eq_1
def K69_2 : C := .seq (.pl <| .st (.ext 5 0) <|
    .st (.act none (.px (some 4) (.mv (.c (.bool false))))) .done) (.ret)
@[simp] def W69_2 := @C.wpe _ _ K69_2.eq_1
def K69_3 : C := .cond 5 (.v 10) K69_2 (.skip)
@[simp] def W69_3 := @C.wpe _ _ K69_3.eq_1
def K69_4 : Pl := .st (.act none (.px (some 10) (.un .not (.v 9)))) .done
@[simp] def W69_4 := @Pl.wpe _ _ K69_4.eq_1
def K69_5 : C := .seq (.seq (.pl <| .st (.ext 5 6) <|
    .st (.act none (.als 5 none 2)) <|
    .st (.act none (.pget (some 6) (some 5) 2 2 none)) <|
    .st (.act none (.als 7 none 3)) <|
    .st (.act none (.pget (some 8) (some 7) 3 2 none)) <|
    .st (.act none (.ex (some 9) (.call fn_laws_eqExprS [.v 6, .v 8]))) K69_4) K69_3) K69_1
@[simp] def W69_5 := @C.wpe _ _ K69_5.eq_1
def K69_6 : C := .seq (.pl <| .st (.ext 5 0) <|
    .st (.act none (.px (some 4) (.mv (.c (.bool false))))) .done) (.ret)
@[simp] def W69_6 := @C.wpe _ _ K69_6.eq_1
def K69_7 : C := .cond 5 (.v 9) K69_6 (.skip)
@[simp] def W69_7 := @C.wpe _ _ K69_7.eq_1
def K69_8 : C := .seq (.seq (.pl <| .st (.ext 5 5) <|
    .st (.act none (.als 5 none 2)) <|
    .st (.act none (.pget (some 6) (some 5) 2 1 none)) <|
    .st (.act none (.als 7 none 3)) <|
    .st (.act none (.pget (some 8) (some 7) 3 1 none)) <|
    .st (.act none (.px (some 9) (.bin .neq (.v 6) (.v 8)))) .done) K69_7) K69_5
@[simp] def W69_8 := @C.wpe _ _ K69_8.eq_1
def K69_9 : C := .seq (.pl <| .st (.ext 5 0) <|
    .st (.act none (.px (some 4) (.mv (.c (.bool false))))) .done) (.ret)
@[simp] def W69_9 := @C.wpe _ _ K69_9.eq_1
def K69_10 : C := .cond 5 (.v 9) K69_9 (.skip)
@[simp] def W69_10 := @C.wpe _ _ K69_10.eq_1
def K69_11 : C := .seq (.seq (.pl <| .st (.ext 5 5) <|
    .st (.act none (.als 5 none 2)) <|
    .st (.act none (.pget (some 6) (some 5) 2 0 none)) <|
    .st (.act none (.als 7 none 3)) <|
    .st (.act none (.pget (some 8) (some 7) 3 0 none)) <|
    .st (.act none (.px (some 9) (.bin .neq (.v 6) (.v 8)))) .done) K69_10) K69_8
@[simp] def W69_11 := @C.wpe _ _ K69_11.eq_1
def B_laws_eqExpr : C := .seq (.pl <| .st (.ext 5 0) <|
    .st (.act none (.pnew 2 (.v 0) [])) <|
    .st (.act none (.pnew 3 (.v 1) [])) <|
    .st (.act none (.px (some 4) (.mv (.c (.bool false))))) .done) K69_11
@[simp] def WB_laws_eqExpr := @C.wpe _ _ B_laws_eqExpr.eq_1
def R_laws_eqExpr : FIR := ⟨B_laws_eqExpr, 5, [(4, none)]⟩
theorem IR_laws_eqExpr : cfun Try.prog H_laws_eqExpr Try.f69 = some R_laws_eqExpr := by kernel_rfl
theorem EN_laws_eqExpr {args : List Value} {h : Heap} {k : Value → Heap → Prop} (hargs : args.length = 2) (hw : B_laws_eqExpr.wp Try.prog (retQ [(4, none)] k) (env0 args 5) h) : CallE Try.prog fn_laws_eqExpr args h k := enter Try.func69 rfl IR_laws_eqExpr hargs hw

def H_laws_eqExprS : Hint := ⟨[(0, false), (1, false), (4, false), (5, false)], [[2]]⟩
def K19_1 : C := .seq (.pl <| .st (.ext 4 0) <|
    .st (.act none (.px (some 2) (.mv (.c (.bool true))))) .done) (.ret)
@[simp] def W19_1 := @C.wpe _ _ K19_1.eq_1
def K19_2 : C := .pl <| .st (.ext 4 2) <|
    .st (.act none (.px (some 4) (.mv (.v 3)))) <|
    .st (.act none (.px (some 5) (.bin .add (.v 4) (.c (.int .i64 1))))) <|
    .st (.act none (.px (some 3) (.mv (.v 5)))) .done
@[simp] def W19_2 := @C.wpe _ _ K19_2.eq_1
def K19_3 : C := .seq (.pl <| .st (.ext 4 0) <|
    .st (.act none (.px (some 2) (.mv (.c (.bool false))))) .done) (.ret)
@[simp] def W19_3 := @C.wpe _ _ K19_3.eq_1
def K19_4 : C := .cond 4 (.v 13) K19_3 (.skip)
@[simp] def W19_4 := @C.wpe _ _ K19_4.eq_1
def K19_5 : Pl := .st (.act none (.px (some 13) (.un .not (.v 12)))) .done
@[simp] def W19_5 := @Pl.wpe _ _ K19_5.eq_1
def K19_6 : C := .seq (.block 1 (.seq (.pl <| .st (.ext 4 10) <|
    .st (.act none (.px (some 4) (.mv (.v 0)))) <|
    .st (.act none (.px (some 5) (.mv (.v 3)))) <|
    .st (.act none (.px (some 6) (.ia 3 (.v 4) (.v 5)))) <|
    .st (.act none (.ld (some 7) (.v 6) (some 3))) <|
    .st (.act none (.px (some 8) (.mv (.v 1)))) <|
    .st (.act none (.px (some 9) (.mv (.v 3)))) <|
    .st (.act none (.px (some 10) (.ia 3 (.v 8) (.v 9)))) <|
    .st (.act none (.ld (some 11) (.v 10) (some 3))) <|
    .st (.act none (.ex (some 12) (.call fn_laws_eqExpr [.v 7, .v 11]))) K19_5) K19_4)) K19_2
@[simp] def W19_6 := @C.wpe _ _ K19_6.eq_1
def K19_7 : C := .cond 4 (.v 7) (.skip) (.exit 0)
@[simp] def W19_7 := @C.wpe _ _ K19_7.eq_1
def K19_8 : C := .seq (.seq (.pl <| .st (.ext 4 4) <|
    .st (.act none (.px (some 4) (.mv (.v 3)))) <|
    .st (.act none (.px (some 5) (.mv (.v 0)))) <|
    .st (.act none (.px (some 6) (.lenV (.v 5)))) <|
    .st (.act none (.px (some 7) (.bin .lss (.v 4) (.v 6)))) .done) K19_7) K19_6
@[simp] def W19_8 := @C.wpe _ _ K19_8.eq_1
def K19_9 : C := .block 0 (.loop 4 [2] K19_8)
@[simp] def W19_9 := @C.wpe _ _ K19_9.eq_1
def K19_10 : C := .seq (.seq (.pl <| .st (.ext 4 0) <|
    .st (.act none (.px (some 3) (.mv (.c (.int .i64 0))))) .done) K19_9) K19_1
@[simp] def W19_10 := @C.wpe _ _ K19_10.eq_1
def K19_11 : C := .seq (.pl <| .st (.ext 4 0) <|
    .st (.act none (.px (some 2) (.mv (.c (.bool false))))) .done) (.ret)
@[simp] def W19_11 := @C.wpe _ _ K19_11.eq_1
def K19_12 : C := .cond 4 (.v 8) K19_11 (.skip)
@[simp] def W19_12 := @C.wpe _ _ K19_12.eq_1
def K19_13 : C := .seq (.seq (.pl <| .st (.ext 4 5) <|
    .st (.act none (.px (some 4) (.mv (.v 0)))) <|
    .st (.act none (.px (some 5) (.lenV (.v 4)))) <|
    .st (.act none (.px (some 6) (.mv (.v 1)))) <|
    .st (.act none (.px (some 7) (.lenV (.v 6)))) <|
    .st (.act none (.px (some 8) (.bin .neq (.v 5) (.v 7)))) .done) K19_12) K19_10
@[simp] def W19_13 := @C.wpe _ _ K19_13.eq_1
def B_laws_eqExprS : C := .seq (.pl <| .st (.ext 4 0) <|
    .st (.act none (.px (some 2) (.mv (.c (.bool false))))) .done) K19_13
@[simp] def WB_laws_eqExprS := @C.wpe _ _ B_laws_eqExprS.eq_1
def R_laws_eqExprS : FIR := ⟨B_laws_eqExprS, 4, [(2, none)]⟩
theorem IR_laws_eqExprS : cfun Try.prog H_laws_eqExprS Try.f19 = some R_laws_eqExprS := by kernel_rfl
theorem EN_laws_eqExprS {args : List Value} {h : Heap} {k : Value → Heap → Prop} (hargs : args.length = 2) (hw : B_laws_eqExprS.wp Try.prog (retQ [(2, none)] k) (env0 args 4) h) : CallE Try.prog fn_laws_eqExprS args h k := enter Try.func19 rfl IR_laws_eqExprS hargs hw

def H_laws_eqIntS : Hint := ⟨[(0, false), (1, false), (4, false), (5, false)], [[2]]⟩
def K28_1 : C := .seq (.pl <| .st (.ext 4 0) <|
    .st (.act none (.px (some 2) (.mv (.c (.bool true))))) .done) (.ret)
@[simp] def W28_1 := @C.wpe _ _ K28_1.eq_1
def K28_2 : C := .pl <| .st (.ext 4 2) <|
    .st (.act none (.px (some 4) (.mv (.v 3)))) <|
    .st (.act none (.px (some 5) (.bin .add (.v 4) (.c (.int .i64 1))))) <|
    .st (.act none (.px (some 3) (.mv (.v 5)))) .done
@[simp] def W28_2 := @C.wpe _ _ K28_2.eq_1
def K28_3 : C := .seq (.pl <| .st (.ext 4 0) <|
    .st (.act none (.px (some 2) (.mv (.c (.bool false))))) .done) (.ret)
@[simp] def W28_3 := @C.wpe _ _ K28_3.eq_1
def K28_4 : C := .cond 4 (.v 12) K28_3 (.skip)
@[simp] def W28_4 := @C.wpe _ _ K28_4.eq_1
def K28_5 : C := .seq (.block 1 (.seq (.pl <| .st (.ext 4 9) <|
    .st (.act none (.px (some 4) (.mv (.v 0)))) <|
    .st (.act none (.px (some 5) (.mv (.v 3)))) <|
    .st (.act none (.px (some 6) (.ia 1 (.v 4) (.v 5)))) <|
    .st (.act none (.ld (some 7) (.v 6) none)) <|
    .st (.act none (.px (some 8) (.mv (.v 1)))) <|
    .st (.act none (.px (some 9) (.mv (.v 3)))) <|
    .st (.act none (.px (some 10) (.ia 1 (.v 8) (.v 9)))) <|
    .st (.act none (.ld (some 11) (.v 10) none)) <|
    .st (.act none (.px (some 12) (.bin .neq (.v 7) (.v 11)))) .done) K28_4)) K28_2
@[simp] def W28_5 := @C.wpe _ _ K28_5.eq_1
def K28_6 : C := .cond 4 (.v 7) (.skip) (.exit 0)
@[simp] def W28_6 := @C.wpe _ _ K28_6.eq_1
def K28_7 : C := .seq (.seq (.pl <| .st (.ext 4 4) <|
    .st (.act none (.px (some 4) (.mv (.v 3)))) <|
    .st (.act none (.px (some 5) (.mv (.v 0)))) <|
    .st (.act none (.px (some 6) (.lenV (.v 5)))) <|
    .st (.act none (.px (some 7) (.bin .lss (.v 4) (.v 6)))) .done) K28_6) K28_5
@[simp] def W28_7 := @C.wpe _ _ K28_7.eq_1
def K28_8 : C := .block 0 (.loop 4 [2] K28_7)
@[simp] def W28_8 := @C.wpe _ _ K28_8.eq_1
def K28_9 : C := .seq (.seq (.pl <| .st (.ext 4 0) <|
    .st (.act none (.px (some 3) (.mv (.c (.int .i64 0))))) .done) K28_8) K28_1
@[simp] def W28_9 := @C.wpe _ _ K28_9.eq_1
def K28_10 : C := .seq (.pl <| .st (.ext 4 0) <|
    .st (.act none (.px (some 2) (.mv (.c (.bool false))))) .done) (.ret)
@[simp] def W28_10 := @C.wpe _ _ K28_10.eq_1
def K28_11 : C := .cond 4 (.v 8) K28_10 (.skip)
@[simp] def W28_11 := @C.wpe _ _ K28_11.eq_1
def K28_12 : C := .seq (.seq (.pl <| .st (.ext 4 5) <|
    .st (.act none (.px (some 4) (.mv (.v 0)))) <|
    .st (.act none (.px (some 5) (.lenV (.v 4)))) <|
    .st (.act none (.px (some 6) (.mv (.v 1)))) <|
    .st (.act none (.px (some 7) (.lenV (.v 6)))) <|
    .st (.act none (.px (some 8) (.bin .neq (.v 5) (.v 7)))) .done) K28_11) K28_9
@[simp] def W28_12 := @C.wpe _ _ K28_12.eq_1
def B_laws_eqIntS : C := .seq (.pl <| .st (.ext 4 0) <|
    .st (.act none (.px (some 2) (.mv (.c (.bool false))))) .done) K28_12
@[simp] def WB_laws_eqIntS := @C.wpe _ _ B_laws_eqIntS.eq_1
def R_laws_eqIntS : FIR := ⟨B_laws_eqIntS, 4, [(2, none)]⟩
theorem IR_laws_eqIntS : cfun Try.prog H_laws_eqIntS Try.f28 = some R_laws_eqIntS := by kernel_rfl
theorem EN_laws_eqIntS {args : List Value} {h : Heap} {k : Value → Heap → Prop} (hargs : args.length = 2) (hw : B_laws_eqIntS.wp Try.prog (retQ [(2, none)] k) (env0 args 4) h) : CallE Try.prog fn_laws_eqIntS args h k := enter Try.func28 rfl IR_laws_eqIntS hargs hw

def H_laws_eqProcess : Hint := ⟨[(0, false), (1, false), (2, true), (3, true), (4, false)], []⟩
def K121_1 : C := .seq (.pl <| .st (.ext 5 0) <|
    .st (.act none (.px (some 4) (.mv (.c (.bool true))))) .done) (.ret)
@[simp] def W121_1 := @C.wpe _ _ K121_1.eq_1
def K121_2 : C := .seq (.pl <| .st (.ext 5 0) <|
    .st (.act none (.px (some 4) (.mv (.c (.bool false))))) .done) (.ret)
@[simp] def W121_2 := @C.wpe _ _ K121_2.eq_1
def K121_3 : C := .cond 5 (.v 10) K121_2 (.skip)
@[simp] def W121_3 := @C.wpe _ _ K121_3.eq_1
def K121_4 : Pl := .st (.act none (.px (some 10) (.un .not (.v 9)))) .done
@[simp] def W121_4 := @Pl.wpe _ _ K121_4.eq_1
def K121_5 : C := .seq (.seq (.pl <| .st (.ext 5 6) <|
    .st (.act none (.als 5 none 2)) <|
    .st (.act none (.pget (some 6) (some 5) 2 1 none)) <|
    .st (.act none (.als 7 none 3)) <|
    .st (.act none (.pget (some 8) (some 7) 3 1 none)) <|
    .st (.act none (.ex (some 9) (.call fn_laws_eqEdgeS [.v 6, .v 8]))) K121_4) K121_3) K121_1
@[simp] def W121_5 := @C.wpe _ _ K121_5.eq_1
def K121_6 : C := .seq (.pl <| .st (.ext 5 0) <|
    .st (.act none (.px (some 4) (.mv (.c (.bool false))))) .done) (.ret)
@[simp] def W121_6 := @C.wpe _ _ K121_6.eq_1
def K121_7 : C := .cond 5 (.v 9) K121_6 (.skip)
@[simp] def W121_7 := @C.wpe _ _ K121_7.eq_1
def K121_8 : C := .seq (.seq (.pl <| .st (.ext 5 5) <|
    .st (.act none (.als 5 none 2)) <|
    .st (.act none (.pget (some 6) (some 5) 2 0 none)) <|
    .st (.act none (.als 7 none 3)) <|
    .st (.act none (.pget (some 8) (some 7) 3 0 none)) <|
    .st (.act none (.px (some 9) (.bin .neq (.v 6) (.v 8)))) .done) K121_7) K121_5
@[simp] def W121_8 := @C.wpe _ _ K121_8.eq_1
def B_laws_eqProcess : C := .seq (.pl <| .st (.ext 5 0) <|
    .st (.act none (.pnew 2 (.v 0) [])) <|
    .st (.act none (.pnew 3 (.v 1) [])) <|
    .st (.act none (.px (some 4) (.mv (.c (.bool false))))) .done) K121_8
@[simp] def WB_laws_eqProcess := @C.wpe _ _ B_laws_eqProcess.eq_1
def R_laws_eqProcess : FIR := ⟨B_laws_eqProcess, 5, [(4, none)]⟩
theorem IR_laws_eqProcess : cfun Try.prog H_laws_eqProcess Try.f121 = some R_laws_eqProcess := by kernel_rfl
theorem EN_laws_eqProcess {args : List Value} {h : Heap} {k : Value → Heap → Prop} (hargs : args.length = 2) (hw : B_laws_eqProcess.wp Try.prog (retQ [(4, none)] k) (env0 args 5) h) : CallE Try.prog fn_laws_eqProcess args h k := enter Try.func121 rfl IR_laws_eqProcess hargs hw

def H_laws_eqProcessS : Hint := ⟨[(0, false), (1, false), (4, false), (5, false)], [[2]]⟩
def K68_1 : C := .seq (.pl <| .st (.ext 4 0) <|
    .st (.act none (.px (some 2) (.mv (.c (.bool true))))) .done) (.ret)
@[simp] def W68_1 := @C.wpe _ _ K68_1.eq_1
def K68_2 : C := .pl <| .st (.ext 4 2) <|
    .st (.act none (.px (some 4) (.mv (.v 3)))) <|
    .st (.act none (.px (some 5) (.bin .add (.v 4) (.c (.int .i64 1))))) <|
    .st (.act none (.px (some 3) (.mv (.v 5)))) .done
@[simp] def W68_2 := @C.wpe _ _ K68_2.eq_1
def K68_3 : C := .seq (.pl <| .st (.ext 4 0) <|
    .st (.act none (.px (some 2) (.mv (.c (.bool false))))) .done) (.ret)
@[simp] def W68_3 := @C.wpe _ _ K68_3.eq_1
def K68_4 : C := .cond 4 (.v 13) K68_3 (.skip)
@[simp] def W68_4 := @C.wpe _ _ K68_4.eq_1
def K68_5 : Pl := .st (.act none (.px (some 13) (.un .not (.v 12)))) .done
@[simp] def W68_5 := @Pl.wpe _ _ K68_5.eq_1
def K68_6 : C := .seq (.block 1 (.seq (.pl <| .st (.ext 4 10) <|
    .st (.act none (.px (some 4) (.mv (.v 0)))) <|
    .st (.act none (.px (some 5) (.mv (.v 3)))) <|
    .st (.act none (.px (some 6) (.ia 2 (.v 4) (.v 5)))) <|
    .st (.act none (.ld (some 7) (.v 6) (some 2))) <|
    .st (.act none (.px (some 8) (.mv (.v 1)))) <|
    .st (.act none (.px (some 9) (.mv (.v 3)))) <|
    .st (.act none (.px (some 10) (.ia 2 (.v 8) (.v 9)))) <|
    .st (.act none (.ld (some 11) (.v 10) (some 2))) <|
    .st (.act none (.ex (some 12) (.call fn_laws_eqProcess [.v 7, .v 11]))) K68_5) K68_4)) K68_2
@[simp] def W68_6 := @C.wpe _ _ K68_6.eq_1
def K68_7 : C := .cond 4 (.v 7) (.skip) (.exit 0)
@[simp] def W68_7 := @C.wpe _ _ K68_7.eq_1
def K68_8 : C := .seq (.seq (.pl <| .st (.ext 4 4) <|
    .st (.act none (.px (some 4) (.mv (.v 3)))) <|
    .st (.act none (.px (some 5) (.mv (.v 0)))) <|
    .st (.act none (.px (some 6) (.lenV (.v 5)))) <|
    .st (.act none (.px (some 7) (.bin .lss (.v 4) (.v 6)))) .done) K68_7) K68_6
@[simp] def W68_8 := @C.wpe _ _ K68_8.eq_1
def K68_9 : C := .block 0 (.loop 4 [2] K68_8)
@[simp] def W68_9 := @C.wpe _ _ K68_9.eq_1
def K68_10 : C := .seq (.seq (.pl <| .st (.ext 4 0) <|
    .st (.act none (.px (some 3) (.mv (.c (.int .i64 0))))) .done) K68_9) K68_1
@[simp] def W68_10 := @C.wpe _ _ K68_10.eq_1
def K68_11 : C := .seq (.pl <| .st (.ext 4 0) <|
    .st (.act none (.px (some 2) (.mv (.c (.bool false))))) .done) (.ret)
@[simp] def W68_11 := @C.wpe _ _ K68_11.eq_1
def K68_12 : C := .cond 4 (.v 8) K68_11 (.skip)
@[simp] def W68_12 := @C.wpe _ _ K68_12.eq_1
def K68_13 : C := .seq (.seq (.pl <| .st (.ext 4 5) <|
    .st (.act none (.px (some 4) (.mv (.v 0)))) <|
    .st (.act none (.px (some 5) (.lenV (.v 4)))) <|
    .st (.act none (.px (some 6) (.mv (.v 1)))) <|
    .st (.act none (.px (some 7) (.lenV (.v 6)))) <|
    .st (.act none (.px (some 8) (.bin .neq (.v 5) (.v 7)))) .done) K68_12) K68_10
@[simp] def W68_13 := @C.wpe _ _ K68_13.eq_1
def B_laws_eqProcessS : C := .seq (.pl <| .st (.ext 4 0) <|
    .st (.act none (.px (some 2) (.mv (.c (.bool false))))) .done) K68_13
@[simp] def WB_laws_eqProcessS := @C.wpe _ _ B_laws_eqProcessS.eq_1
def R_laws_eqProcessS : FIR := ⟨B_laws_eqProcessS, 4, [(2, none)]⟩
theorem IR_laws_eqProcessS : cfun Try.prog H_laws_eqProcessS Try.f68 = some R_laws_eqProcessS := by kernel_rfl
theorem EN_laws_eqProcessS {args : List Value} {h : Heap} {k : Value → Heap → Prop} (hargs : args.length = 2) (hw : B_laws_eqProcessS.wp Try.prog (retQ [(2, none)] k) (env0 args 4) h) : CallE Try.prog fn_laws_eqProcessS args h k := enter Try.func68 rfl IR_laws_eqProcessS hargs hw

def H_laws_eqState : Hint := ⟨[(0, false), (1, false), (2, true), (3, true), (4, false)], []⟩
def K37_1 : C := .seq (.pl <| .st (.ext 5 0) <|
    .st (.act none (.px (some 4) (.mv (.c (.bool true))))) .done) (.ret)
@[simp] def W37_1 := @C.wpe _ _ K37_1.eq_1
def K37_2 : C := .seq (.pl <| .st (.ext 5 0) <|
    .st (.act none (.px (some 4) (.mv (.c (.bool false))))) .done) (.ret)
@[simp] def W37_2 := @C.wpe _ _ K37_2.eq_1
def K37_3 : C := .cond 5 (.v 10) K37_2 (.skip)
@[simp] def W37_3 := @C.wpe _ _ K37_3.eq_1
def K37_4 : Pl := .st (.act none (.px (some 10) (.un .not (.v 9)))) .done
@[simp] def W37_4 := @Pl.wpe _ _ K37_4.eq_1
def K37_5 : C := .seq (.seq (.pl <| .st (.ext 5 6) <|
    .st (.act none (.als 5 none 2)) <|
    .st (.act none (.pget (some 6) (some 5) 2 1 none)) <|
    .st (.act none (.als 7 none 3)) <|
    .st (.act none (.pget (some 8) (some 7) 3 1 none)) <|
    .st (.act none (.ex (some 9) (.call fn_laws_eqIntS [.v 6, .v 8]))) K37_4) K37_3) K37_1
@[simp] def W37_5 := @C.wpe _ _ K37_5.eq_1
def K37_6 : C := .seq (.pl <| .st (.ext 5 0) <|
    .st (.act none (.px (some 4) (.mv (.c (.bool false))))) .done) (.ret)
@[simp] def W37_6 := @C.wpe _ _ K37_6.eq_1
def K37_7 : C := .cond 5 (.v 10) K37_6 (.skip)
@[simp] def W37_7 := @C.wpe _ _ K37_7.eq_1
def K37_8 : Pl := .st (.act none (.px (some 10) (.un .not (.v 9)))) .done
@[simp] def W37_8 := @Pl.wpe _ _ K37_8.eq_1
def K37_9 : C := .seq (.seq (.pl <| .st (.ext 5 6) <|
    .st (.act none (.als 5 none 2)) <|
    .st (.act none (.pget (some 6) (some 5) 2 0 none)) <|
    .st (.act none (.als 7 none 3)) <|
    .st (.act none (.pget (some 8) (some 7) 3 0 none)) <|
    .st (.act none (.ex (some 9) (.call fn_laws_eqIntS [.v 6, .v 8]))) K37_8) K37_7) K37_5
@[simp] def W37_9 := @C.wpe _ _ K37_9.eq_1
def B_laws_eqState : C := .seq (.pl <| .st (.ext 5 0) <|
    .st (.act none (.pnew 2 (.v 0) [])) <|
    .st (.act none (.pnew 3 (.v 1) [])) <|
    .st (.act none (.px (some 4) (.mv (.c (.bool false))))) .done) K37_9
@[simp] def WB_laws_eqState := @C.wpe _ _ B_laws_eqState.eq_1
def R_laws_eqState : FIR := ⟨B_laws_eqState, 5, [(4, none)]⟩
theorem IR_laws_eqState : cfun Try.prog H_laws_eqState Try.f37 = some R_laws_eqState := by kernel_rfl
theorem EN_laws_eqState {args : List Value} {h : Heap} {k : Value → Heap → Prop} (hargs : args.length = 2) (hw : B_laws_eqState.wp Try.prog (retQ [(4, none)] k) (env0 args 5) h) : CallE Try.prog fn_laws_eqState args h k := enter Try.func37 rfl IR_laws_eqState hargs hw

def H_laws_eqSystem : Hint := ⟨[(0, false), (1, false), (2, true), (3, true), (4, false)], []⟩
def K18_1 : C := .seq (.pl <| .st (.ext 5 0) <|
    .st (.act none (.px (some 4) (.mv (.c (.bool true))))) .done) (.ret)
@[simp] def W18_1 := @C.wpe _ _ K18_1.eq_1
def K18_2 : C := .seq (.pl <| .st (.ext 5 0) <|
    .st (.act none (.px (some 4) (.mv (.c (.bool false))))) .done) (.ret)
@[simp] def W18_2 := @C.wpe _ _ K18_2.eq_1
def K18_3 : C := .cond 5 (.v 10) K18_2 (.skip)
@[simp] def W18_3 := @C.wpe _ _ K18_3.eq_1
def K18_4 : Pl := .st (.act none (.px (some 10) (.un .not (.v 9)))) .done
@[simp] def W18_4 := @Pl.wpe _ _ K18_4.eq_1
def K18_5 : C := .seq (.seq (.pl <| .st (.ext 5 6) <|
    .st (.act none (.als 5 none 2)) <|
    .st (.act none (.pget (some 6) (some 5) 2 1 none)) <|
    .st (.act none (.als 7 none 3)) <|
    .st (.act none (.pget (some 8) (some 7) 3 1 none)) <|
    .st (.act none (.ex (some 9) (.call fn_laws_eqProcessS [.v 6, .v 8]))) K18_4) K18_3) K18_1
@[simp] def W18_5 := @C.wpe _ _ K18_5.eq_1
def K18_6 : C := .seq (.pl <| .st (.ext 5 0) <|
    .st (.act none (.px (some 4) (.mv (.c (.bool false))))) .done) (.ret)
@[simp] def W18_6 := @C.wpe _ _ K18_6.eq_1
def K18_7 : C := .cond 5 (.v 10) K18_6 (.skip)
@[simp] def W18_7 := @C.wpe _ _ K18_7.eq_1
def K18_8 : Pl := .st (.act none (.px (some 10) (.un .not (.v 9)))) .done
@[simp] def W18_8 := @Pl.wpe _ _ K18_8.eq_1
def K18_9 : C := .seq (.seq (.pl <| .st (.ext 5 6) <|
    .st (.act none (.als 5 none 2)) <|
    .st (.act none (.pget (some 6) (some 5) 2 0 none)) <|
    .st (.act none (.als 7 none 3)) <|
    .st (.act none (.pget (some 8) (some 7) 3 0 none)) <|
    .st (.act none (.ex (some 9) (.call fn_laws_eqIntS [.v 6, .v 8]))) K18_8) K18_7) K18_5
@[simp] def W18_9 := @C.wpe _ _ K18_9.eq_1
def B_laws_eqSystem : C := .seq (.pl <| .st (.ext 5 0) <|
    .st (.act none (.pnew 2 (.v 0) [])) <|
    .st (.act none (.pnew 3 (.v 1) [])) <|
    .st (.act none (.px (some 4) (.mv (.c (.bool false))))) .done) K18_9
@[simp] def WB_laws_eqSystem := @C.wpe _ _ B_laws_eqSystem.eq_1
def R_laws_eqSystem : FIR := ⟨B_laws_eqSystem, 5, [(4, none)]⟩
theorem IR_laws_eqSystem : cfun Try.prog H_laws_eqSystem Try.f18 = some R_laws_eqSystem := by kernel_rfl
theorem EN_laws_eqSystem {args : List Value} {h : Heap} {k : Value → Heap → Prop} (hargs : args.length = 2) (hw : B_laws_eqSystem.wp Try.prog (retQ [(4, none)] k) (env0 args 5) h) : CallE Try.prog fn_laws_eqSystem args h k := enter Try.func18 rfl IR_laws_eqSystem hargs hw

def H_laws_heldIntS : Hint := ⟨[(0, false), (1, false), (4, false), (5, false)], [[2]]⟩
def K32_1 : C := .seq (.pl <| .st (.ext 4 1) <|
    .st (.act none (.px (some 4) (.mv (.v 1)))) <|
    .st (.act none (.px (some 2) (.mv (.v 4)))) .done) (.ret)
@[simp] def W32_1 := @C.wpe _ _ K32_1.eq_1
def K32_2 : C := .pl <| .st (.ext 4 2) <|
    .st (.act none (.px (some 4) (.mv (.v 3)))) <|
    .st (.act none (.px (some 5) (.bin .add (.v 4) (.c (.int .i64 1))))) <|
    .st (.act none (.px (some 3) (.mv (.v 5)))) .done
@[simp] def W32_2 := @C.wpe _ _ K32_2.eq_1
def K32_3 : C := .pl <| .st (.ext 4 2) <|
    .st (.act none (.px (some 4) (.mv (.v 1)))) <|
    .st (.act none (.px (some 5) (.bin .add (.v 4) (.c (.int .i64 1))))) <|
    .st (.act none (.px (some 1) (.mv (.v 5)))) .done
@[simp] def W32_3 := @C.wpe _ _ K32_3.eq_1
def K32_4 : C := .seq (.pl <| .st (.ext 4 0) <|
    .st (.act none (.px (some 2) (.mv (.c (.int .i64 (-1)))))) .done) (.ret)
@[simp] def W32_4 := @C.wpe _ _ K32_4.eq_1
def K32_5 : C := .cond 4 (.v 9) K32_4 (.skip)
@[simp] def W32_5 := @C.wpe _ _ K32_5.eq_1
def K32_6 : C := .seq (.block 1 (.seq (.seq (.pl <| .st (.ext 4 6) <|
    .st (.act none (.px (some 4) (.mv (.v 0)))) <|
    .st (.act none (.px (some 5) (.mv (.v 3)))) <|
    .st (.act none (.px (some 6) (.ia 1 (.v 4) (.v 5)))) <|
    .st (.act none (.ld (some 7) (.v 6) none)) <|
    .st (.act none (.px (some 8) (.mv (.v 1)))) <|
    .st (.act none (.px (some 9) (.bin .neq (.v 7) (.v 8)))) .done) K32_5) K32_3)) K32_2
@[simp] def W32_6 := @C.wpe _ _ K32_6.eq_1
def K32_7 : C := .cond 4 (.v 7) (.skip) (.exit 0)
@[simp] def W32_7 := @C.wpe _ _ K32_7.eq_1
def K32_8 : C := .seq (.seq (.pl <| .st (.ext 4 4) <|
    .st (.act none (.px (some 4) (.mv (.v 3)))) <|
    .st (.act none (.px (some 5) (.mv (.v 0)))) <|
    .st (.act none (.px (some 6) (.lenV (.v 5)))) <|
    .st (.act none (.px (some 7) (.bin .lss (.v 4) (.v 6)))) .done) K32_7) K32_6
@[simp] def W32_8 := @C.wpe _ _ K32_8.eq_1
def K32_9 : C := .block 0 (.loop 4 [2] K32_8)
@[simp] def W32_9 := @C.wpe _ _ K32_9.eq_1
def K32_10 : C := .seq (.seq (.pl <| .st (.ext 4 0) <|
    .st (.act none (.px (some 3) (.mv (.c (.int .i64 0))))) .done) K32_9) K32_1
@[simp] def W32_10 := @C.wpe _ _ K32_10.eq_1
def B_laws_heldIntS : C := .seq (.pl <| .st (.ext 4 0) <|
    .st (.act none (.px (some 2) (.mv (.c (.int .i64 0))))) .done) K32_10
@[simp] def WB_laws_heldIntS := @C.wpe _ _ B_laws_heldIntS.eq_1
def R_laws_heldIntS : FIR := ⟨B_laws_heldIntS, 4, [(2, none)]⟩
theorem IR_laws_heldIntS : cfun Try.prog H_laws_heldIntS Try.f32 = some R_laws_heldIntS := by kernel_rfl
theorem EN_laws_heldIntS {args : List Value} {h : Heap} {k : Value → Heap → Prop} (hargs : args.length = 2) (hw : B_laws_heldIntS.wp Try.prog (retQ [(2, none)] k) (env0 args 4) h) : CallE Try.prog fn_laws_heldIntS args h k := enter Try.func32 rfl IR_laws_heldIntS hargs hw

def H_laws_heldState : Hint := ⟨[(0, false), (1, false), (2, true), (4, false)], []⟩
def K39_1 : C := .seq (.pl <| .st (.ext 4 1) <|
    .st (.act none (.px (some 4) (.mv (.v 1)))) <|
    .st (.act none (.px (some 3) (.mv (.v 4)))) .done) (.ret)
@[simp] def W39_1 := @C.wpe _ _ K39_1.eq_1
def K39_2 : C := .seq (.pl <| .st (.ext 4 0) <|
    .st (.act none (.px (some 3) (.mv (.c (.int .i64 (-1)))))) .done) (.ret)
@[simp] def W39_2 := @C.wpe _ _ K39_2.eq_1
def K39_3 : C := .cond 4 (.v 5) K39_2 (.skip)
@[simp] def W39_3 := @C.wpe _ _ K39_3.eq_1
def K39_4 : C := .seq (.seq (.pl <| .st (.ext 4 2) <|
    .st (.act none (.px (some 4) (.mv (.v 1)))) <|
    .st (.act none (.px (some 5) (.bin .lss (.v 4) (.c (.int .i64 0))))) .done) K39_3) K39_1
@[simp] def W39_4 := @C.wpe _ _ K39_4.eq_1
def K39_5 : Pl := .st (.act none (.px (some 1) (.mv (.v 7)))) .done
@[simp] def W39_5 := @Pl.wpe _ _ K39_5.eq_1
def K39_6 : C := .seq (.pl <| .st (.ext 4 4) <|
    .st (.act none (.als 4 none 2)) <|
    .st (.act none (.pget (some 5) (some 4) 2 1 none)) <|
    .st (.act none (.px (some 6) (.mv (.v 1)))) <|
    .st (.act none (.ex (some 7) (.call fn_laws_heldIntS [.v 5, .v 6]))) K39_5) K39_4
@[simp] def W39_6 := @C.wpe _ _ K39_6.eq_1
def K39_7 : C := .seq (.pl <| .st (.ext 4 0) <|
    .st (.act none (.px (some 3) (.mv (.c (.int .i64 (-1)))))) .done) (.ret)
@[simp] def W39_7 := @C.wpe _ _ K39_7.eq_1
def K39_8 : C := .cond 4 (.v 5) K39_7 (.skip)
@[simp] def W39_8 := @C.wpe _ _ K39_8.eq_1
def K39_9 : C := .seq (.seq (.pl <| .st (.ext 4 2) <|
    .st (.act none (.px (some 4) (.mv (.v 1)))) <|
    .st (.act none (.px (some 5) (.bin .lss (.v 4) (.c (.int .i64 0))))) .done) K39_8) K39_6
@[simp] def W39_9 := @C.wpe _ _ K39_9.eq_1
def K39_10 : Pl := .st (.act none (.px (some 1) (.mv (.v 7)))) .done
@[simp] def W39_10 := @Pl.wpe _ _ K39_10.eq_1
def K39_11 : C := .seq (.pl <| .st (.ext 4 4) <|
    .st (.act none (.als 4 none 2)) <|
    .st (.act none (.pget (some 5) (some 4) 2 0 none)) <|
    .st (.act none (.px (some 6) (.mv (.v 1)))) <|
    .st (.act none (.ex (some 7) (.call fn_laws_heldIntS [.v 5, .v 6]))) K39_10) K39_9
@[simp] def W39_11 := @C.wpe _ _ K39_11.eq_1
def B_laws_heldState : C := .seq (.pl <| .st (.ext 4 0) <|
    .st (.act none (.pnew 2 (.v 0) [])) <|
    .st (.act none (.px (some 3) (.mv (.c (.int .i64 0))))) .done) K39_11
@[simp] def WB_laws_heldState := @C.wpe _ _ B_laws_heldState.eq_1
def R_laws_heldState : FIR := ⟨B_laws_heldState, 4, [(3, none)]⟩
theorem IR_laws_heldState : cfun Try.prog H_laws_heldState Try.f39 = some R_laws_heldState := by kernel_rfl
theorem EN_laws_heldState {args : List Value} {h : Heap} {k : Value → Heap → Prop} (hargs : args.length = 2) (hw : B_laws_heldState.wp Try.prog (retQ [(3, none)] k) (env0 args 4) h) : CallE Try.prog fn_laws_heldState args h k := enter Try.func39 rfl IR_laws_heldState hargs hw

def H_laws_markEdgeS : Hint := ⟨[(0, false), (1, false), (4, false), (5, false)], [[2]]⟩
def K122_1 : C := .seq (.pl <| .st (.ext 4 1) <|
    .st (.act none (.px (some 4) (.mv (.v 1)))) <|
    .st (.act none (.px (some 2) (.mv (.v 4)))) .done) (.ret)
@[simp] def W122_1 := @C.wpe _ _ K122_1.eq_1
def K122_2 : C := .pl <| .st (.ext 4 2) <|
    .st (.act none (.px (some 4) (.mv (.v 3)))) <|
    .st (.act none (.px (some 5) (.bin .add (.v 4) (.c (.int .i64 1))))) <|
    .st (.act none (.px (some 3) (.mv (.v 5)))) .done
@[simp] def W122_2 := @C.wpe _ _ K122_2.eq_1
def K122_3 : C := .pl <| .st (.ext 4 2) <|
    .st (.act none (.px (some 4) (.mv (.v 1)))) <|
    .st (.act none (.px (some 5) (.bin .add (.v 4) (.c (.int .i64 1))))) <|
    .st (.act none (.px (some 1) (.mv (.v 5)))) .done
@[simp] def W122_3 := @C.wpe _ _ K122_3.eq_1
def K122_4 : C := .seq (.pl <| .st (.ext 4 5) <|
    .st (.act none (.px (some 4) (.mv (.v 0)))) <|
    .st (.act none (.px (some 5) (.mv (.v 3)))) <|
    .st (.act none (.px (some 6) (.mv (.v 1)))) <|
    .st (.act none (.px (some 7) (.ia 10 (.v 4) (.v 5)))) <|
    .st (.act none (.px (some 8) (.fa 9 (.v 7)))) <|
    .st (.act none (.ex none (.store 1 (.v 8) (.v 6)))) .done) K122_3
@[simp] def W122_4 := @C.wpe _ _ K122_4.eq_1
def K122_5 : Pl := .st (.act none (.px (some 1) (.mv (.v 11)))) .done
@[simp] def W122_5 := @Pl.wpe _ _ K122_5.eq_1
def K122_6 : C := .seq (.pl <| .st (.ext 4 8) <|
    .st (.act none (.px (some 4) (.mv (.v 0)))) <|
    .st (.act none (.px (some 5) (.mv (.v 3)))) <|
    .st (.act none (.px (some 6) (.ia 10 (.v 4) (.v 5)))) <|
    .st (.act none (.px (some 7) (.fa 6 (.v 6)))) <|
    .st (.act none (.px (some 8) (.fa 2 (.v 7)))) <|
    .st (.act none (.ld (some 9) (.v 8) none)) <|
    .st (.act none (.px (some 10) (.mv (.v 1)))) <|
    .st (.act none (.ex (some 11) (.call fn_laws_markExprS [.v 9, .v 10]))) K122_5) K122_4
@[simp] def W122_6 := @C.wpe _ _ K122_6.eq_1
def K122_7 : C := .seq (.pl <| .st (.ext 4 2) <|
    .st (.act none (.px (some 4) (.mv (.v 1)))) <|
    .st (.act none (.px (some 5) (.bin .add (.v 4) (.c (.int .i64 1))))) <|
    .st (.act none (.px (some 1) (.mv (.v 5)))) .done) K122_6
@[simp] def W122_7 := @C.wpe _ _ K122_7.eq_1
def K122_8 : C := .seq (.pl <| .st (.ext 4 6) <|
    .st (.act none (.px (some 4) (.mv (.v 0)))) <|
    .st (.act none (.px (some 5) (.mv (.v 3)))) <|
    .st (.act none (.px (some 6) (.mv (.v 1)))) <|
    .st (.act none (.px (some 7) (.ia 10 (.v 4) (.v 5)))) <|
    .st (.act none (.px (some 8) (.fa 6 (.v 7)))) <|
    .st (.act none (.px (some 9) (.fa 1 (.v 8)))) <|
    .st (.act none (.ex none (.store 1 (.v 9) (.v 6)))) .done) K122_7
@[simp] def W122_8 := @C.wpe _ _ K122_8.eq_1
def K122_9 : C := .seq (.pl <| .st (.ext 4 2) <|
    .st (.act none (.px (some 4) (.mv (.v 1)))) <|
    .st (.act none (.px (some 5) (.bin .add (.v 4) (.c (.int .i64 1))))) <|
    .st (.act none (.px (some 1) (.mv (.v 5)))) .done) K122_8
@[simp] def W122_9 := @C.wpe _ _ K122_9.eq_1
def K122_10 : C := .seq (.pl <| .st (.ext 4 6) <|
    .st (.act none (.px (some 4) (.mv (.v 0)))) <|
    .st (.act none (.px (some 5) (.mv (.v 3)))) <|
    .st (.act none (.px (some 6) (.mv (.v 1)))) <|
    .st (.act none (.px (some 7) (.ia 10 (.v 4) (.v 5)))) <|
    .st (.act none (.px (some 8) (.fa 6 (.v 7)))) <|
    .st (.act none (.px (some 9) (.fa 0 (.v 8)))) <|
    .st (.act none (.ex none (.store 1 (.v 9) (.v 6)))) .done) K122_9
@[simp] def W122_10 := @C.wpe _ _ K122_10.eq_1
def K122_11 : C := .seq (.pl <| .st (.ext 4 2) <|
    .st (.act none (.px (some 4) (.mv (.v 1)))) <|
    .st (.act none (.px (some 5) (.bin .add (.v 4) (.c (.int .i64 1))))) <|
    .st (.act none (.px (some 1) (.mv (.v 5)))) .done) K122_10
@[simp] def W122_11 := @C.wpe _ _ K122_11.eq_1
def K122_12 : C := .seq (.pl <| .st (.ext 4 5) <|
    .st (.act none (.px (some 4) (.mv (.v 0)))) <|
    .st (.act none (.px (some 5) (.mv (.v 3)))) <|
    .st (.act none (.px (some 6) (.mv (.v 1)))) <|
    .st (.act none (.px (some 7) (.ia 10 (.v 4) (.v 5)))) <|
    .st (.act none (.px (some 8) (.fa 5 (.v 7)))) <|
    .st (.act none (.ex none (.store 1 (.v 8) (.v 6)))) .done) K122_11
@[simp] def W122_12 := @C.wpe _ _ K122_12.eq_1
def K122_13 : Pl := .st (.act none (.px (some 1) (.mv (.v 11)))) .done
@[simp] def W122_13 := @Pl.wpe _ _ K122_13.eq_1
def K122_14 : C := .seq (.pl <| .st (.ext 4 8) <|
    .st (.act none (.px (some 4) (.mv (.v 0)))) <|
    .st (.act none (.px (some 5) (.mv (.v 3)))) <|
    .st (.act none (.px (some 6) (.ia 10 (.v 4) (.v 5)))) <|
    .st (.act none (.px (some 7) (.fa 2 (.v 6)))) <|
    .st (.act none (.px (some 8) (.fa 2 (.v 7)))) <|
    .st (.act none (.ld (some 9) (.v 8) none)) <|
    .st (.act none (.px (some 10) (.mv (.v 1)))) <|
    .st (.act none (.ex (some 11) (.call fn_laws_markExprS [.v 9, .v 10]))) K122_13) K122_12
@[simp] def W122_14 := @C.wpe _ _ K122_14.eq_1
def K122_15 : C := .seq (.pl <| .st (.ext 4 2) <|
    .st (.act none (.px (some 4) (.mv (.v 1)))) <|
    .st (.act none (.px (some 5) (.bin .add (.v 4) (.c (.int .i64 1))))) <|
    .st (.act none (.px (some 1) (.mv (.v 5)))) .done) K122_14
@[simp] def W122_15 := @C.wpe _ _ K122_15.eq_1
def K122_16 : C := .seq (.pl <| .st (.ext 4 6) <|
    .st (.act none (.px (some 4) (.mv (.v 0)))) <|
    .st (.act none (.px (some 5) (.mv (.v 3)))) <|
    .st (.act none (.px (some 6) (.mv (.v 1)))) <|
    .st (.act none (.px (some 7) (.ia 10 (.v 4) (.v 5)))) <|
    .st (.act none (.px (some 8) (.fa 2 (.v 7)))) <|
    .st (.act none (.px (some 9) (.fa 1 (.v 8)))) <|
    .st (.act none (.ex none (.store 1 (.v 9) (.v 6)))) .done) K122_15
@[simp] def W122_16 := @C.wpe _ _ K122_16.eq_1
def K122_17 : C := .seq (.pl <| .st (.ext 4 2) <|
    .st (.act none (.px (some 4) (.mv (.v 1)))) <|
    .st (.act none (.px (some 5) (.bin .add (.v 4) (.c (.int .i64 1))))) <|
    .st (.act none (.px (some 1) (.mv (.v 5)))) .done) K122_16
@[simp] def W122_17 := @C.wpe _ _ K122_17.eq_1
def K122_18 : C := .seq (.pl <| .st (.ext 4 6) <|
    .st (.act none (.px (some 4) (.mv (.v 0)))) <|
    .st (.act none (.px (some 5) (.mv (.v 3)))) <|
    .st (.act none (.px (some 6) (.mv (.v 1)))) <|
    .st (.act none (.px (some 7) (.ia 10 (.v 4) (.v 5)))) <|
    .st (.act none (.px (some 8) (.fa 2 (.v 7)))) <|
    .st (.act none (.px (some 9) (.fa 0 (.v 8)))) <|
    .st (.act none (.ex none (.store 1 (.v 9) (.v 6)))) .done) K122_17
@[simp] def W122_18 := @C.wpe _ _ K122_18.eq_1
def K122_19 : C := .seq (.pl <| .st (.ext 4 2) <|
    .st (.act none (.px (some 4) (.mv (.v 1)))) <|
    .st (.act none (.px (some 5) (.bin .add (.v 4) (.c (.int .i64 1))))) <|
    .st (.act none (.px (some 1) (.mv (.v 5)))) .done) K122_18
@[simp] def W122_19 := @C.wpe _ _ K122_19.eq_1
def K122_20 : C := .seq (.pl <| .st (.ext 4 5) <|
    .st (.act none (.px (some 4) (.mv (.v 0)))) <|
    .st (.act none (.px (some 5) (.mv (.v 3)))) <|
    .st (.act none (.px (some 6) (.mv (.v 1)))) <|
    .st (.act none (.px (some 7) (.ia 10 (.v 4) (.v 5)))) <|
    .st (.act none (.px (some 8) (.fa 1 (.v 7)))) <|
    .st (.act none (.ex none (.store 1 (.v 8) (.v 6)))) .done) K122_19
@[simp] def W122_20 := @C.wpe _ _ K122_20.eq_1
def K122_21 : C := .seq (.pl <| .st (.ext 4 2) <|
    .st (.act none (.px (some 4) (.mv (.v 1)))) <|
    .st (.act none (.px (some 5) (.bin .add (.v 4) (.c (.int .i64 1))))) <|
    .st (.act none (.px (some 1) (.mv (.v 5)))) .done) K122_20
@[simp] def W122_21 := @C.wpe _ _ K122_21.eq_1
def K122_22 : C := .seq (.block 1 (.seq (.pl <| .st (.ext 4 5) <|
    .st (.act none (.px (some 4) (.mv (.v 0)))) <|
    .st (.act none (.px (some 5) (.mv (.v 3)))) <|
    .st (.act none (.px (some 6) (.mv (.v 1)))) <|
    .st (.act none (.px (some 7) (.ia 10 (.v 4) (.v 5)))) <|
    .st (.act none (.px (some 8) (.fa 0 (.v 7)))) <|
    .st (.act none (.ex none (.store 1 (.v 8) (.v 6)))) .done) K122_21)) K122_2
@[simp] def W122_22 := @C.wpe _ _ K122_22.eq_1
def K122_23 : C := .cond 4 (.v 7) (.skip) (.exit 0)
@[simp] def W122_23 := @C.wpe _ _ K122_23.eq_1
def K122_24 : C := .seq (.seq (.pl <| .st (.ext 4 4) <|
    .st (.act none (.px (some 4) (.mv (.v 3)))) <|
    .st (.act none (.px (some 5) (.mv (.v 0)))) <|
    .st (.act none (.px (some 6) (.lenV (.v 5)))) <|
    .st (.act none (.px (some 7) (.bin .lss (.v 4) (.v 6)))) .done) K122_23) K122_22
@[simp] def W122_24 := @C.wpe _ _ K122_24.eq_1
def K122_25 : C := .block 0 (.loop 4 [2] K122_24)
@[simp] def W122_25 := @C.wpe _ _ K122_25.eq_1
def K122_26 : C := .seq (.seq (.pl <| .st (.ext 4 0) <|
    .st (.act none (.px (some 3) (.mv (.c (.int .i64 0))))) .done) K122_25) K122_1
@[simp] def W122_26 := @C.wpe _ _ K122_26.eq_1
def B_laws_markEdgeS : C := .seq (.pl <| .st (.ext 4 0) <|
    .st (.act none (.px (some 2) (.mv (.c (.int .i64 0))))) .done) K122_26
@[simp] def WB_laws_markEdgeS := @C.wpe _ _ B_laws_markEdgeS.eq_1
def R_laws_markEdgeS : FIR := ⟨B_laws_markEdgeS, 4, [(2, none)]⟩
theorem IR_laws_markEdgeS : cfun Try.prog H_laws_markEdgeS Try.f122 = some R_laws_markEdgeS := by kernel_rfl
theorem EN_laws_markEdgeS {args : List Value} {h : Heap} {k : Value → Heap → Prop} (hargs : args.length = 2) (hw : B_laws_markEdgeS.wp Try.prog (retQ [(2, none)] k) (env0 args 4) h) : CallE Try.prog fn_laws_markEdgeS args h k := enter Try.func122 rfl IR_laws_markEdgeS hargs hw

def H_laws_markExprS : Hint := ⟨[(0, false), (1, false), (4, false), (5, false)], [[2]]⟩
def K21_1 : C := .seq (.pl <| .st (.ext 4 1) <|
    .st (.act none (.px (some 4) (.mv (.v 1)))) <|
    .st (.act none (.px (some 2) (.mv (.v 4)))) .done) (.ret)
@[simp] def W21_1 := @C.wpe _ _ K21_1.eq_1
def K21_2 : C := .pl <| .st (.ext 4 2) <|
    .st (.act none (.px (some 4) (.mv (.v 3)))) <|
    .st (.act none (.px (some 5) (.bin .add (.v 4) (.c (.int .i64 1))))) <|
    .st (.act none (.px (some 3) (.mv (.v 5)))) .done
@[simp] def W21_2 := @C.wpe _ _ K21_2.eq_1
def K21_3 : Pl := .st (.act none (.px (some 1) (.mv (.v 10)))) .done
@[simp] def W21_3 := @Pl.wpe _ _ K21_3.eq_1
def K21_4 : C := .pl <| .st (.ext 4 7) <|
    .st (.act none (.px (some 4) (.mv (.v 0)))) <|
    .st (.act none (.px (some 5) (.mv (.v 3)))) <|
    .st (.act none (.px (some 6) (.ia 3 (.v 4) (.v 5)))) <|
    .st (.act none (.px (some 7) (.fa 2 (.v 6)))) <|
    .st (.act none (.ld (some 8) (.v 7) none)) <|
    .st (.act none (.px (some 9) (.mv (.v 1)))) <|
    .st (.act none (.ex (some 10) (.call fn_laws_markExprS [.v 8, .v 9]))) K21_3
@[simp] def W21_4 := @C.wpe _ _ K21_4.eq_1
def K21_5 : C := .seq (.pl <| .st (.ext 4 2) <|
    .st (.act none (.px (some 4) (.mv (.v 1)))) <|
    .st (.act none (.px (some 5) (.bin .add (.v 4) (.c (.int .i64 1))))) <|
    .st (.act none (.px (some 1) (.mv (.v 5)))) .done) K21_4
@[simp] def W21_5 := @C.wpe _ _ K21_5.eq_1
def K21_6 : C := .seq (.pl <| .st (.ext 4 5) <|
    .st (.act none (.px (some 4) (.mv (.v 0)))) <|
    .st (.act none (.px (some 5) (.mv (.v 3)))) <|
    .st (.act none (.px (some 6) (.mv (.v 1)))) <|
    .st (.act none (.px (some 7) (.ia 3 (.v 4) (.v 5)))) <|
    .st (.act none (.px (some 8) (.fa 1 (.v 7)))) <|
    .st (.act none (.ex none (.store 1 (.v 8) (.v 6)))) .done) K21_5
@[simp] def W21_6 := @C.wpe _ _ K21_6.eq_1
def K21_7 : C := .seq (.pl <| .st (.ext 4 2) <|
    .st (.act none (.px (some 4) (.mv (.v 1)))) <|
    .st (.act none (.px (some 5) (.bin .add (.v 4) (.c (.int .i64 1))))) <|
    .st (.act none (.px (some 1) (.mv (.v 5)))) .done) K21_6
@[simp] def W21_7 := @C.wpe _ _ K21_7.eq_1
def K21_8 : C := .seq (.block 1 (.seq (.pl <| .st (.ext 4 5) <|
    .st (.act none (.px (some 4) (.mv (.v 0)))) <|
    .st (.act none (.px (some 5) (.mv (.v 3)))) <|
    .st (.act none (.px (some 6) (.mv (.v 1)))) <|
    .st (.act none (.px (some 7) (.ia 3 (.v 4) (.v 5)))) <|
    .st (.act none (.px (some 8) (.fa 0 (.v 7)))) <|
    .st (.act none (.ex none (.store 1 (.v 8) (.v 6)))) .done) K21_7)) K21_2
@[simp] def W21_8 := @C.wpe _ _ K21_8.eq_1
def K21_9 : C := .cond 4 (.v 7) (.skip) (.exit 0)
@[simp] def W21_9 := @C.wpe _ _ K21_9.eq_1
def K21_10 : C := .seq (.seq (.pl <| .st (.ext 4 4) <|
    .st (.act none (.px (some 4) (.mv (.v 3)))) <|
    .st (.act none (.px (some 5) (.mv (.v 0)))) <|
    .st (.act none (.px (some 6) (.lenV (.v 5)))) <|
    .st (.act none (.px (some 7) (.bin .lss (.v 4) (.v 6)))) .done) K21_9) K21_8
@[simp] def W21_10 := @C.wpe _ _ K21_10.eq_1
def K21_11 : C := .block 0 (.loop 4 [2] K21_10)
@[simp] def W21_11 := @C.wpe _ _ K21_11.eq_1
def K21_12 : C := .seq (.seq (.pl <| .st (.ext 4 0) <|
    .st (.act none (.px (some 3) (.mv (.c (.int .i64 0))))) .done) K21_11) K21_1
@[simp] def W21_12 := @C.wpe _ _ K21_12.eq_1
def B_laws_markExprS : C := .seq (.pl <| .st (.ext 4 0) <|
    .st (.act none (.px (some 2) (.mv (.c (.int .i64 0))))) .done) K21_12
@[simp] def WB_laws_markExprS := @C.wpe _ _ B_laws_markExprS.eq_1
def R_laws_markExprS : FIR := ⟨B_laws_markExprS, 4, [(2, none)]⟩
theorem IR_laws_markExprS : cfun Try.prog H_laws_markExprS Try.f21 = some R_laws_markExprS := by kernel_rfl
theorem EN_laws_markExprS {args : List Value} {h : Heap} {k : Value → Heap → Prop} (hargs : args.length = 2) (hw : B_laws_markExprS.wp Try.prog (retQ [(2, none)] k) (env0 args 4) h) : CallE Try.prog fn_laws_markExprS args h k := enter Try.func21 rfl IR_laws_markExprS hargs hw

def H_laws_markIntS : Hint := ⟨[(0, false), (1, false), (4, false), (5, false)], [[2]]⟩
def K31_1 : C := .seq (.pl <| .st (.ext 4 1) <|
    .st (.act none (.px (some 4) (.mv (.v 1)))) <|
    .st (.act none (.px (some 2) (.mv (.v 4)))) .done) (.ret)
@[simp] def W31_1 := @C.wpe _ _ K31_1.eq_1
def K31_2 : C := .pl <| .st (.ext 4 2) <|
    .st (.act none (.px (some 4) (.mv (.v 3)))) <|
    .st (.act none (.px (some 5) (.bin .add (.v 4) (.c (.int .i64 1))))) <|
    .st (.act none (.px (some 3) (.mv (.v 5)))) .done
@[simp] def W31_2 := @C.wpe _ _ K31_2.eq_1
def K31_3 : C := .pl <| .st (.ext 4 2) <|
    .st (.act none (.px (some 4) (.mv (.v 1)))) <|
    .st (.act none (.px (some 5) (.bin .add (.v 4) (.c (.int .i64 1))))) <|
    .st (.act none (.px (some 1) (.mv (.v 5)))) .done
@[simp] def W31_3 := @C.wpe _ _ K31_3.eq_1
def K31_4 : C := .seq (.block 1 (.seq (.pl <| .st (.ext 4 4) <|
    .st (.act none (.px (some 4) (.mv (.v 0)))) <|
    .st (.act none (.px (some 5) (.mv (.v 3)))) <|
    .st (.act none (.px (some 6) (.mv (.v 1)))) <|
    .st (.act none (.px (some 7) (.ia 1 (.v 4) (.v 5)))) <|
    .st (.act none (.ex none (.store 1 (.v 7) (.v 6)))) .done) K31_3)) K31_2
@[simp] def W31_4 := @C.wpe _ _ K31_4.eq_1
def K31_5 : C := .cond 4 (.v 7) (.skip) (.exit 0)
@[simp] def W31_5 := @C.wpe _ _ K31_5.eq_1
def K31_6 : C := .seq (.seq (.pl <| .st (.ext 4 4) <|
    .st (.act none (.px (some 4) (.mv (.v 3)))) <|
    .st (.act none (.px (some 5) (.mv (.v 0)))) <|
    .st (.act none (.px (some 6) (.lenV (.v 5)))) <|
    .st (.act none (.px (some 7) (.bin .lss (.v 4) (.v 6)))) .done) K31_5) K31_4
@[simp] def W31_6 := @C.wpe _ _ K31_6.eq_1
def K31_7 : C := .block 0 (.loop 4 [2] K31_6)
@[simp] def W31_7 := @C.wpe _ _ K31_7.eq_1
def K31_8 : C := .seq (.seq (.pl <| .st (.ext 4 0) <|
    .st (.act none (.px (some 3) (.mv (.c (.int .i64 0))))) .done) K31_7) K31_1
@[simp] def W31_8 := @C.wpe _ _ K31_8.eq_1
def B_laws_markIntS : C := .seq (.pl <| .st (.ext 4 0) <|
    .st (.act none (.px (some 2) (.mv (.c (.int .i64 0))))) .done) K31_8
@[simp] def WB_laws_markIntS := @C.wpe _ _ B_laws_markIntS.eq_1
def R_laws_markIntS : FIR := ⟨B_laws_markIntS, 4, [(2, none)]⟩
theorem IR_laws_markIntS : cfun Try.prog H_laws_markIntS Try.f31 = some R_laws_markIntS := by kernel_rfl
theorem EN_laws_markIntS {args : List Value} {h : Heap} {k : Value → Heap → Prop} (hargs : args.length = 2) (hw : B_laws_markIntS.wp Try.prog (retQ [(2, none)] k) (env0 args 4) h) : CallE Try.prog fn_laws_markIntS args h k := enter Try.func31 rfl IR_laws_markIntS hargs hw

def H_laws_markProcessS : Hint := ⟨[(0, false), (1, false), (4, false), (5, false)], [[2]]⟩
def K70_1 : C := .seq (.pl <| .st (.ext 4 1) <|
    .st (.act none (.px (some 4) (.mv (.v 1)))) <|
    .st (.act none (.px (some 2) (.mv (.v 4)))) .done) (.ret)
@[simp] def W70_1 := @C.wpe _ _ K70_1.eq_1
def K70_2 : C := .pl <| .st (.ext 4 2) <|
    .st (.act none (.px (some 4) (.mv (.v 3)))) <|
    .st (.act none (.px (some 5) (.bin .add (.v 4) (.c (.int .i64 1))))) <|
    .st (.act none (.px (some 3) (.mv (.v 5)))) .done
@[simp] def W70_2 := @C.wpe _ _ K70_2.eq_1
def K70_3 : Pl := .st (.act none (.px (some 1) (.mv (.v 10)))) .done
@[simp] def W70_3 := @Pl.wpe _ _ K70_3.eq_1
def K70_4 : C := .pl <| .st (.ext 4 7) <|
    .st (.act none (.px (some 4) (.mv (.v 0)))) <|
    .st (.act none (.px (some 5) (.mv (.v 3)))) <|
    .st (.act none (.px (some 6) (.ia 2 (.v 4) (.v 5)))) <|
    .st (.act none (.px (some 7) (.fa 1 (.v 6)))) <|
    .st (.act none (.ld (some 8) (.v 7) none)) <|
    .st (.act none (.px (some 9) (.mv (.v 1)))) <|
    .st (.act none (.ex (some 10) (.call fn_laws_markEdgeS [.v 8, .v 9]))) K70_3
@[simp] def W70_4 := @C.wpe _ _ K70_4.eq_1
def K70_5 : C := .seq (.pl <| .st (.ext 4 2) <|
    .st (.act none (.px (some 4) (.mv (.v 1)))) <|
    .st (.act none (.px (some 5) (.bin .add (.v 4) (.c (.int .i64 1))))) <|
    .st (.act none (.px (some 1) (.mv (.v 5)))) .done) K70_4
@[simp] def W70_5 := @C.wpe _ _ K70_5.eq_1
def K70_6 : C := .seq (.block 1 (.seq (.pl <| .st (.ext 4 5) <|
    .st (.act none (.px (some 4) (.mv (.v 0)))) <|
    .st (.act none (.px (some 5) (.mv (.v 3)))) <|
    .st (.act none (.px (some 6) (.mv (.v 1)))) <|
    .st (.act none (.px (some 7) (.ia 2 (.v 4) (.v 5)))) <|
    .st (.act none (.px (some 8) (.fa 0 (.v 7)))) <|
    .st (.act none (.ex none (.store 1 (.v 8) (.v 6)))) .done) K70_5)) K70_2
@[simp] def W70_6 := @C.wpe _ _ K70_6.eq_1
def K70_7 : C := .cond 4 (.v 7) (.skip) (.exit 0)
@[simp] def W70_7 := @C.wpe _ _ K70_7.eq_1
def K70_8 : C := .seq (.seq (.pl <| .st (.ext 4 4) <|
    .st (.act none (.px (some 4) (.mv (.v 3)))) <|
    .st (.act none (.px (some 5) (.mv (.v 0)))) <|
    .st (.act none (.px (some 6) (.lenV (.v 5)))) <|
    .st (.act none (.px (some 7) (.bin .lss (.v 4) (.v 6)))) .done) K70_7) K70_6
@[simp] def W70_8 := @C.wpe _ _ K70_8.eq_1
def K70_9 : C := .block 0 (.loop 4 [2] K70_8)
@[simp] def W70_9 := @C.wpe _ _ K70_9.eq_1
def K70_10 : C := .seq (.seq (.pl <| .st (.ext 4 0) <|
    .st (.act none (.px (some 3) (.mv (.c (.int .i64 0))))) .done) K70_9) K70_1
@[simp] def W70_10 := @C.wpe _ _ K70_10.eq_1
def B_laws_markProcessS : C := .seq (.pl <| .st (.ext 4 0) <|
    .st (.act none (.px (some 2) (.mv (.c (.int .i64 0))))) .done) K70_10
@[simp] def WB_laws_markProcessS := @C.wpe _ _ B_laws_markProcessS.eq_1
def R_laws_markProcessS : FIR := ⟨B_laws_markProcessS, 4, [(2, none)]⟩
theorem IR_laws_markProcessS : cfun Try.prog H_laws_markProcessS Try.f70 = some R_laws_markProcessS := by kernel_rfl
theorem EN_laws_markProcessS {args : List Value} {h : Heap} {k : Value → Heap → Prop} (hargs : args.length = 2) (hw : B_laws_markProcessS.wp Try.prog (retQ [(2, none)] k) (env0 args 4) h) : CallE Try.prog fn_laws_markProcessS args h k := enter Try.func70 rfl IR_laws_markProcessS hargs hw

def H_laws_markState : Hint := ⟨[(0, false), (1, false), (2, true), (4, false)], []⟩
def K38_1 : C := .seq (.pl <| .st (.ext 4 1) <|
    .st (.act none (.px (some 4) (.mv (.v 1)))) <|
    .st (.act none (.px (some 3) (.mv (.v 4)))) .done) (.ret)
@[simp] def W38_1 := @C.wpe _ _ K38_1.eq_1
def K38_2 : Pl := .st (.act none (.px (some 1) (.mv (.v 7)))) .done
@[simp] def W38_2 := @Pl.wpe _ _ K38_2.eq_1
def K38_3 : C := .seq (.pl <| .st (.ext 4 4) <|
    .st (.act none (.als 4 none 2)) <|
    .st (.act none (.pget (some 5) (some 4) 2 1 none)) <|
    .st (.act none (.px (some 6) (.mv (.v 1)))) <|
    .st (.act none (.ex (some 7) (.call fn_laws_markIntS [.v 5, .v 6]))) K38_2) K38_1
@[simp] def W38_3 := @C.wpe _ _ K38_3.eq_1
def K38_4 : Pl := .st (.act none (.px (some 1) (.mv (.v 7)))) .done
@[simp] def W38_4 := @Pl.wpe _ _ K38_4.eq_1
def K38_5 : C := .seq (.pl <| .st (.ext 4 4) <|
    .st (.act none (.als 4 none 2)) <|
    .st (.act none (.pget (some 5) (some 4) 2 0 none)) <|
    .st (.act none (.px (some 6) (.mv (.v 1)))) <|
    .st (.act none (.ex (some 7) (.call fn_laws_markIntS [.v 5, .v 6]))) K38_4) K38_3
@[simp] def W38_5 := @C.wpe _ _ K38_5.eq_1
def B_laws_markState : C := .seq (.pl <| .st (.ext 4 0) <|
    .st (.act none (.pnew 2 (.v 0) [])) <|
    .st (.act none (.px (some 3) (.mv (.c (.int .i64 0))))) .done) K38_5
@[simp] def WB_laws_markState := @C.wpe _ _ B_laws_markState.eq_1
def R_laws_markState : FIR := ⟨B_laws_markState, 4, [(3, none)]⟩
theorem IR_laws_markState : cfun Try.prog H_laws_markState Try.f38 = some R_laws_markState := by kernel_rfl
theorem EN_laws_markState {args : List Value} {h : Heap} {k : Value → Heap → Prop} (hargs : args.length = 2) (hw : B_laws_markState.wp Try.prog (retQ [(3, none)] k) (env0 args 4) h) : CallE Try.prog fn_laws_markState args h k := enter Try.func38 rfl IR_laws_markState hargs hw

def H_laws_markSystem : Hint := ⟨[(0, false), (1, false), (2, true), (4, false)], []⟩
def K20_1 : C := .seq (.pl <| .st (.ext 4 1) <|
    .st (.act none (.px (some 4) (.mv (.v 1)))) <|
    .st (.act none (.px (some 3) (.mv (.v 4)))) .done) (.ret)
@[simp] def W20_1 := @C.wpe _ _ K20_1.eq_1
def K20_2 : Pl := .st (.act none (.px (some 1) (.mv (.v 7)))) .done
@[simp] def W20_2 := @Pl.wpe _ _ K20_2.eq_1
def K20_3 : C := .seq (.pl <| .st (.ext 4 4) <|
    .st (.act none (.als 4 none 2)) <|
    .st (.act none (.pget (some 5) (some 4) 2 1 none)) <|
    .st (.act none (.px (some 6) (.mv (.v 1)))) <|
    .st (.act none (.ex (some 7) (.call fn_laws_markProcessS [.v 5, .v 6]))) K20_2) K20_1
@[simp] def W20_3 := @C.wpe _ _ K20_3.eq_1
def K20_4 : Pl := .st (.act none (.px (some 1) (.mv (.v 7)))) .done
@[simp] def W20_4 := @Pl.wpe _ _ K20_4.eq_1
def K20_5 : C := .seq (.pl <| .st (.ext 4 4) <|
    .st (.act none (.als 4 none 2)) <|
    .st (.act none (.pget (some 5) (some 4) 2 0 none)) <|
    .st (.act none (.px (some 6) (.mv (.v 1)))) <|
    .st (.act none (.ex (some 7) (.call fn_laws_markIntS [.v 5, .v 6]))) K20_4) K20_3
@[simp] def W20_5 := @C.wpe _ _ K20_5.eq_1
def B_laws_markSystem : C := .seq (.pl <| .st (.ext 4 0) <|
    .st (.act none (.pnew 2 (.v 0) [])) <|
    .st (.act none (.px (some 3) (.mv (.c (.int .i64 0))))) .done) K20_5
@[simp] def WB_laws_markSystem := @C.wpe _ _ B_laws_markSystem.eq_1
def R_laws_markSystem : FIR := ⟨B_laws_markSystem, 4, [(3, none)]⟩
theorem IR_laws_markSystem : cfun Try.prog H_laws_markSystem Try.f20 = some R_laws_markSystem := by kernel_rfl
theorem EN_laws_markSystem {args : List Value} {h : Heap} {k : Value → Heap → Prop} (hargs : args.length = 2) (hw : B_laws_markSystem.wp Try.prog (retQ [(3, none)] k) (env0 args 4) h) : CallE Try.prog fn_laws_markSystem args h k := enter Try.func20 rfl IR_laws_markSystem hargs hw

def H_laws_szEdge : Hint := ⟨[(0, false), (1, false), (2, true), (4, false)], []⟩
def K183_1 : C := .seq (.pl <| .st (.ext 4 1) <|
    .st (.act none (.px (some 4) (.mv (.v 1)))) <|
    .st (.act none (.px (some 3) (.mv (.v 4)))) .done) (.ret)
@[simp] def W183_1 := @C.wpe _ _ K183_1.eq_1
def K183_2 : C := .seq (.pl <| .st (.ext 4 0) <|
    .st (.act none (.px (some 3) (.mv (.c (.int .i64 (-1)))))) .done) (.ret)
@[simp] def W183_2 := @C.wpe _ _ K183_2.eq_1
def K183_3 : C := .cond 4 (.v 5) K183_2 (.skip)
@[simp] def W183_3 := @C.wpe _ _ K183_3.eq_1
def K183_4 : C := .seq (.seq (.pl <| .st (.ext 4 2) <|
    .st (.act none (.px (some 4) (.mv (.v 1)))) <|
    .st (.act none (.px (some 5) (.bin .lss (.v 4) (.c (.int .i64 0))))) .done) K183_3) K183_1
@[simp] def W183_4 := @C.wpe _ _ K183_4.eq_1
def K183_5 : Pl := .st (.act none (.px (some 1) (.mv (.v 7)))) .done
@[simp] def W183_5 := @Pl.wpe _ _ K183_5.eq_1
def K183_6 : C := .seq (.pl <| .st (.ext 4 4) <|
    .st (.act none (.als 4 none 2)) <|
    .st (.act none (.pget (some 5) (some 4) 2 6 (some 3))) <|
    .st (.act none (.px (some 6) (.mv (.v 1)))) <|
    .st (.act none (.ex (some 7) (.call fn_laws_szExpr [.v 5, .v 6]))) K183_5) K183_4
@[simp] def W183_6 := @C.wpe _ _ K183_6.eq_1
def K183_7 : C := .seq (.pl <| .st (.ext 4 0) <|
    .st (.act none (.px (some 3) (.mv (.c (.int .i64 (-1)))))) .done) (.ret)
@[simp] def W183_7 := @C.wpe _ _ K183_7.eq_1
def K183_8 : C := .cond 4 (.v 5) K183_7 (.skip)
@[simp] def W183_8 := @C.wpe _ _ K183_8.eq_1
def K183_9 : C := .seq (.seq (.pl <| .st (.ext 4 2) <|
    .st (.act none (.px (some 4) (.mv (.v 1)))) <|
    .st (.act none (.px (some 5) (.bin .lss (.v 4) (.c (.int .i64 0))))) .done) K183_8) K183_6
@[simp] def W183_9 := @C.wpe _ _ K183_9.eq_1
def K183_10 : Pl := .st (.act none (.px (some 1) (.mv (.v 7)))) .done
@[simp] def W183_10 := @Pl.wpe _ _ K183_10.eq_1
def K183_11 : C := .seq (.pl <| .st (.ext 4 4) <|
    .st (.act none (.als 4 none 2)) <|
    .st (.act none (.pget (some 5) (some 4) 2 2 (some 3))) <|
    .st (.act none (.px (some 6) (.mv (.v 1)))) <|
    .st (.act none (.ex (some 7) (.call fn_laws_szExpr [.v 5, .v 6]))) K183_10) K183_9
@[simp] def W183_11 := @C.wpe _ _ K183_11.eq_1
def B_laws_szEdge : C := .seq (.pl <| .st (.ext 4 0) <|
    .st (.act none (.pnew 2 (.v 0) [])) <|
    .st (.act none (.px (some 3) (.mv (.c (.int .i64 0))))) .done) K183_11
@[simp] def WB_laws_szEdge := @C.wpe _ _ B_laws_szEdge.eq_1
def R_laws_szEdge : FIR := ⟨B_laws_szEdge, 4, [(3, none)]⟩
theorem IR_laws_szEdge : cfun Try.prog H_laws_szEdge Try.f183 = some R_laws_szEdge := by kernel_rfl
theorem EN_laws_szEdge {args : List Value} {h : Heap} {k : Value → Heap → Prop} (hargs : args.length = 2) (hw : B_laws_szEdge.wp Try.prog (retQ [(3, none)] k) (env0 args 4) h) : CallE Try.prog fn_laws_szEdge args h k := enter Try.func183 rfl IR_laws_szEdge hargs hw

def H_laws_szEdgeS : Hint := ⟨[(0, false), (1, false), (4, false), (5, false)], [[2]]⟩
def K152_1 : C := .seq (.pl <| .st (.ext 4 1) <|
    .st (.act none (.px (some 4) (.mv (.v 1)))) <|
    .st (.act none (.px (some 2) (.mv (.v 4)))) .done) (.ret)
@[simp] def W152_1 := @C.wpe _ _ K152_1.eq_1
def K152_2 : C := .pl <| .st (.ext 4 2) <|
    .st (.act none (.px (some 4) (.mv (.v 3)))) <|
    .st (.act none (.px (some 5) (.bin .add (.v 4) (.c (.int .i64 1))))) <|
    .st (.act none (.px (some 3) (.mv (.v 5)))) .done
@[simp] def W152_2 := @C.wpe _ _ K152_2.eq_1
def K152_3 : C := .seq (.pl <| .st (.ext 4 0) <|
    .st (.act none (.px (some 2) (.mv (.c (.int .i64 (-1)))))) .done) (.ret)
@[simp] def W152_3 := @C.wpe _ _ K152_3.eq_1
def K152_4 : C := .cond 4 (.v 5) K152_3 (.skip)
@[simp] def W152_4 := @C.wpe _ _ K152_4.eq_1
def K152_5 : C := .seq (.pl <| .st (.ext 4 2) <|
    .st (.act none (.px (some 4) (.mv (.v 1)))) <|
    .st (.act none (.px (some 5) (.bin .lss (.v 4) (.c (.int .i64 0))))) .done) K152_4
@[simp] def W152_5 := @C.wpe _ _ K152_5.eq_1
def K152_6 : Pl := .st (.act none (.px (some 1) (.mv (.v 9)))) .done
@[simp] def W152_6 := @Pl.wpe _ _ K152_6.eq_1
def K152_7 : C := .seq (.block 1 (.seq (.pl <| .st (.ext 4 6) <|
    .st (.act none (.px (some 4) (.mv (.v 0)))) <|
    .st (.act none (.px (some 5) (.mv (.v 3)))) <|
    .st (.act none (.px (some 6) (.ia 10 (.v 4) (.v 5)))) <|
    .st (.act none (.ld (some 7) (.v 6) (some 10))) <|
    .st (.act none (.px (some 8) (.mv (.v 1)))) <|
    .st (.act none (.ex (some 9) (.call fn_laws_szEdge [.v 7, .v 8]))) K152_6) K152_5)) K152_2
@[simp] def W152_7 := @C.wpe _ _ K152_7.eq_1
def K152_8 : C := .cond 4 (.v 7) (.skip) (.exit 0)
@[simp] def W152_8 := @C.wpe _ _ K152_8.eq_1
def K152_9 : C := .seq (.seq (.pl <| .st (.ext 4 4) <|
    .st (.act none (.px (some 4) (.mv (.v 3)))) <|
    .st (.act none (.px (some 5) (.mv (.v 0)))) <|
    .st (.act none (.px (some 6) (.lenV (.v 5)))) <|
    .st (.act none (.px (some 7) (.bin .lss (.v 4) (.v 6)))) .done) K152_8) K152_7
@[simp] def W152_9 := @C.wpe _ _ K152_9.eq_1
def K152_10 : C := .block 0 (.loop 4 [2] K152_9)
@[simp] def W152_10 := @C.wpe _ _ K152_10.eq_1
def K152_11 : C := .seq (.seq (.pl <| .st (.ext 4 0) <|
    .st (.act none (.px (some 3) (.mv (.c (.int .i64 0))))) .done) K152_10) K152_1
@[simp] def W152_11 := @C.wpe _ _ K152_11.eq_1
def K152_12 : C := .seq (.pl <| .st (.ext 4 0) <|
    .st (.act none (.px (some 2) (.mv (.c (.int .i64 (-1)))))) .done) (.ret)
@[simp] def W152_12 := @C.wpe _ _ K152_12.eq_1
def K152_13 : C := .cond 4 (.v 5) K152_12 (.skip)
@[simp] def W152_13 := @C.wpe _ _ K152_13.eq_1
def K152_14 : C := .seq (.seq (.pl <| .st (.ext 4 2) <|
    .st (.act none (.px (some 4) (.mv (.v 1)))) <|
    .st (.act none (.px (some 5) (.bin .lss (.v 4) (.c (.int .i64 0))))) .done) K152_13) K152_11
@[simp] def W152_14 := @C.wpe _ _ K152_14.eq_1
def K152_15 : C := .seq (.pl <| .st (.ext 4 4) <|
    .st (.act none (.px (some 4) (.mv (.v 1)))) <|
    .st (.act none (.px (some 5) (.mv (.v 0)))) <|
    .st (.act none (.px (some 6) (.lenV (.v 5)))) <|
    .st (.act none (.px (some 7) (.bin .sub (.v 4) (.v 6)))) <|
    .st (.act none (.px (some 1) (.mv (.v 7)))) .done) K152_14
@[simp] def W152_15 := @C.wpe _ _ K152_15.eq_1
def B_laws_szEdgeS : C := .seq (.pl <| .st (.ext 4 0) <|
    .st (.act none (.px (some 2) (.mv (.c (.int .i64 0))))) .done) K152_15
@[simp] def WB_laws_szEdgeS := @C.wpe _ _ B_laws_szEdgeS.eq_1
def R_laws_szEdgeS : FIR := ⟨B_laws_szEdgeS, 4, [(2, none)]⟩
theorem IR_laws_szEdgeS : cfun Try.prog H_laws_szEdgeS Try.f152 = some R_laws_szEdgeS := by kernel_rfl
theorem EN_laws_szEdgeS {args : List Value} {h : Heap} {k : Value → Heap → Prop} (hargs : args.length = 2) (hw : B_laws_szEdgeS.wp Try.prog (retQ [(2, none)] k) (env0 args 4) h) : CallE Try.prog fn_laws_szEdgeS args h k := enter Try.func152 rfl IR_laws_szEdgeS hargs hw

def H_laws_szExpr : Hint := ⟨[(0, false), (1, false), (2, true), (4, false)], []⟩
def K59_1 : C := .seq (.pl <| .st (.ext 4 1) <|
    .st (.act none (.px (some 4) (.mv (.v 1)))) <|
    .st (.act none (.px (some 3) (.mv (.v 4)))) .done) (.ret)
@[simp] def W59_1 := @C.wpe _ _ K59_1.eq_1
def K59_2 : C := .seq (.pl <| .st (.ext 4 0) <|
    .st (.act none (.px (some 3) (.mv (.c (.int .i64 (-1)))))) .done) (.ret)
@[simp] def W59_2 := @C.wpe _ _ K59_2.eq_1
def K59_3 : C := .cond 4 (.v 5) K59_2 (.skip)
@[simp] def W59_3 := @C.wpe _ _ K59_3.eq_1
def K59_4 : C := .seq (.seq (.pl <| .st (.ext 4 2) <|
    .st (.act none (.px (some 4) (.mv (.v 1)))) <|
    .st (.act none (.px (some 5) (.bin .lss (.v 4) (.c (.int .i64 0))))) .done) K59_3) K59_1
@[simp] def W59_4 := @C.wpe _ _ K59_4.eq_1
def K59_5 : Pl := .st (.act none (.px (some 1) (.mv (.v 7)))) .done
@[simp] def W59_5 := @Pl.wpe _ _ K59_5.eq_1
def K59_6 : C := .seq (.pl <| .st (.ext 4 4) <|
    .st (.act none (.als 4 none 2)) <|
    .st (.act none (.pget (some 5) (some 4) 2 2 none)) <|
    .st (.act none (.px (some 6) (.mv (.v 1)))) <|
    .st (.act none (.ex (some 7) (.call fn_laws_szExprS [.v 5, .v 6]))) K59_5) K59_4
@[simp] def W59_6 := @C.wpe _ _ K59_6.eq_1
def B_laws_szExpr : C := .seq (.pl <| .st (.ext 4 0) <|
    .st (.act none (.pnew 2 (.v 0) [])) <|
    .st (.act none (.px (some 3) (.mv (.c (.int .i64 0))))) .done) K59_6
@[simp] def WB_laws_szExpr := @C.wpe _ _ B_laws_szExpr.eq_1
def R_laws_szExpr : FIR := ⟨B_laws_szExpr, 4, [(3, none)]⟩
theorem IR_laws_szExpr : cfun Try.prog H_laws_szExpr Try.f59 = some R_laws_szExpr := by kernel_rfl
theorem EN_laws_szExpr {args : List Value} {h : Heap} {k : Value → Heap → Prop} (hargs : args.length = 2) (hw : B_laws_szExpr.wp Try.prog (retQ [(3, none)] k) (env0 args 4) h) : CallE Try.prog fn_laws_szExpr args h k := enter Try.func59 rfl IR_laws_szExpr hargs hw

def H_laws_szExprS : Hint := ⟨[(0, false), (1, false), (4, false), (5, false)], [[2]]⟩
def K12_1 : C := .seq (.pl <| .st (.ext 4 1) <|
    .st (.act none (.px (some 4) (.mv (.v 1)))) <|
    .st (.act none (.px (some 2) (.mv (.v 4)))) .done) (.ret)
@[simp] def W12_1 := @C.wpe _ _ K12_1.eq_1
def K12_2 : C := .pl <| .st (.ext 4 2) <|
    .st (.act none (.px (some 4) (.mv (.v 3)))) <|
    .st (.act none (.px (some 5) (.bin .add (.v 4) (.c (.int .i64 1))))) <|
    .st (.act none (.px (some 3) (.mv (.v 5)))) .done
@[simp] def W12_2 := @C.wpe _ _ K12_2.eq_1
def K12_3 : C := .seq (.pl <| .st (.ext 4 0) <|
    .st (.act none (.px (some 2) (.mv (.c (.int .i64 (-1)))))) .done) (.ret)
@[simp] def W12_3 := @C.wpe _ _ K12_3.eq_1
def K12_4 : C := .cond 4 (.v 5) K12_3 (.skip)
@[simp] def W12_4 := @C.wpe _ _ K12_4.eq_1
def K12_5 : C := .seq (.pl <| .st (.ext 4 2) <|
    .st (.act none (.px (some 4) (.mv (.v 1)))) <|
    .st (.act none (.px (some 5) (.bin .lss (.v 4) (.c (.int .i64 0))))) .done) K12_4
@[simp] def W12_5 := @C.wpe _ _ K12_5.eq_1
def K12_6 : Pl := .st (.act none (.px (some 1) (.mv (.v 9)))) .done
@[simp] def W12_6 := @Pl.wpe _ _ K12_6.eq_1
def K12_7 : C := .seq (.block 1 (.seq (.pl <| .st (.ext 4 6) <|
    .st (.act none (.px (some 4) (.mv (.v 0)))) <|
    .st (.act none (.px (some 5) (.mv (.v 3)))) <|
    .st (.act none (.px (some 6) (.ia 3 (.v 4) (.v 5)))) <|
    .st (.act none (.ld (some 7) (.v 6) (some 3))) <|
    .st (.act none (.px (some 8) (.mv (.v 1)))) <|
    .st (.act none (.ex (some 9) (.call fn_laws_szExpr [.v 7, .v 8]))) K12_6) K12_5)) K12_2
@[simp] def W12_7 := @C.wpe _ _ K12_7.eq_1
def K12_8 : C := .cond 4 (.v 7) (.skip) (.exit 0)
@[simp] def W12_8 := @C.wpe _ _ K12_8.eq_1
def K12_9 : C := .seq (.seq (.pl <| .st (.ext 4 4) <|
    .st (.act none (.px (some 4) (.mv (.v 3)))) <|
    .st (.act none (.px (some 5) (.mv (.v 0)))) <|
    .st (.act none (.px (some 6) (.lenV (.v 5)))) <|
    .st (.act none (.px (some 7) (.bin .lss (.v 4) (.v 6)))) .done) K12_8) K12_7
@[simp] def W12_9 := @C.wpe _ _ K12_9.eq_1
def K12_10 : C := .block 0 (.loop 4 [2] K12_9)
@[simp] def W12_10 := @C.wpe _ _ K12_10.eq_1
def K12_11 : C := .seq (.seq (.pl <| .st (.ext 4 0) <|
    .st (.act none (.px (some 3) (.mv (.c (.int .i64 0))))) .done) K12_10) K12_1
@[simp] def W12_11 := @C.wpe _ _ K12_11.eq_1
def K12_12 : C := .seq (.pl <| .st (.ext 4 0) <|
    .st (.act none (.px (some 2) (.mv (.c (.int .i64 (-1)))))) .done) (.ret)
@[simp] def W12_12 := @C.wpe _ _ K12_12.eq_1
def K12_13 : C := .cond 4 (.v 5) K12_12 (.skip)
@[simp] def W12_13 := @C.wpe _ _ K12_13.eq_1
def K12_14 : C := .seq (.seq (.pl <| .st (.ext 4 2) <|
    .st (.act none (.px (some 4) (.mv (.v 1)))) <|
    .st (.act none (.px (some 5) (.bin .lss (.v 4) (.c (.int .i64 0))))) .done) K12_13) K12_11
@[simp] def W12_14 := @C.wpe _ _ K12_14.eq_1
def K12_15 : C := .seq (.pl <| .st (.ext 4 4) <|
    .st (.act none (.px (some 4) (.mv (.v 1)))) <|
    .st (.act none (.px (some 5) (.mv (.v 0)))) <|
    .st (.act none (.px (some 6) (.lenV (.v 5)))) <|
    .st (.act none (.px (some 7) (.bin .sub (.v 4) (.v 6)))) <|
    .st (.act none (.px (some 1) (.mv (.v 7)))) .done) K12_14
@[simp] def W12_15 := @C.wpe _ _ K12_15.eq_1
def B_laws_szExprS : C := .seq (.pl <| .st (.ext 4 0) <|
    .st (.act none (.px (some 2) (.mv (.c (.int .i64 0))))) .done) K12_15
@[simp] def WB_laws_szExprS := @C.wpe _ _ B_laws_szExprS.eq_1
def R_laws_szExprS : FIR := ⟨B_laws_szExprS, 4, [(2, none)]⟩
theorem IR_laws_szExprS : cfun Try.prog H_laws_szExprS Try.f12 = some R_laws_szExprS := by kernel_rfl
theorem EN_laws_szExprS {args : List Value} {h : Heap} {k : Value → Heap → Prop} (hargs : args.length = 2) (hw : B_laws_szExprS.wp Try.prog (retQ [(2, none)] k) (env0 args 4) h) : CallE Try.prog fn_laws_szExprS args h k := enter Try.func12 rfl IR_laws_szExprS hargs hw

def H_laws_szIntS : Hint := ⟨[(0, false), (1, false), (4, false)], []⟩
def K57_1 : C := .seq (.pl <| .st (.ext 3 1) <|
    .st (.act none (.px (some 3) (.mv (.v 1)))) <|
    .st (.act none (.px (some 2) (.mv (.v 3)))) .done) (.ret)
@[simp] def W57_1 := @C.wpe _ _ K57_1.eq_1
def K57_2 : C := .seq (.pl <| .st (.ext 3 0) <|
    .st (.act none (.px (some 2) (.mv (.c (.int .i64 (-1)))))) .done) (.ret)
@[simp] def W57_2 := @C.wpe _ _ K57_2.eq_1
def K57_3 : C := .cond 3 (.v 4) K57_2 (.skip)
@[simp] def W57_3 := @C.wpe _ _ K57_3.eq_1
def K57_4 : C := .seq (.seq (.pl <| .st (.ext 3 2) <|
    .st (.act none (.px (some 3) (.mv (.v 1)))) <|
    .st (.act none (.px (some 4) (.bin .lss (.v 3) (.c (.int .i64 0))))) .done) K57_3) K57_1
@[simp] def W57_4 := @C.wpe _ _ K57_4.eq_1
def K57_5 : C := .seq (.pl <| .st (.ext 3 4) <|
    .st (.act none (.px (some 3) (.mv (.v 1)))) <|
    .st (.act none (.px (some 4) (.mv (.v 0)))) <|
    .st (.act none (.px (some 5) (.lenV (.v 4)))) <|
    .st (.act none (.px (some 6) (.bin .sub (.v 3) (.v 5)))) <|
    .st (.act none (.px (some 1) (.mv (.v 6)))) .done) K57_4
@[simp] def W57_5 := @C.wpe _ _ K57_5.eq_1
def B_laws_szIntS : C := .seq (.pl <| .st (.ext 3 0) <|
    .st (.act none (.px (some 2) (.mv (.c (.int .i64 0))))) .done) K57_5
@[simp] def WB_laws_szIntS := @C.wpe _ _ B_laws_szIntS.eq_1
def R_laws_szIntS : FIR := ⟨B_laws_szIntS, 3, [(2, none)]⟩
theorem IR_laws_szIntS : cfun Try.prog H_laws_szIntS Try.f57 = some R_laws_szIntS := by kernel_rfl
theorem EN_laws_szIntS {args : List Value} {h : Heap} {k : Value → Heap → Prop} (hargs : args.length = 2) (hw : B_laws_szIntS.wp Try.prog (retQ [(2, none)] k) (env0 args 3) h) : CallE Try.prog fn_laws_szIntS args h k := enter Try.func57 rfl IR_laws_szIntS hargs hw

def H_laws_szProcess : Hint := ⟨[(0, false), (1, false), (2, true), (4, false)], []⟩
def K113_1 : C := .seq (.pl <| .st (.ext 4 1) <|
    .st (.act none (.px (some 4) (.mv (.v 1)))) <|
    .st (.act none (.px (some 3) (.mv (.v 4)))) .done) (.ret)
@[simp] def W113_1 := @C.wpe _ _ K113_1.eq_1
def K113_2 : C := .seq (.pl <| .st (.ext 4 0) <|
    .st (.act none (.px (some 3) (.mv (.c (.int .i64 (-1)))))) .done) (.ret)
@[simp] def W113_2 := @C.wpe _ _ K113_2.eq_1
def K113_3 : C := .cond 4 (.v 5) K113_2 (.skip)
@[simp] def W113_3 := @C.wpe _ _ K113_3.eq_1
def K113_4 : C := .seq (.seq (.pl <| .st (.ext 4 2) <|
    .st (.act none (.px (some 4) (.mv (.v 1)))) <|
    .st (.act none (.px (some 5) (.bin .lss (.v 4) (.c (.int .i64 0))))) .done) K113_3) K113_1
@[simp] def W113_4 := @C.wpe _ _ K113_4.eq_1
def K113_5 : Pl := .st (.act none (.px (some 1) (.mv (.v 7)))) .done
@[simp] def W113_5 := @Pl.wpe _ _ K113_5.eq_1
def K113_6 : C := .seq (.pl <| .st (.ext 4 4) <|
    .st (.act none (.als 4 none 2)) <|
    .st (.act none (.pget (some 5) (some 4) 2 1 none)) <|
    .st (.act none (.px (some 6) (.mv (.v 1)))) <|
    .st (.act none (.ex (some 7) (.call fn_laws_szEdgeS [.v 5, .v 6]))) K113_5) K113_4
@[simp] def W113_6 := @C.wpe _ _ K113_6.eq_1
def B_laws_szProcess : C := .seq (.pl <| .st (.ext 4 0) <|
    .st (.act none (.pnew 2 (.v 0) [])) <|
    .st (.act none (.px (some 3) (.mv (.c (.int .i64 0))))) .done) K113_6
@[simp] def WB_laws_szProcess := @C.wpe _ _ B_laws_szProcess.eq_1
def R_laws_szProcess : FIR := ⟨B_laws_szProcess, 4, [(3, none)]⟩
theorem IR_laws_szProcess : cfun Try.prog H_laws_szProcess Try.f113 = some R_laws_szProcess := by kernel_rfl
theorem EN_laws_szProcess {args : List Value} {h : Heap} {k : Value → Heap → Prop} (hargs : args.length = 2) (hw : B_laws_szProcess.wp Try.prog (retQ [(3, none)] k) (env0 args 4) h) : CallE Try.prog fn_laws_szProcess args h k := enter Try.func113 rfl IR_laws_szProcess hargs hw

def H_laws_szProcessS : Hint := ⟨[(0, false), (1, false), (4, false), (5, false)], [[2]]⟩
def K58_1 : C := .seq (.pl <| .st (.ext 4 1) <|
    .st (.act none (.px (some 4) (.mv (.v 1)))) <|
    .st (.act none (.px (some 2) (.mv (.v 4)))) .done) (.ret)
@[simp] def W58_1 := @C.wpe _ _ K58_1.eq_1
def K58_2 : C := .pl <| .st (.ext 4 2) <|
    .st (.act none (.px (some 4) (.mv (.v 3)))) <|
    .st (.act none (.px (some 5) (.bin .add (.v 4) (.c (.int .i64 1))))) <|
    .st (.act none (.px (some 3) (.mv (.v 5)))) .done
@[simp] def W58_2 := @C.wpe _ _ K58_2.eq_1
def K58_3 : C := .seq (.pl <| .st (.ext 4 0) <|
    .st (.act none (.px (some 2) (.mv (.c (.int .i64 (-1)))))) .done) (.ret)
@[simp] def W58_3 := @C.wpe _ _ K58_3.eq_1
def K58_4 : C := .cond 4 (.v 5) K58_3 (.skip)
@[simp] def W58_4 := @C.wpe _ _ K58_4.eq_1
def K58_5 : C := .seq (.pl <| .st (.ext 4 2) <|
    .st (.act none (.px (some 4) (.mv (.v 1)))) <|
    .st (.act none (.px (some 5) (.bin .lss (.v 4) (.c (.int .i64 0))))) .done) K58_4
@[simp] def W58_5 := @C.wpe _ _ K58_5.eq_1
def K58_6 : Pl := .st (.act none (.px (some 1) (.mv (.v 9)))) .done
@[simp] def W58_6 := @Pl.wpe _ _ K58_6.eq_1
def K58_7 : C := .seq (.block 1 (.seq (.pl <| .st (.ext 4 6) <|
    .st (.act none (.px (some 4) (.mv (.v 0)))) <|
    .st (.act none (.px (some 5) (.mv (.v 3)))) <|
    .st (.act none (.px (some 6) (.ia 2 (.v 4) (.v 5)))) <|
    .st (.act none (.ld (some 7) (.v 6) (some 2))) <|
    .st (.act none (.px (some 8) (.mv (.v 1)))) <|
    .st (.act none (.ex (some 9) (.call fn_laws_szProcess [.v 7, .v 8]))) K58_6) K58_5)) K58_2
@[simp] def W58_7 := @C.wpe _ _ K58_7.eq_1
def K58_8 : C := .cond 4 (.v 7) (.skip) (.exit 0)
@[simp] def W58_8 := @C.wpe _ _ K58_8.eq_1
def K58_9 : C := .seq (.seq (.pl <| .st (.ext 4 4) <|
    .st (.act none (.px (some 4) (.mv (.v 3)))) <|
    .st (.act none (.px (some 5) (.mv (.v 0)))) <|
    .st (.act none (.px (some 6) (.lenV (.v 5)))) <|
    .st (.act none (.px (some 7) (.bin .lss (.v 4) (.v 6)))) .done) K58_8) K58_7
@[simp] def W58_9 := @C.wpe _ _ K58_9.eq_1
def K58_10 : C := .block 0 (.loop 4 [2] K58_9)
@[simp] def W58_10 := @C.wpe _ _ K58_10.eq_1
def K58_11 : C := .seq (.seq (.pl <| .st (.ext 4 0) <|
    .st (.act none (.px (some 3) (.mv (.c (.int .i64 0))))) .done) K58_10) K58_1
@[simp] def W58_11 := @C.wpe _ _ K58_11.eq_1
def K58_12 : C := .seq (.pl <| .st (.ext 4 0) <|
    .st (.act none (.px (some 2) (.mv (.c (.int .i64 (-1)))))) .done) (.ret)
@[simp] def W58_12 := @C.wpe _ _ K58_12.eq_1
def K58_13 : C := .cond 4 (.v 5) K58_12 (.skip)
@[simp] def W58_13 := @C.wpe _ _ K58_13.eq_1
def K58_14 : C := .seq (.seq (.pl <| .st (.ext 4 2) <|
    .st (.act none (.px (some 4) (.mv (.v 1)))) <|
    .st (.act none (.px (some 5) (.bin .lss (.v 4) (.c (.int .i64 0))))) .done) K58_13) K58_11
@[simp] def W58_14 := @C.wpe _ _ K58_14.eq_1
def K58_15 : C := .seq (.pl <| .st (.ext 4 4) <|
    .st (.act none (.px (some 4) (.mv (.v 1)))) <|
    .st (.act none (.px (some 5) (.mv (.v 0)))) <|
    .st (.act none (.px (some 6) (.lenV (.v 5)))) <|
    .st (.act none (.px (some 7) (.bin .sub (.v 4) (.v 6)))) <|
    .st (.act none (.px (some 1) (.mv (.v 7)))) .done) K58_14
@[simp] def W58_15 := @C.wpe _ _ K58_15.eq_1
def B_laws_szProcessS : C := .seq (.pl <| .st (.ext 4 0) <|
    .st (.act none (.px (some 2) (.mv (.c (.int .i64 0))))) .done) K58_15
@[simp] def WB_laws_szProcessS := @C.wpe _ _ B_laws_szProcessS.eq_1
def R_laws_szProcessS : FIR := ⟨B_laws_szProcessS, 4, [(2, none)]⟩
theorem IR_laws_szProcessS : cfun Try.prog H_laws_szProcessS Try.f58 = some R_laws_szProcessS := by kernel_rfl
theorem EN_laws_szProcessS {args : List Value} {h : Heap} {k : Value → Heap → Prop} (hargs : args.length = 2) (hw : B_laws_szProcessS.wp Try.prog (retQ [(2, none)] k) (env0 args 4) h) : CallE Try.prog fn_laws_szProcessS args h k := enter Try.func58 rfl IR_laws_szProcessS hargs hw

def H_laws_szState : Hint := ⟨[(0, false), (1, false), (2, true), (4, false)], []⟩
def K33_1 : C := .seq (.pl <| .st (.ext 4 1) <|
    .st (.act none (.px (some 4) (.mv (.v 1)))) <|
    .st (.act none (.px (some 3) (.mv (.v 4)))) .done) (.ret)
@[simp] def W33_1 := @C.wpe _ _ K33_1.eq_1
def K33_2 : C := .seq (.pl <| .st (.ext 4 0) <|
    .st (.act none (.px (some 3) (.mv (.c (.int .i64 (-1)))))) .done) (.ret)
@[simp] def W33_2 := @C.wpe _ _ K33_2.eq_1
def K33_3 : C := .cond 4 (.v 5) K33_2 (.skip)
@[simp] def W33_3 := @C.wpe _ _ K33_3.eq_1
def K33_4 : C := .seq (.seq (.pl <| .st (.ext 4 2) <|
    .st (.act none (.px (some 4) (.mv (.v 1)))) <|
    .st (.act none (.px (some 5) (.bin .lss (.v 4) (.c (.int .i64 0))))) .done) K33_3) K33_1
@[simp] def W33_4 := @C.wpe _ _ K33_4.eq_1
def K33_5 : Pl := .st (.act none (.px (some 1) (.mv (.v 7)))) .done
@[simp] def W33_5 := @Pl.wpe _ _ K33_5.eq_1
def K33_6 : C := .seq (.pl <| .st (.ext 4 4) <|
    .st (.act none (.als 4 none 2)) <|
    .st (.act none (.pget (some 5) (some 4) 2 1 none)) <|
    .st (.act none (.px (some 6) (.mv (.v 1)))) <|
    .st (.act none (.ex (some 7) (.call fn_laws_szIntS [.v 5, .v 6]))) K33_5) K33_4
@[simp] def W33_6 := @C.wpe _ _ K33_6.eq_1
def K33_7 : C := .seq (.pl <| .st (.ext 4 0) <|
    .st (.act none (.px (some 3) (.mv (.c (.int .i64 (-1)))))) .done) (.ret)
@[simp] def W33_7 := @C.wpe _ _ K33_7.eq_1
def K33_8 : C := .cond 4 (.v 5) K33_7 (.skip)
@[simp] def W33_8 := @C.wpe _ _ K33_8.eq_1
def K33_9 : C := .seq (.seq (.pl <| .st (.ext 4 2) <|
    .st (.act none (.px (some 4) (.mv (.v 1)))) <|
    .st (.act none (.px (some 5) (.bin .lss (.v 4) (.c (.int .i64 0))))) .done) K33_8) K33_6
@[simp] def W33_9 := @C.wpe _ _ K33_9.eq_1
def K33_10 : Pl := .st (.act none (.px (some 1) (.mv (.v 7)))) .done
@[simp] def W33_10 := @Pl.wpe _ _ K33_10.eq_1
def K33_11 : C := .seq (.pl <| .st (.ext 4 4) <|
    .st (.act none (.als 4 none 2)) <|
    .st (.act none (.pget (some 5) (some 4) 2 0 none)) <|
    .st (.act none (.px (some 6) (.mv (.v 1)))) <|
    .st (.act none (.ex (some 7) (.call fn_laws_szIntS [.v 5, .v 6]))) K33_10) K33_9
@[simp] def W33_11 := @C.wpe _ _ K33_11.eq_1
def B_laws_szState : C := .seq (.pl <| .st (.ext 4 0) <|
    .st (.act none (.pnew 2 (.v 0) [])) <|
    .st (.act none (.px (some 3) (.mv (.c (.int .i64 0))))) .done) K33_11
@[simp] def WB_laws_szState := @C.wpe _ _ B_laws_szState.eq_1
def R_laws_szState : FIR := ⟨B_laws_szState, 4, [(3, none)]⟩
theorem IR_laws_szState : cfun Try.prog H_laws_szState Try.f33 = some R_laws_szState := by kernel_rfl
theorem EN_laws_szState {args : List Value} {h : Heap} {k : Value → Heap → Prop} (hargs : args.length = 2) (hw : B_laws_szState.wp Try.prog (retQ [(3, none)] k) (env0 args 4) h) : CallE Try.prog fn_laws_szState args h k := enter Try.func33 rfl IR_laws_szState hargs hw

def H_laws_szSystem : Hint := ⟨[(0, false), (1, false), (2, true), (4, false)], []⟩
def K11_1 : C := .seq (.pl <| .st (.ext 4 1) <|
    .st (.act none (.px (some 4) (.mv (.v 1)))) <|
    .st (.act none (.px (some 3) (.mv (.v 4)))) .done) (.ret)
@[simp] def W11_1 := @C.wpe _ _ K11_1.eq_1
def K11_2 : C := .seq (.pl <| .st (.ext 4 0) <|
    .st (.act none (.px (some 3) (.mv (.c (.int .i64 (-1)))))) .done) (.ret)
@[simp] def W11_2 := @C.wpe _ _ K11_2.eq_1
def K11_3 : C := .cond 4 (.v 5) K11_2 (.skip)
@[simp] def W11_3 := @C.wpe _ _ K11_3.eq_1
def K11_4 : C := .seq (.seq (.pl <| .st (.ext 4 2) <|
    .st (.act none (.px (some 4) (.mv (.v 1)))) <|
    .st (.act none (.px (some 5) (.bin .lss (.v 4) (.c (.int .i64 0))))) .done) K11_3) K11_1
@[simp] def W11_4 := @C.wpe _ _ K11_4.eq_1
def K11_5 : Pl := .st (.act none (.px (some 1) (.mv (.v 7)))) .done
@[simp] def W11_5 := @Pl.wpe _ _ K11_5.eq_1
def K11_6 : C := .seq (.pl <| .st (.ext 4 4) <|
    .st (.act none (.als 4 none 2)) <|
    .st (.act none (.pget (some 5) (some 4) 2 1 none)) <|
    .st (.act none (.px (some 6) (.mv (.v 1)))) <|
    .st (.act none (.ex (some 7) (.call fn_laws_szProcessS [.v 5, .v 6]))) K11_5) K11_4
@[simp] def W11_6 := @C.wpe _ _ K11_6.eq_1
def K11_7 : C := .seq (.pl <| .st (.ext 4 0) <|
    .st (.act none (.px (some 3) (.mv (.c (.int .i64 (-1)))))) .done) (.ret)
@[simp] def W11_7 := @C.wpe _ _ K11_7.eq_1
def K11_8 : C := .cond 4 (.v 5) K11_7 (.skip)
@[simp] def W11_8 := @C.wpe _ _ K11_8.eq_1
def K11_9 : C := .seq (.seq (.pl <| .st (.ext 4 2) <|
    .st (.act none (.px (some 4) (.mv (.v 1)))) <|
    .st (.act none (.px (some 5) (.bin .lss (.v 4) (.c (.int .i64 0))))) .done) K11_8) K11_6
@[simp] def W11_9 := @C.wpe _ _ K11_9.eq_1
def K11_10 : Pl := .st (.act none (.px (some 1) (.mv (.v 7)))) .done
@[simp] def W11_10 := @Pl.wpe _ _ K11_10.eq_1
def K11_11 : C := .seq (.pl <| .st (.ext 4 4) <|
    .st (.act none (.als 4 none 2)) <|
    .st (.act none (.pget (some 5) (some 4) 2 0 none)) <|
    .st (.act none (.px (some 6) (.mv (.v 1)))) <|
    .st (.act none (.ex (some 7) (.call fn_laws_szIntS [.v 5, .v 6]))) K11_10) K11_9
@[simp] def W11_11 := @C.wpe _ _ K11_11.eq_1
def B_laws_szSystem : C := .seq (.pl <| .st (.ext 4 0) <|
    .st (.act none (.pnew 2 (.v 0) [])) <|
    .st (.act none (.px (some 3) (.mv (.c (.int .i64 0))))) .done) K11_11
@[simp] def WB_laws_szSystem := @C.wpe _ _ B_laws_szSystem.eq_1
def R_laws_szSystem : FIR := ⟨B_laws_szSystem, 4, [(3, none)]⟩
theorem IR_laws_szSystem : cfun Try.prog H_laws_szSystem Try.f11 = some R_laws_szSystem := by kernel_rfl
theorem EN_laws_szSystem {args : List Value} {h : Heap} {k : Value → Heap → Prop} (hargs : args.length = 2) (hw : B_laws_szSystem.wp Try.prog (retQ [(3, none)] k) (env0 args 4) h) : CallE Try.prog fn_laws_szSystem args h k := enter Try.func11 rfl IR_laws_szSystem hargs hw

def H_laws_toEdge : Hint := ⟨[(0, false), (1, true), (2, true), (3, true)], []⟩
def K186_1 : C := .seq (.pl <| .st (.ext 4 1) <|
    .st (.act none (.pget (some 4) none 3 0 (some 10))) <|
    .st (.act none (.pset none 2 0 10 (.v 4))) .done) (.ret)
@[simp] def W186_1 := @C.wpe _ _ K186_1.eq_1
def K186_2 : C := .seq (.pl <| .st (.ext 4 3) <|
    .st (.act none (.als 4 none 1)) <|
    .st (.act none (.pget (some 5) (some 4) 1 9 none)) <|
    .st (.act none (.als 6 none 3)) <|
    .st (.act none (.pset (some 6) 3 9 1 (.v 5))) .done) K186_1
@[simp] def W186_2 := @C.wpe _ _ K186_2.eq_1
def K186_3 : Pl := .st (.act none (.als 7 none 3)) <|
    .st (.act none (.pset (some 7) 3 6 3 (.v 6))) .done
@[simp] def W186_3 := @Pl.wpe _ _ K186_3.eq_1
def K186_4 : C := .seq (.pl <| .st (.ext 4 4) <|
    .st (.act none (.als 4 none 1)) <|
    .st (.act none (.pget (some 5) (some 4) 1 6 (some 3))) <|
    .st (.act none (.ex (some 6) (.call fn_laws_toExpr [.v 5]))) K186_3) K186_2
@[simp] def W186_4 := @C.wpe _ _ K186_4.eq_1
def K186_5 : C := .seq (.pl <| .st (.ext 4 3) <|
    .st (.act none (.als 4 none 1)) <|
    .st (.act none (.pget (some 5) (some 4) 1 5 none)) <|
    .st (.act none (.als 6 none 3)) <|
    .st (.act none (.pset (some 6) 3 5 1 (.v 5))) .done) K186_4
@[simp] def W186_5 := @C.wpe _ _ K186_5.eq_1
def K186_6 : Pl := .st (.act none (.als 7 none 3)) <|
    .st (.act none (.pset (some 7) 3 2 3 (.v 6))) .done
@[simp] def W186_6 := @Pl.wpe _ _ K186_6.eq_1
def K186_7 : C := .seq (.pl <| .st (.ext 4 4) <|
    .st (.act none (.als 4 none 1)) <|
    .st (.act none (.pget (some 5) (some 4) 1 2 (some 3))) <|
    .st (.act none (.ex (some 6) (.call fn_laws_toExpr [.v 5]))) K186_6) K186_5
@[simp] def W186_7 := @C.wpe _ _ K186_7.eq_1
def K186_8 : C := .seq (.pl <| .st (.ext 4 3) <|
    .st (.act none (.als 4 none 1)) <|
    .st (.act none (.pget (some 5) (some 4) 1 1 none)) <|
    .st (.act none (.als 6 none 3)) <|
    .st (.act none (.pset (some 6) 3 1 1 (.v 5))) .done) K186_7
@[simp] def W186_8 := @C.wpe _ _ K186_8.eq_1
def K186_9 : C := .seq (.pl <| .st (.ext 4 3) <|
    .st (.act none (.als 4 none 1)) <|
    .st (.act none (.pget (some 5) (some 4) 1 0 none)) <|
    .st (.act none (.als 6 none 3)) <|
    .st (.act none (.pset (some 6) 3 0 1 (.v 5))) .done) K186_8
@[simp] def W186_9 := @C.wpe _ _ K186_9.eq_1
def K186_10 : C := .seq (.pl <| .st (.ext 4 0) <|
    .st (.act none (.pnew 3 (.c (.agg #[.int .i64 0, .int .i64 0, .int .i64 0, .int .i64 0, .slice none 0 0, .int .i64 0, .int .i64 0, .int .i64 0, .slice none 0 0, .int .i64 0])) [])) .done) K186_9
@[simp] def W186_10 := @C.wpe _ _ K186_10.eq_1
def B_laws_toEdge : C := .seq (.pl <| .st (.ext 4 0) <|
    .st (.act none (.pnew 1 (.v 0) [])) <|
    .st (.act none (.pnew 2 (.c (.agg #[.int .i64 0, .int .i64 0, .int .i64 0, .int .i64 0, .slice none 0 0, .int .i64 0, .int .i64 0, .int .i64 0, .slice none 0 0, .int .i64 0])) [])) .done) K186_10
@[simp] def WB_laws_toEdge := @C.wpe _ _ B_laws_toEdge.eq_1
def R_laws_toEdge : FIR := ⟨B_laws_toEdge, 4, [(2, some (some 10))]⟩
theorem IR_laws_toEdge : cfun Try.prog H_laws_toEdge Try.f186 = some R_laws_toEdge := by kernel_rfl
theorem EN_laws_toEdge {args : List Value} {h : Heap} {k : Value → Heap → Prop} (hargs : args.length = 1) (hw : B_laws_toEdge.wp Try.prog (retQ [(2, some (some 10))] k) (env0 args 4) h) : CallE Try.prog fn_laws_toEdge args h k := enter Try.func186 rfl IR_laws_toEdge hargs hw

def H_laws_toEdgeS : Hint := ⟨[(0, false), (2, false), (3, false), (4, false)], [[1]]⟩
def K156_1 : C := .seq (.pl <| .st (.ext 4 1) <|
    .st (.act none (.px (some 4) (.mv (.v 2)))) <|
    .st (.act none (.px (some 1) (.mv (.v 4)))) .done) (.ret)
@[simp] def W156_1 := @C.wpe _ _ K156_1.eq_1
def K156_2 : C := .pl <| .st (.ext 4 2) <|
    .st (.act none (.px (some 4) (.mv (.v 3)))) <|
    .st (.act none (.px (some 5) (.bin .add (.v 4) (.c (.int .i64 1))))) <|
    .st (.act none (.px (some 3) (.mv (.v 5)))) .done
@[simp] def W156_2 := @C.wpe _ _ K156_2.eq_1
def K156_3 : Pl := .st (.act none (.px (some 11) (.ia 10 (.v 4) (.v 5)))) <|
    .st (.act none (.ex none (.store 10 (.v 11) (.v 10)))) .done
@[simp] def W156_3 := @Pl.wpe _ _ K156_3.eq_1
def K156_4 : C := .seq (.block 1 (.pl <| .st (.ext 4 8) <|
    .st (.act none (.px (some 4) (.mv (.v 2)))) <|
    .st (.act none (.px (some 5) (.mv (.v 3)))) <|
    .st (.act none (.px (some 6) (.mv (.v 0)))) <|
    .st (.act none (.px (some 7) (.mv (.v 3)))) <|
    .st (.act none (.px (some 8) (.ia 10 (.v 6) (.v 7)))) <|
    .st (.act none (.ld (some 9) (.v 8) (some 10))) <|
    .st (.act none (.ex (some 10) (.call fn_laws_toEdge [.v 9]))) K156_3)) K156_2
@[simp] def W156_4 := @C.wpe _ _ K156_4.eq_1
def K156_5 : C := .cond 4 (.v 7) (.skip) (.exit 0)
@[simp] def W156_5 := @C.wpe _ _ K156_5.eq_1
def K156_6 : C := .seq (.seq (.pl <| .st (.ext 4 4) <|
    .st (.act none (.px (some 4) (.mv (.v 3)))) <|
    .st (.act none (.px (some 5) (.mv (.v 0)))) <|
    .st (.act none (.px (some 6) (.lenV (.v 5)))) <|
    .st (.act none (.px (some 7) (.bin .lss (.v 4) (.v 6)))) .done) K156_5) K156_4
@[simp] def W156_6 := @C.wpe _ _ K156_6.eq_1
def K156_7 : C := .block 0 (.loop 4 [1] K156_6)
@[simp] def W156_7 := @C.wpe _ _ K156_7.eq_1
def K156_8 : C := .seq (.seq (.pl <| .st (.ext 4 0) <|
    .st (.act none (.px (some 3) (.mv (.c (.int .i64 0))))) .done) K156_7) K156_1
@[simp] def W156_8 := @C.wpe _ _ K156_8.eq_1
def K156_9 : Pl := .st (.act none (.px (some 2) (.mv (.v 6)))) .done
@[simp] def W156_9 := @Pl.wpe _ _ K156_9.eq_1
def K156_10 : C := .seq (.pl <| .st (.ext 4 3) <|
    .st (.act none (.px (some 4) (.mv (.v 0)))) <|
    .st (.act none (.px (some 5) (.lenV (.v 4)))) <|
    .st (.act none (.ex (some 6) (.mks 112 10 [.int .i64 0, .int .i64 0, .int .i64 0, .int .i64 0, .slice none 0 0, .int .i64 0, .int .i64 0, .int .i64 0, .slice none 0 0, .int .i64 0] (.v 5) (.v 5)))) K156_9) K156_8
@[simp] def W156_10 := @C.wpe _ _ K156_10.eq_1
def B_laws_toEdgeS : C := .seq (.pl <| .st (.ext 4 0) <|
    .st (.act none (.px (some 1) (.mv (.c (.slice none 0 0))))) .done) K156_10
@[simp] def WB_laws_toEdgeS := @C.wpe _ _ B_laws_toEdgeS.eq_1
def R_laws_toEdgeS : FIR := ⟨B_laws_toEdgeS, 4, [(1, none)]⟩
theorem IR_laws_toEdgeS : cfun Try.prog H_laws_toEdgeS Try.f156 = some R_laws_toEdgeS := by kernel_rfl
theorem EN_laws_toEdgeS {args : List Value} {h : Heap} {k : Value → Heap → Prop} (hargs : args.length = 1) (hw : B_laws_toEdgeS.wp Try.prog (retQ [(1, none)] k) (env0 args 4) h) : CallE Try.prog fn_laws_toEdgeS args h k := enter Try.func156 rfl IR_laws_toEdgeS hargs hw

def H_laws_toExpr : Hint := ⟨[(0, false), (1, true), (2, true), (3, true)], []⟩
def K65_1 : C := .seq (.pl <| .st (.ext 4 1) <|
    .st (.act none (.pget (some 4) none 3 0 (some 3))) <|
    .st (.act none (.pset none 2 0 3 (.v 4))) .done) (.ret)
@[simp] def W65_1 := @C.wpe _ _ K65_1.eq_1
def K65_2 : Pl := .st (.act none (.als 7 none 3)) <|
    .st (.act none (.pset (some 7) 3 2 1 (.v 6))) .done
@[simp] def W65_2 := @Pl.wpe _ _ K65_2.eq_1
def K65_3 : C := .seq (.pl <| .st (.ext 4 4) <|
    .st (.act none (.als 4 none 1)) <|
    .st (.act none (.pget (some 5) (some 4) 1 2 none)) <|
    .st (.act none (.ex (some 6) (.call fn_laws_toExprS [.v 5]))) K65_2) K65_1
@[simp] def W65_3 := @C.wpe _ _ K65_3.eq_1
def K65_4 : C := .seq (.pl <| .st (.ext 4 3) <|
    .st (.act none (.als 4 none 1)) <|
    .st (.act none (.pget (some 5) (some 4) 1 1 none)) <|
    .st (.act none (.als 6 none 3)) <|
    .st (.act none (.pset (some 6) 3 1 1 (.v 5))) .done) K65_3
@[simp] def W65_4 := @C.wpe _ _ K65_4.eq_1
def K65_5 : C := .seq (.pl <| .st (.ext 4 3) <|
    .st (.act none (.als 4 none 1)) <|
    .st (.act none (.pget (some 5) (some 4) 1 0 none)) <|
    .st (.act none (.als 6 none 3)) <|
    .st (.act none (.pset (some 6) 3 0 1 (.v 5))) .done) K65_4
@[simp] def W65_5 := @C.wpe _ _ K65_5.eq_1
def K65_6 : C := .seq (.pl <| .st (.ext 4 0) <|
    .st (.act none (.pnew 3 (.c (.agg #[.int .i64 0, .int .i64 0, .slice none 0 0])) [])) .done) K65_5
@[simp] def W65_6 := @C.wpe _ _ K65_6.eq_1
def B_laws_toExpr : C := .seq (.pl <| .st (.ext 4 0) <|
    .st (.act none (.pnew 1 (.v 0) [])) <|
    .st (.act none (.pnew 2 (.c (.agg #[.int .i64 0, .int .i64 0, .slice none 0 0])) [])) .done) K65_6
@[simp] def WB_laws_toExpr := @C.wpe _ _ B_laws_toExpr.eq_1
def R_laws_toExpr : FIR := ⟨B_laws_toExpr, 4, [(2, some (some 3))]⟩
theorem IR_laws_toExpr : cfun Try.prog H_laws_toExpr Try.f65 = some R_laws_toExpr := by kernel_rfl
theorem EN_laws_toExpr {args : List Value} {h : Heap} {k : Value → Heap → Prop} (hargs : args.length = 1) (hw : B_laws_toExpr.wp Try.prog (retQ [(2, some (some 3))] k) (env0 args 4) h) : CallE Try.prog fn_laws_toExpr args h k := enter Try.func65 rfl IR_laws_toExpr hargs hw

def H_laws_toExprS : Hint := ⟨[(0, false), (2, false), (3, false), (4, false)], [[1]]⟩
def K15_1 : C := .seq (.pl <| .st (.ext 4 1) <|
    .st (.act none (.px (some 4) (.mv (.v 2)))) <|
    .st (.act none (.px (some 1) (.mv (.v 4)))) .done) (.ret)
@[simp] def W15_1 := @C.wpe _ _ K15_1.eq_1
def K15_2 : C := .pl <| .st (.ext 4 2) <|
    .st (.act none (.px (some 4) (.mv (.v 3)))) <|
    .st (.act none (.px (some 5) (.bin .add (.v 4) (.c (.int .i64 1))))) <|
    .st (.act none (.px (some 3) (.mv (.v 5)))) .done
@[simp] def W15_2 := @C.wpe _ _ K15_2.eq_1
def K15_3 : Pl := .st (.act none (.px (some 11) (.ia 3 (.v 4) (.v 5)))) <|
    .st (.act none (.ex none (.store 3 (.v 11) (.v 10)))) .done
@[simp] def W15_3 := @Pl.wpe _ _ K15_3.eq_1
def K15_4 : C := .seq (.block 1 (.pl <| .st (.ext 4 8) <|
    .st (.act none (.px (some 4) (.mv (.v 2)))) <|
    .st (.act none (.px (some 5) (.mv (.v 3)))) <|
    .st (.act none (.px (some 6) (.mv (.v 0)))) <|
    .st (.act none (.px (some 7) (.mv (.v 3)))) <|
    .st (.act none (.px (some 8) (.ia 3 (.v 6) (.v 7)))) <|
    .st (.act none (.ld (some 9) (.v 8) (some 3))) <|
    .st (.act none (.ex (some 10) (.call fn_laws_toExpr [.v 9]))) K15_3)) K15_2
@[simp] def W15_4 := @C.wpe _ _ K15_4.eq_1
def K15_5 : C := .cond 4 (.v 7) (.skip) (.exit 0)
@[simp] def W15_5 := @C.wpe _ _ K15_5.eq_1
def K15_6 : C := .seq (.seq (.pl <| .st (.ext 4 4) <|
    .st (.act none (.px (some 4) (.mv (.v 3)))) <|
    .st (.act none (.px (some 5) (.mv (.v 0)))) <|
    .st (.act none (.px (some 6) (.lenV (.v 5)))) <|
    .st (.act none (.px (some 7) (.bin .lss (.v 4) (.v 6)))) .done) K15_5) K15_4
@[simp] def W15_6 := @C.wpe _ _ K15_6.eq_1
def K15_7 : C := .block 0 (.loop 4 [1] K15_6)
@[simp] def W15_7 := @C.wpe _ _ K15_7.eq_1
def K15_8 : C := .seq (.seq (.pl <| .st (.ext 4 0) <|
    .st (.act none (.px (some 3) (.mv (.c (.int .i64 0))))) .done) K15_7) K15_1
@[simp] def W15_8 := @C.wpe _ _ K15_8.eq_1
def K15_9 : Pl := .st (.act none (.px (some 2) (.mv (.v 6)))) .done
@[simp] def W15_9 := @Pl.wpe _ _ K15_9.eq_1
def K15_10 : C := .seq (.pl <| .st (.ext 4 3) <|
    .st (.act none (.px (some 4) (.mv (.v 0)))) <|
    .st (.act none (.px (some 5) (.lenV (.v 4)))) <|
    .st (.act none (.ex (some 6) (.mks 40 3 [.int .i64 0, .int .i64 0, .slice none 0 0] (.v 5) (.v 5)))) K15_9) K15_8
@[simp] def W15_10 := @C.wpe _ _ K15_10.eq_1
def B_laws_toExprS : C := .seq (.pl <| .st (.ext 4 0) <|
    .st (.act none (.px (some 1) (.mv (.c (.slice none 0 0))))) .done) K15_10
@[simp] def WB_laws_toExprS := @C.wpe _ _ B_laws_toExprS.eq_1
def R_laws_toExprS : FIR := ⟨B_laws_toExprS, 4, [(1, none)]⟩
theorem IR_laws_toExprS : cfun Try.prog H_laws_toExprS Try.f15 = some R_laws_toExprS := by kernel_rfl
theorem EN_laws_toExprS {args : List Value} {h : Heap} {k : Value → Heap → Prop} (hargs : args.length = 1) (hw : B_laws_toExprS.wp Try.prog (retQ [(1, none)] k) (env0 args 4) h) : CallE Try.prog fn_laws_toExprS args h k := enter Try.func15 rfl IR_laws_toExprS hargs hw

def H_laws_toIntS : Hint := ⟨[(0, false), (2, false), (3, false), (4, false)], [[1]]⟩
def K63_1 : C := .seq (.pl <| .st (.ext 4 1) <|
    .st (.act none (.px (some 4) (.mv (.v 2)))) <|
    .st (.act none (.px (some 1) (.mv (.v 4)))) .done) (.ret)
@[simp] def W63_1 := @C.wpe _ _ K63_1.eq_1
def K63_2 : C := .pl <| .st (.ext 4 2) <|
    .st (.act none (.px (some 4) (.mv (.v 3)))) <|
    .st (.act none (.px (some 5) (.bin .add (.v 4) (.c (.int .i64 1))))) <|
    .st (.act none (.px (some 3) (.mv (.v 5)))) .done
@[simp] def W63_2 := @C.wpe _ _ K63_2.eq_1
def K63_3 : C := .seq (.block 1 (.pl <| .st (.ext 4 7) <|
    .st (.act none (.px (some 4) (.mv (.v 2)))) <|
    .st (.act none (.px (some 5) (.mv (.v 3)))) <|
    .st (.act none (.px (some 6) (.mv (.v 0)))) <|
    .st (.act none (.px (some 7) (.mv (.v 3)))) <|
    .st (.act none (.px (some 8) (.ia 1 (.v 6) (.v 7)))) <|
    .st (.act none (.ld (some 9) (.v 8) none)) <|
    .st (.act none (.px (some 10) (.ia 1 (.v 4) (.v 5)))) <|
    .st (.act none (.ex none (.store 1 (.v 10) (.v 9)))) .done)) K63_2
@[simp] def W63_3 := @C.wpe _ _ K63_3.eq_1
def K63_4 : C := .cond 4 (.v 7) (.skip) (.exit 0)
@[simp] def W63_4 := @C.wpe _ _ K63_4.eq_1
def K63_5 : C := .seq (.seq (.pl <| .st (.ext 4 4) <|
    .st (.act none (.px (some 4) (.mv (.v 3)))) <|
    .st (.act none (.px (some 5) (.mv (.v 0)))) <|
    .st (.act none (.px (some 6) (.lenV (.v 5)))) <|
    .st (.act none (.px (some 7) (.bin .lss (.v 4) (.v 6)))) .done) K63_4) K63_3
@[simp] def W63_5 := @C.wpe _ _ K63_5.eq_1
def K63_6 : C := .block 0 (.loop 4 [1] K63_5)
@[simp] def W63_6 := @C.wpe _ _ K63_6.eq_1
def K63_7 : C := .seq (.seq (.pl <| .st (.ext 4 0) <|
    .st (.act none (.px (some 3) (.mv (.c (.int .i64 0))))) .done) K63_6) K63_1
@[simp] def W63_7 := @C.wpe _ _ K63_7.eq_1
def K63_8 : Pl := .st (.act none (.px (some 2) (.mv (.v 6)))) .done
@[simp] def W63_8 := @Pl.wpe _ _ K63_8.eq_1
def K63_9 : C := .seq (.pl <| .st (.ext 4 3) <|
    .st (.act none (.px (some 4) (.mv (.v 0)))) <|
    .st (.act none (.px (some 5) (.lenV (.v 4)))) <|
    .st (.act none (.ex (some 6) (.mks 8 1 [.int .i64 0] (.v 5) (.v 5)))) K63_8) K63_7
@[simp] def W63_9 := @C.wpe _ _ K63_9.eq_1
def B_laws_toIntS : C := .seq (.pl <| .st (.ext 4 0) <|
    .st (.act none (.px (some 1) (.mv (.c (.slice none 0 0))))) .done) K63_9
@[simp] def WB_laws_toIntS := @C.wpe _ _ B_laws_toIntS.eq_1
def R_laws_toIntS : FIR := ⟨B_laws_toIntS, 4, [(1, none)]⟩
theorem IR_laws_toIntS : cfun Try.prog H_laws_toIntS Try.f63 = some R_laws_toIntS := by kernel_rfl
theorem EN_laws_toIntS {args : List Value} {h : Heap} {k : Value → Heap → Prop} (hargs : args.length = 1) (hw : B_laws_toIntS.wp Try.prog (retQ [(1, none)] k) (env0 args 4) h) : CallE Try.prog fn_laws_toIntS args h k := enter Try.func63 rfl IR_laws_toIntS hargs hw

def H_laws_toProcess : Hint := ⟨[(0, false), (1, true), (2, true), (3, true)], []⟩
def K117_1 : C := .seq (.pl <| .st (.ext 4 1) <|
    .st (.act none (.pget (some 4) none 3 0 (some 2))) <|
    .st (.act none (.pset none 2 0 2 (.v 4))) .done) (.ret)
@[simp] def W117_1 := @C.wpe _ _ K117_1.eq_1
def K117_2 : Pl := .st (.act none (.als 7 none 3)) <|
    .st (.act none (.pset (some 7) 3 1 1 (.v 6))) .done
@[simp] def W117_2 := @Pl.wpe _ _ K117_2.eq_1
def K117_3 : C := .seq (.pl <| .st (.ext 4 4) <|
    .st (.act none (.als 4 none 1)) <|
    .st (.act none (.pget (some 5) (some 4) 1 1 none)) <|
    .st (.act none (.ex (some 6) (.call fn_laws_toEdgeS [.v 5]))) K117_2) K117_1
@[simp] def W117_3 := @C.wpe _ _ K117_3.eq_1
def K117_4 : C := .seq (.pl <| .st (.ext 4 3) <|
    .st (.act none (.als 4 none 1)) <|
    .st (.act none (.pget (some 5) (some 4) 1 0 none)) <|
    .st (.act none (.als 6 none 3)) <|
    .st (.act none (.pset (some 6) 3 0 1 (.v 5))) .done) K117_3
@[simp] def W117_4 := @C.wpe _ _ K117_4.eq_1
def K117_5 : C := .seq (.pl <| .st (.ext 4 0) <|
    .st (.act none (.pnew 3 (.c (.agg #[.int .i64 0, .slice none 0 0])) [])) .done) K117_4
@[simp] def W117_5 := @C.wpe _ _ K117_5.eq_1
def B_laws_toProcess : C := .seq (.pl <| .st (.ext 4 0) <|
    .st (.act none (.pnew 1 (.v 0) [])) <|
    .st (.act none (.pnew 2 (.c (.agg #[.int .i64 0, .slice none 0 0])) [])) .done) K117_5
@[simp] def WB_laws_toProcess := @C.wpe _ _ B_laws_toProcess.eq_1
def R_laws_toProcess : FIR := ⟨B_laws_toProcess, 4, [(2, some (some 2))]⟩
theorem IR_laws_toProcess : cfun Try.prog H_laws_toProcess Try.f117 = some R_laws_toProcess := by kernel_rfl
theorem EN_laws_toProcess {args : List Value} {h : Heap} {k : Value → Heap → Prop} (hargs : args.length = 1) (hw : B_laws_toProcess.wp Try.prog (retQ [(2, some (some 2))] k) (env0 args 4) h) : CallE Try.prog fn_laws_toProcess args h k := enter Try.func117 rfl IR_laws_toProcess hargs hw

def H_laws_toProcessS : Hint := ⟨[(0, false), (2, false), (3, false), (4, false)], [[1]]⟩
def K64_1 : C := .seq (.pl <| .st (.ext 4 1) <|
    .st (.act none (.px (some 4) (.mv (.v 2)))) <|
    .st (.act none (.px (some 1) (.mv (.v 4)))) .done) (.ret)
@[simp] def W64_1 := @C.wpe _ _ K64_1.eq_1
def K64_2 : C := .pl <| .st (.ext 4 2) <|
    .st (.act none (.px (some 4) (.mv (.v 3)))) <|
    .st (.act none (.px (some 5) (.bin .add (.v 4) (.c (.int .i64 1))))) <|
    .st (.act none (.px (some 3) (.mv (.v 5)))) .done
@[simp] def W64_2 := @C.wpe _ _ K64_2.eq_1
def K64_3 : Pl := .st (.act none (.px (some 11) (.ia 2 (.v 4) (.v 5)))) <|
    .st (.act none (.ex none (.store 2 (.v 11) (.v 10)))) .done
@[simp] def W64_3 := @Pl.wpe _ _ K64_3.eq_1
def K64_4 : C := .seq (.block 1 (.pl <| .st (.ext 4 8) <|
    .st (.act none (.px (some 4) (.mv (.v 2)))) <|
    .st (.act none (.px (some 5) (.mv (.v 3)))) <|
    .st (.act none (.px (some 6) (.mv (.v 0)))) <|
    .st (.act none (.px (some 7) (.mv (.v 3)))) <|
    .st (.act none (.px (some 8) (.ia 2 (.v 6) (.v 7)))) <|
    .st (.act none (.ld (some 9) (.v 8) (some 2))) <|
    .st (.act none (.ex (some 10) (.call fn_laws_toProcess [.v 9]))) K64_3)) K64_2
@[simp] def W64_4 := @C.wpe _ _ K64_4.eq_1
def K64_5 : C := .cond 4 (.v 7) (.skip) (.exit 0)
@[simp] def W64_5 := @C.wpe _ _ K64_5.eq_1
def K64_6 : C := .seq (.seq (.pl <| .st (.ext 4 4) <|
    .st (.act none (.px (some 4) (.mv (.v 3)))) <|
    .st (.act none (.px (some 5) (.mv (.v 0)))) <|
    .st (.act none (.px (some 6) (.lenV (.v 5)))) <|
    .st (.act none (.px (some 7) (.bin .lss (.v 4) (.v 6)))) .done) K64_5) K64_4
@[simp] def W64_6 := @C.wpe _ _ K64_6.eq_1
def K64_7 : C := .block 0 (.loop 4 [1] K64_6)
@[simp] def W64_7 := @C.wpe _ _ K64_7.eq_1
def K64_8 : C := .seq (.seq (.pl <| .st (.ext 4 0) <|
    .st (.act none (.px (some 3) (.mv (.c (.int .i64 0))))) .done) K64_7) K64_1
@[simp] def W64_8 := @C.wpe _ _ K64_8.eq_1
def K64_9 : Pl := .st (.act none (.px (some 2) (.mv (.v 6)))) .done
@[simp] def W64_9 := @Pl.wpe _ _ K64_9.eq_1
def K64_10 : C := .seq (.pl <| .st (.ext 4 3) <|
    .st (.act none (.px (some 4) (.mv (.v 0)))) <|
    .st (.act none (.px (some 5) (.lenV (.v 4)))) <|
    .st (.act none (.ex (some 6) (.mks 32 2 [.int .i64 0, .slice none 0 0] (.v 5) (.v 5)))) K64_9) K64_8
@[simp] def W64_10 := @C.wpe _ _ K64_10.eq_1
def B_laws_toProcessS : C := .seq (.pl <| .st (.ext 4 0) <|
    .st (.act none (.px (some 1) (.mv (.c (.slice none 0 0))))) .done) K64_10
@[simp] def WB_laws_toProcessS := @C.wpe _ _ B_laws_toProcessS.eq_1
def R_laws_toProcessS : FIR := ⟨B_laws_toProcessS, 4, [(1, none)]⟩
theorem IR_laws_toProcessS : cfun Try.prog H_laws_toProcessS Try.f64 = some R_laws_toProcessS := by kernel_rfl
theorem EN_laws_toProcessS {args : List Value} {h : Heap} {k : Value → Heap → Prop} (hargs : args.length = 1) (hw : B_laws_toProcessS.wp Try.prog (retQ [(1, none)] k) (env0 args 4) h) : CallE Try.prog fn_laws_toProcessS args h k := enter Try.func64 rfl IR_laws_toProcessS hargs hw


end Go.Proofs.Ythgimpheeemooaa
