/-
  More bodies of functions in the small language, as a program printed them.
-/
import Derived.Test.YthgimpheeemooaaI1
namespace Go.Proofs.Ythgimpheeemooaa
open Go
set_option linter.all false
set_option linter.defProp false
set_option maxRecDepth 1000000

def H_laws_szProcessS : Hint := ⟨[(0, false), (1, false), (4, false), (5, false)], [[2]]⟩
def K58_1 : C := .seq (.pl <| .st (.ext 4 1) <|
    .st (.act none (.px (some 4) (.mv (.v 1)))) <|
    .st (.act none (.px (some 2) (.mv (.v 4)))) .done) (.ret)
@[simp] def W58_1 := @C.wpe _ _ K58_1.eq_1
def K58_2 : C := .pl <| .st (.ext 4 2) <|
    .st (.act none (.px (some 4) (.mv (.v 3)))) <|
    .st (.act none (.px (some 5) (.bin .add (.v 4) (.c (.int .i64 1))))) <|
    .st (.act none (.px (some 3) (.mv (.v 5)))) .done
@[simp] def W58_2 := @C.wpe _ _ K58_2.eq_1
def K58_3 : C := .seq (.pl <| .st (.ext 4 0) <|
    .st (.act none (.px (some 2) (.mv (.c (.int .i64 (-1)))))) .done) (.ret)
@[simp] def W58_3 := @C.wpe _ _ K58_3.eq_1
def K58_4 : C := .cond 4 (.v 5) K58_3 (.skip)
@[simp] def W58_4 := @C.wpe _ _ K58_4.eq_1
def K58_5 : C := .seq (.pl <| .st (.ext 4 2) <|
    .st (.act none (.px (some 4) (.mv (.v 1)))) <|
    .st (.act none (.px (some 5) (.bin .lss (.v 4) (.c (.int .i64 0))))) .done) K58_4
@[simp] def W58_5 := @C.wpe _ _ K58_5.eq_1
def K58_6 : Pl := .st (.act none (.px (some 1) (.mv (.v 9)))) .done
@[simp] def W58_6 := @Pl.wpe _ _ K58_6.eq_1
def K58_7 : C := .seq (.block 1 (.seq (.pl <| .st (.ext 4 6) <|
    .st (.act none (.px (some 4) (.mv (.v 0)))) <|
    .st (.act none (.px (some 5) (.mv (.v 3)))) <|
    .st (.act none (.px (some 6) (.ia 2 (.v 4) (.v 5)))) <|
    .st (.act none (.ld (some 7) (.v 6) (some 2))) <|
    .st (.act none (.px (some 8) (.mv (.v 1)))) <|
    .st (.act none (.ex (some 9) (.call fn_laws_szProcess [.v 7, .v 8]))) K58_6) K58_5)) K58_2
@[simp] def W58_7 := @C.wpe _ _ K58_7.eq_1
def K58_8 : C := .cond 4 (.v 7) (.skip) (.exit 0)
@[simp] def W58_8 := @C.wpe _ _ K58_8.eq_1
def K58_9 : C := .seq (.seq (.pl <| .st (.ext 4 4) <|
    .st (.act none (.px (some 4) (.mv (.v 3)))) <|
    .st (.act none (.px (some 5) (.mv (.v 0)))) <|
    .st (.act none (.px (some 6) (.lenV (.v 5)))) <|
    .st (.act none (.px (some 7) (.bin .lss (.v 4) (.v 6)))) .done) K58_8) K58_7
@[simp] def W58_9 := @C.wpe _ _ K58_9.eq_1
def K58_10 : C := .block 0 (.loop 4 [2] K58_9)
@[simp] def W58_10 := @C.wpe _ _ K58_10.eq_1
def K58_11 : C := .seq (.seq (.pl <| .st (.ext 4 0) <|
    .st (.act none (.px (some 3) (.mv (.c (.int .i64 0))))) .done) K58_10) K58_1
@[simp] def W58_11 := @C.wpe _ _ K58_11.eq_1
def K58_12 : C := .seq (.pl <| .st (.ext 4 0) <|
    .st (.act none (.px (some 2) (.mv (.c (.int .i64 (-1)))))) .done) (.ret)
@[simp] def W58_12 := @C.wpe _ _ K58_12.eq_1
def K58_13 : C := .cond 4 (.v 5) K58_12 (.skip)
@[simp] def W58_13 := @C.wpe _ _ K58_13.eq_1
def K58_14 : C := .seq (.seq (.pl <| .st (.ext 4 2) <|
    .st (.act none (.px (some 4) (.mv (.v 1)))) <|
    .st (.act none (.px (some 5) (.bin .lss (.v 4) (.c (.int .i64 0))))) .done) K58_13) K58_11
@[simp] def W58_14 := @C.wpe _ _ K58_14.eq_1
def K58_15 : C := .seq (.pl <| .st (.ext 4 4) <|
    .st (.act none (.px (some 4) (.mv (.v 1)))) <|
    .st (.act none (.px (some 5) (.mv (.v 0)))) <|
    .st (.act none (.px (some 6) (.lenV (.v 5)))) <|
    .st (.act none (.px (some 7) (.bin .sub (.v 4) (.v 6)))) <|
    .st (.act none (.px (some 1) (.mv (.v 7)))) .done) K58_14
@[simp] def W58_15 := @C.wpe _ _ K58_15.eq_1
def B_laws_szProcessS : C := .seq (.pl <| .st (.ext 4 0) <|
    .st (.act none (.px (some 2) (.mv (.c (.int .i64 0))))) .done) K58_15
@[simp] def WB_laws_szProcessS := @C.wpe _ _ B_laws_szProcessS.eq_1
def R_laws_szProcessS : FIR := ⟨B_laws_szProcessS, 4, [(2, none)]⟩
theorem IR_laws_szProcessS : cfun Try.prog H_laws_szProcessS Try.f58 = some R_laws_szProcessS := by kernel_rfl
theorem EN_laws_szProcessS {args : List Value} {h : Heap} {k : Value → Heap → Prop} (hargs : args.length = 2) (hw : B_laws_szProcessS.wp Try.prog (retQ [(2, none)] k) (env0 args 4) h) : CallE Try.prog fn_laws_szProcessS args h k := enter Try.func58 rfl IR_laws_szProcessS hargs hw

def H_laws_szSystem : Hint := ⟨[(0, false), (1, false), (2, true), (4, false)], []⟩
def K11_1 : C := .seq (.pl <| .st (.ext 4 1) <|
    .st (.act none (.px (some 4) (.mv (.v 1)))) <|
    .st (.act none (.px (some 3) (.mv (.v 4)))) .done) (.ret)
@[simp] def W11_1 := @C.wpe _ _ K11_1.eq_1
def K11_2 : C := .seq (.pl <| .st (.ext 4 0) <|
    .st (.act none (.px (some 3) (.mv (.c (.int .i64 (-1)))))) .done) (.ret)
@[simp] def W11_2 := @C.wpe _ _ K11_2.eq_1
def K11_3 : C := .cond 4 (.v 5) K11_2 (.skip)
@[simp] def W11_3 := @C.wpe _ _ K11_3.eq_1
def K11_4 : C := .seq (.seq (.pl <| .st (.ext 4 2) <|
    .st (.act none (.px (some 4) (.mv (.v 1)))) <|
    .st (.act none (.px (some 5) (.bin .lss (.v 4) (.c (.int .i64 0))))) .done) K11_3) K11_1
@[simp] def W11_4 := @C.wpe _ _ K11_4.eq_1
def K11_5 : Pl := .st (.act none (.px (some 1) (.mv (.v 7)))) .done
@[simp] def W11_5 := @Pl.wpe _ _ K11_5.eq_1
def K11_6 : C := .seq (.pl <| .st (.ext 4 4) <|
    .st (.act none (.als 4 none 2)) <|
    .st (.act none (.pget (some 5) (some 4) 2 1 none)) <|
    .st (.act none (.px (some 6) (.mv (.v 1)))) <|
    .st (.act none (.ex (some 7) (.call fn_laws_szProcessS [.v 5, .v 6]))) K11_5) K11_4
@[simp] def W11_6 := @C.wpe _ _ K11_6.eq_1
def K11_7 : C := .seq (.pl <| .st (.ext 4 0) <|
    .st (.act none (.px (some 3) (.mv (.c (.int .i64 (-1)))))) .done) (.ret)
@[simp] def W11_7 := @C.wpe _ _ K11_7.eq_1
def K11_8 : C := .cond 4 (.v 5) K11_7 (.skip)
@[simp] def W11_8 := @C.wpe _ _ K11_8.eq_1
def K11_9 : C := .seq (.seq (.pl <| .st (.ext 4 2) <|
    .st (.act none (.px (some 4) (.mv (.v 1)))) <|
    .st (.act none (.px (some 5) (.bin .lss (.v 4) (.c (.int .i64 0))))) .done) K11_8) K11_6
@[simp] def W11_9 := @C.wpe _ _ K11_9.eq_1
def K11_10 : Pl := .st (.act none (.px (some 1) (.mv (.v 7)))) .done
@[simp] def W11_10 := @Pl.wpe _ _ K11_10.eq_1
def K11_11 : C := .seq (.pl <| .st (.ext 4 4) <|
    .st (.act none (.als 4 none 2)) <|
    .st (.act none (.pget (some 5) (some 4) 2 0 none)) <|
    .st (.act none (.px (some 6) (.mv (.v 1)))) <|
    .st (.act none (.ex (some 7) (.call fn_laws_szIntS [.v 5, .v 6]))) K11_10) K11_9
@[simp] def W11_11 := @C.wpe _ _ K11_11.eq_1
def B_laws_szSystem : C := .seq (.pl <| .st (.ext 4 0) <|
    .st (.act none (.pnew 2 (.v 0) [])) <|
    .st (.act none (.px (some 3) (.mv (.c (.int .i64 0))))) .done) K11_11
@[simp] def WB_laws_szSystem := @C.wpe _ _ B_laws_szSystem.eq_1
def R_laws_szSystem : FIR := ⟨B_laws_szSystem, 4, [(3, none)]⟩
theorem IR_laws_szSystem : cfun Try.prog H_laws_szSystem Try.f11 = some R_laws_szSystem := by kernel_rfl
theorem EN_laws_szSystem {args : List Value} {h : Heap} {k : Value → Heap → Prop} (hargs : args.length = 2) (hw : B_laws_szSystem.wp Try.prog (retQ [(3, none)] k) (env0 args 4) h) : CallE Try.prog fn_laws_szSystem args h k := enter Try.func11 rfl IR_laws_szSystem hargs hw

def H_laws_toEdge : Hint := ⟨[(0, false), (1, true), (2, true), (3, true)], []⟩
def K186_1 : C := .seq (.pl <| .st (.ext 4 1) <|
    .st (.act none (.pget (some 4) none 3 0 (some 10))) <|
    .st (.act none (.pset none 2 0 10 (.v 4))) .done) (.ret)
@[simp] def W186_1 := @C.wpe _ _ K186_1.eq_1
def K186_2 : C := .seq (.pl <| .st (.ext 4 3) <|
    .st (.act none (.als 4 none 1)) <|
    .st (.act none (.pget (some 5) (some 4) 1 9 none)) <|
    .st (.act none (.als 6 none 3)) <|
    .st (.act none (.pset (some 6) 3 9 1 (.v 5))) .done) K186_1
@[simp] def W186_2 := @C.wpe _ _ K186_2.eq_1
def K186_3 : Pl := .st (.act none (.als 7 none 3)) <|
    .st (.act none (.pset (some 7) 3 6 3 (.v 6))) .done
@[simp] def W186_3 := @Pl.wpe _ _ K186_3.eq_1
def K186_4 : C := .seq (.pl <| .st (.ext 4 4) <|
    .st (.act none (.als 4 none 1)) <|
    .st (.act none (.pget (some 5) (some 4) 1 6 (some 3))) <|
    .st (.act none (.ex (some 6) (.call fn_laws_toExpr [.v 5]))) K186_3) K186_2
@[simp] def W186_4 := @C.wpe _ _ K186_4.eq_1
def K186_5 : C := .seq (.pl <| .st (.ext 4 3) <|
    .st (.act none (.als 4 none 1)) <|
    .st (.act none (.pget (some 5) (some 4) 1 5 none)) <|
    .st (.act none (.als 6 none 3)) <|
    .st (.act none (.pset (some 6) 3 5 1 (.v 5))) .done) K186_4
@[simp] def W186_5 := @C.wpe _ _ K186_5.eq_1
def K186_6 : Pl := .st (.act none (.als 7 none 3)) <|
    .st (.act none (.pset (some 7) 3 2 3 (.v 6))) .done
@[simp] def W186_6 := @Pl.wpe _ _ K186_6.eq_1
def K186_7 : C := .seq (.pl <| .st (.ext 4 4) <|
    .st (.act none (.als 4 none 1)) <|
    .st (.act none (.pget (some 5) (some 4) 1 2 (some 3))) <|
    .st (.act none (.ex (some 6) (.call fn_laws_toExpr [.v 5]))) K186_6) K186_5
@[simp] def W186_7 := @C.wpe _ _ K186_7.eq_1
def K186_8 : C := .seq (.pl <| .st (.ext 4 3) <|
    .st (.act none (.als 4 none 1)) <|
    .st (.act none (.pget (some 5) (some 4) 1 1 none)) <|
    .st (.act none (.als 6 none 3)) <|
    .st (.act none (.pset (some 6) 3 1 1 (.v 5))) .done) K186_7
@[simp] def W186_8 := @C.wpe _ _ K186_8.eq_1
def K186_9 : C := .seq (.pl <| .st (.ext 4 3) <|
    .st (.act none (.als 4 none 1)) <|
    .st (.act none (.pget (some 5) (some 4) 1 0 none)) <|
    .st (.act none (.als 6 none 3)) <|
    .st (.act none (.pset (some 6) 3 0 1 (.v 5))) .done) K186_8
@[simp] def W186_9 := @C.wpe _ _ K186_9.eq_1
def K186_10 : C := .seq (.pl <| .st (.ext 4 0) <|
    .st (.act none (.pnew 3 (.c (.agg #[.int .i64 0, .int .i64 0, .int .i64 0, .int .i64 0, .slice none 0 0, .int .i64 0, .int .i64 0, .int .i64 0, .slice none 0 0, .int .i64 0])) [])) .done) K186_9
@[simp] def W186_10 := @C.wpe _ _ K186_10.eq_1
def B_laws_toEdge : C := .seq (.pl <| .st (.ext 4 0) <|
    .st (.act none (.pnew 1 (.v 0) [])) <|
    .st (.act none (.pnew 2 (.c (.agg #[.int .i64 0, .int .i64 0, .int .i64 0, .int .i64 0, .slice none 0 0, .int .i64 0, .int .i64 0, .int .i64 0, .slice none 0 0, .int .i64 0])) [])) .done) K186_10
@[simp] def WB_laws_toEdge := @C.wpe _ _ B_laws_toEdge.eq_1
def R_laws_toEdge : FIR := ⟨B_laws_toEdge, 4, [(2, some (some 10))]⟩
theorem IR_laws_toEdge : cfun Try.prog H_laws_toEdge Try.f186 = some R_laws_toEdge := by kernel_rfl
theorem EN_laws_toEdge {args : List Value} {h : Heap} {k : Value → Heap → Prop} (hargs : args.length = 1) (hw : B_laws_toEdge.wp Try.prog (retQ [(2, some (some 10))] k) (env0 args 4) h) : CallE Try.prog fn_laws_toEdge args h k := enter Try.func186 rfl IR_laws_toEdge hargs hw

def H_laws_toEdgeS : Hint := ⟨[(0, false), (2, false), (3, false), (4, false)], [[1]]⟩
def K156_1 : C := .seq (.pl <| .st (.ext 4 1) <|
    .st (.act none (.px (some 4) (.mv (.v 2)))) <|
    .st (.act none (.px (some 1) (.mv (.v 4)))) .done) (.ret)
@[simp] def W156_1 := @C.wpe _ _ K156_1.eq_1
def K156_2 : C := .pl <| .st (.ext 4 2) <|
    .st (.act none (.px (some 4) (.mv (.v 3)))) <|
    .st (.act none (.px (some 5) (.bin .add (.v 4) (.c (.int .i64 1))))) <|
    .st (.act none (.px (some 3) (.mv (.v 5)))) .done
@[simp] def W156_2 := @C.wpe _ _ K156_2.eq_1
def K156_3 : Pl := .st (.act none (.px (some 11) (.ia 10 (.v 4) (.v 5)))) <|
    .st (.act none (.ex none (.store 10 (.v 11) (.v 10)))) .done
@[simp] def W156_3 := @Pl.wpe _ _ K156_3.eq_1
def K156_4 : C := .seq (.block 1 (.pl <| .st (.ext 4 8) <|
    .st (.act none (.px (some 4) (.mv (.v 2)))) <|
    .st (.act none (.px (some 5) (.mv (.v 3)))) <|
    .st (.act none (.px (some 6) (.mv (.v 0)))) <|
    .st (.act none (.px (some 7) (.mv (.v 3)))) <|
    .st (.act none (.px (some 8) (.ia 10 (.v 6) (.v 7)))) <|
    .st (.act none (.ld (some 9) (.v 8) (some 10))) <|
    .st (.act none (.ex (some 10) (.call fn_laws_toEdge [.v 9]))) K156_3)) K156_2
@[simp] def W156_4 := @C.wpe _ _ K156_4.eq_1
def K156_5 : C := .cond 4 (.v 7) (.skip) (.exit 0)
@[simp] def W156_5 := @C.wpe _ _ K156_5.eq_1
def K156_6 : C := .seq (.seq (.pl <| .st (.ext 4 4) <|
    .st (.act none (.px (some 4) (.mv (.v 3)))) <|
    .st (.act none (.px (some 5) (.mv (.v 0)))) <|
    .st (.act none (.px (some 6) (.lenV (.v 5)))) <|
    .st (.act none (.px (some 7) (.bin .lss (.v 4) (.v 6)))) .done) K156_5) K156_4
@[simp] def W156_6 := @C.wpe _ _ K156_6.eq_1
def K156_7 : C := .block 0 (.loop 4 [1] K156_6)
@[simp] def W156_7 := @C.wpe _ _ K156_7.eq_1
def K156_8 : C := .seq (.seq (.pl <| .st (.ext 4 0) <|
    .st (.act none (.px (some 3) (.mv (.c (.int .i64 0))))) .done) K156_7) K156_1
@[simp] def W156_8 := @C.wpe _ _ K156_8.eq_1
def K156_9 : Pl := .st (.act none (.px (some 2) (.mv (.v 6)))) .done
@[simp] def W156_9 := @Pl.wpe _ _ K156_9.eq_1
def K156_10 : C := .seq (.pl <| .st (.ext 4 3) <|
    .st (.act none (.px (some 4) (.mv (.v 0)))) <|
    .st (.act none (.px (some 5) (.lenV (.v 4)))) <|
    .st (.act none (.ex (some 6) (.mks 112 10 [.int .i64 0, .int .i64 0, .int .i64 0, .int .i64 0, .slice none 0 0, .int .i64 0, .int .i64 0, .int .i64 0, .slice none 0 0, .int .i64 0] (.v 5) (.v 5)))) K156_9) K156_8
@[simp] def W156_10 := @C.wpe _ _ K156_10.eq_1
def B_laws_toEdgeS : C := .seq (.pl <| .st (.ext 4 0) <|
    .st (.act none (.px (some 1) (.mv (.c (.slice none 0 0))))) .done) K156_10
@[simp] def WB_laws_toEdgeS := @C.wpe _ _ B_laws_toEdgeS.eq_1
def R_laws_toEdgeS : FIR := ⟨B_laws_toEdgeS, 4, [(1, none)]⟩
theorem IR_laws_toEdgeS : cfun Try.prog H_laws_toEdgeS Try.f156 = some R_laws_toEdgeS := by kernel_rfl
theorem EN_laws_toEdgeS {args : List Value} {h : Heap} {k : Value → Heap → Prop} (hargs : args.length = 1) (hw : B_laws_toEdgeS.wp Try.prog (retQ [(1, none)] k) (env0 args 4) h) : CallE Try.prog fn_laws_toEdgeS args h k := enter Try.func156 rfl IR_laws_toEdgeS hargs hw

def H_laws_toExpr : Hint := ⟨[(0, false), (1, true), (2, true), (3, true)], []⟩
def K65_1 : C := .seq (.pl <| .st (.ext 4 1) <|
    .st (.act none (.pget (some 4) none 3 0 (some 3))) <|
    .st (.act none (.pset none 2 0 3 (.v 4))) .done) (.ret)
@[simp] def W65_1 := @C.wpe _ _ K65_1.eq_1
def K65_2 : Pl := .st (.act none (.als 7 none 3)) <|
    .st (.act none (.pset (some 7) 3 2 1 (.v 6))) .done
@[simp] def W65_2 := @Pl.wpe _ _ K65_2.eq_1
def K65_3 : C := .seq (.pl <| .st (.ext 4 4) <|
    .st (.act none (.als 4 none 1)) <|
    .st (.act none (.pget (some 5) (some 4) 1 2 none)) <|
    .st (.act none (.ex (some 6) (.call fn_laws_toExprS [.v 5]))) K65_2) K65_1
@[simp] def W65_3 := @C.wpe _ _ K65_3.eq_1
def K65_4 : C := .seq (.pl <| .st (.ext 4 3) <|
    .st (.act none (.als 4 none 1)) <|
    .st (.act none (.pget (some 5) (some 4) 1 1 none)) <|
    .st (.act none (.als 6 none 3)) <|
    .st (.act none (.pset (some 6) 3 1 1 (.v 5))) .done) K65_3
@[simp] def W65_4 := @C.wpe _ _ K65_4.eq_1
def K65_5 : C := .seq (.pl <| .st (.ext 4 3) <|
    .st (.act none (.als 4 none 1)) <|
    .st (.act none (.pget (some 5) (some 4) 1 0 none)) <|
    .st (.act none (.als 6 none 3)) <|
    .st (.act none (.pset (some 6) 3 0 1 (.v 5))) .done) K65_4
@[simp] def W65_5 := @C.wpe _ _ K65_5.eq_1
def K65_6 : C := .seq (.pl <| .st (.ext 4 0) <|
    .st (.act none (.pnew 3 (.c (.agg #[.int .i64 0, .int .i64 0, .slice none 0 0])) [])) .done) K65_5
@[simp] def W65_6 := @C.wpe _ _ K65_6.eq_1
def B_laws_toExpr : C := .seq (.pl <| .st (.ext 4 0) <|
    .st (.act none (.pnew 1 (.v 0) [])) <|
    .st (.act none (.pnew 2 (.c (.agg #[.int .i64 0, .int .i64 0, .slice none 0 0])) [])) .done) K65_6
@[simp] def WB_laws_toExpr := @C.wpe _ _ B_laws_toExpr.eq_1
def R_laws_toExpr : FIR := ⟨B_laws_toExpr, 4, [(2, some (some 3))]⟩
theorem IR_laws_toExpr : cfun Try.prog H_laws_toExpr Try.f65 = some R_laws_toExpr := by kernel_rfl
theorem EN_laws_toExpr {args : List Value} {h : Heap} {k : Value → Heap → Prop} (hargs : args.length = 1) (hw : B_laws_toExpr.wp Try.prog (retQ [(2, some (some 3))] k) (env0 args 4) h) : CallE Try.prog fn_laws_toExpr args h k := enter Try.func65 rfl IR_laws_toExpr hargs hw

def H_laws_toExprS : Hint := ⟨[(0, false), (2, false), (3, false), (4, false)], [[1]]⟩
def K15_1 : C := .seq (.pl <| .st (.ext 4 1) <|
    .st (.act none (.px (some 4) (.mv (.v 2)))) <|
    .st (.act none (.px (some 1) (.mv (.v 4)))) .done) (.ret)
@[simp] def W15_1 := @C.wpe _ _ K15_1.eq_1
def K15_2 : C := .pl <| .st (.ext 4 2) <|
    .st (.act none (.px (some 4) (.mv (.v 3)))) <|
    .st (.act none (.px (some 5) (.bin .add (.v 4) (.c (.int .i64 1))))) <|
    .st (.act none (.px (some 3) (.mv (.v 5)))) .done
@[simp] def W15_2 := @C.wpe _ _ K15_2.eq_1
def K15_3 : Pl := .st (.act none (.px (some 11) (.ia 3 (.v 4) (.v 5)))) <|
    .st (.act none (.ex none (.store 3 (.v 11) (.v 10)))) .done
@[simp] def W15_3 := @Pl.wpe _ _ K15_3.eq_1
def K15_4 : C := .seq (.block 1 (.pl <| .st (.ext 4 8) <|
    .st (.act none (.px (some 4) (.mv (.v 2)))) <|
    .st (.act none (.px (some 5) (.mv (.v 3)))) <|
    .st (.act none (.px (some 6) (.mv (.v 0)))) <|
    .st (.act none (.px (some 7) (.mv (.v 3)))) <|
    .st (.act none (.px (some 8) (.ia 3 (.v 6) (.v 7)))) <|
    .st (.act none (.ld (some 9) (.v 8) (some 3))) <|
    .st (.act none (.ex (some 10) (.call fn_laws_toExpr [.v 9]))) K15_3)) K15_2
@[simp] def W15_4 := @C.wpe _ _ K15_4.eq_1
def K15_5 : C := .cond 4 (.v 7) (.skip) (.exit 0)
@[simp] def W15_5 := @C.wpe _ _ K15_5.eq_1
def K15_6 : C := .seq (.seq (.pl <| .st (.ext 4 4) <|
    .st (.act none (.px (some 4) (.mv (.v 3)))) <|
    .st (.act none (.px (some 5) (.mv (.v 0)))) <|
    .st (.act none (.px (some 6) (.lenV (.v 5)))) <|
    .st (.act none (.px (some 7) (.bin .lss (.v 4) (.v 6)))) .done) K15_5) K15_4
@[simp] def W15_6 := @C.wpe _ _ K15_6.eq_1
def K15_7 : C := .block 0 (.loop 4 [1] K15_6)
@[simp] def W15_7 := @C.wpe _ _ K15_7.eq_1
def K15_8 : C := .seq (.seq (.pl <| .st (.ext 4 0) <|
    .st (.act none (.px (some 3) (.mv (.c (.int .i64 0))))) .done) K15_7) K15_1
@[simp] def W15_8 := @C.wpe _ _ K15_8.eq_1
def K15_9 : Pl := .st (.act none (.px (some 2) (.mv (.v 6)))) .done
@[simp] def W15_9 := @Pl.wpe _ _ K15_9.eq_1
def K15_10 : C := .seq (.pl <| .st (.ext 4 3) <|
    .st (.act none (.px (some 4) (.mv (.v 0)))) <|
    .st (.act none (.px (some 5) (.lenV (.v 4)))) <|
    .st (.act none (.ex (some 6) (.mks 40 3 [.int .i64 0, .int .i64 0, .slice none 0 0] (.v 5) (.v 5)))) K15_9) K15_8
@[simp] def W15_10 := @C.wpe _ _ K15_10.eq_1
def B_laws_toExprS : C := .seq (.pl <| .st (.ext 4 0) <|
    .st (.act none (.px (some 1) (.mv (.c (.slice none 0 0))))) .done) K15_10
@[simp] def WB_laws_toExprS := @C.wpe _ _ B_laws_toExprS.eq_1
def R_laws_toExprS : FIR := ⟨B_laws_toExprS, 4, [(1, none)]⟩
theorem IR_laws_toExprS : cfun Try.prog H_laws_toExprS Try.f15 = some R_laws_toExprS := by kernel_rfl
theorem EN_laws_toExprS {args : List Value} {h : Heap} {k : Value → Heap → Prop} (hargs : args.length = 1) (hw : B_laws_toExprS.wp Try.prog (retQ [(1, none)] k) (env0 args 4) h) : CallE Try.prog fn_laws_toExprS args h k := enter Try.func15 rfl IR_laws_toExprS hargs hw

def H_laws_toIntS : Hint := ⟨[(0, false), (2, false), (3, false), (4, false)], [[1]]⟩
def K63_1 : C := .seq (.pl <| .st (.ext 4 1) <|
    .st (.act none (.px (some 4) (.mv (.v 2)))) <|
    .st (.act none (.px (some 1) (.mv (.v 4)))) .done) (.ret)
@[simp] def W63_1 := @C.wpe _ _ K63_1.eq_1
def K63_2 : C := .pl <| .st (.ext 4 2) <|
    .st (.act none (.px (some 4) (.mv (.v 3)))) <|
    .st (.act none (.px (some 5) (.bin .add (.v 4) (.c (.int .i64 1))))) <|
    .st (.act none (.px (some 3) (.mv (.v 5)))) .done
@[simp] def W63_2 := @C.wpe _ _ K63_2.eq_1
def K63_3 : C := .seq (.block 1 (.pl <| .st (.ext 4 7) <|
    .st (.act none (.px (some 4) (.mv (.v 2)))) <|
    .st (.act none (.px (some 5) (.mv (.v 3)))) <|
    .st (.act none (.px (some 6) (.mv (.v 0)))) <|
    .st (.act none (.px (some 7) (.mv (.v 3)))) <|
    .st (.act none (.px (some 8) (.ia 1 (.v 6) (.v 7)))) <|
    .st (.act none (.ld (some 9) (.v 8) none)) <|
    .st (.act none (.px (some 10) (.ia 1 (.v 4) (.v 5)))) <|
    .st (.act none (.ex none (.store 1 (.v 10) (.v 9)))) .done)) K63_2
@[simp] def W63_3 := @C.wpe _ _ K63_3.eq_1
def K63_4 : C := .cond 4 (.v 7) (.skip) (.exit 0)
@[simp] def W63_4 := @C.wpe _ _ K63_4.eq_1
def K63_5 : C := .seq (.seq (.pl <| .st (.ext 4 4) <|
    .st (.act none (.px (some 4) (.mv (.v 3)))) <|
    .st (.act none (.px (some 5) (.mv (.v 0)))) <|
    .st (.act none (.px (some 6) (.lenV (.v 5)))) <|
    .st (.act none (.px (some 7) (.bin .lss (.v 4) (.v 6)))) .done) K63_4) K63_3
@[simp] def W63_5 := @C.wpe _ _ K63_5.eq_1
def K63_6 : C := .block 0 (.loop 4 [1] K63_5)
@[simp] def W63_6 := @C.wpe _ _ K63_6.eq_1
def K63_7 : C := .seq (.seq (.pl <| .st (.ext 4 0) <|
    .st (.act none (.px (some 3) (.mv (.c (.int .i64 0))))) .done) K63_6) K63_1
@[simp] def W63_7 := @C.wpe _ _ K63_7.eq_1
def K63_8 : Pl := .st (.act none (.px (some 2) (.mv (.v 6)))) .done
@[simp] def W63_8 := @Pl.wpe _ _ K63_8.eq_1
def K63_9 : C := .seq (.pl <| .st (.ext 4 3) <|
    .st (.act none (.px (some 4) (.mv (.v 0)))) <|
    .st (.act none (.px (some 5) (.lenV (.v 4)))) <|
    .st (.act none (.ex (some 6) (.mks 8 1 [.int .i64 0] (.v 5) (.v 5)))) K63_8) K63_7
@[simp] def W63_9 := @C.wpe _ _ K63_9.eq_1
def B_laws_toIntS : C := .seq (.pl <| .st (.ext 4 0) <|
    .st (.act none (.px (some 1) (.mv (.c (.slice none 0 0))))) .done) K63_9
@[simp] def WB_laws_toIntS := @C.wpe _ _ B_laws_toIntS.eq_1
def R_laws_toIntS : FIR := ⟨B_laws_toIntS, 4, [(1, none)]⟩
theorem IR_laws_toIntS : cfun Try.prog H_laws_toIntS Try.f63 = some R_laws_toIntS := by kernel_rfl
theorem EN_laws_toIntS {args : List Value} {h : Heap} {k : Value → Heap → Prop} (hargs : args.length = 1) (hw : B_laws_toIntS.wp Try.prog (retQ [(1, none)] k) (env0 args 4) h) : CallE Try.prog fn_laws_toIntS args h k := enter Try.func63 rfl IR_laws_toIntS hargs hw

def H_laws_toProcess : Hint := ⟨[(0, false), (1, true), (2, true), (3, true)], []⟩
def K117_1 : C := .seq (.pl <| .st (.ext 4 1) <|
    .st (.act none (.pget (some 4) none 3 0 (some 2))) <|
    .st (.act none (.pset none 2 0 2 (.v 4))) .done) (.ret)
@[simp] def W117_1 := @C.wpe _ _ K117_1.eq_1
def K117_2 : Pl := .st (.act none (.als 7 none 3)) <|
    .st (.act none (.pset (some 7) 3 1 1 (.v 6))) .done
@[simp] def W117_2 := @Pl.wpe _ _ K117_2.eq_1
def K117_3 : C := .seq (.pl <| .st (.ext 4 4) <|
    .st (.act none (.als 4 none 1)) <|
    .st (.act none (.pget (some 5) (some 4) 1 1 none)) <|
    .st (.act none (.ex (some 6) (.call fn_laws_toEdgeS [.v 5]))) K117_2) K117_1
@[simp] def W117_3 := @C.wpe _ _ K117_3.eq_1
def K117_4 : C := .seq (.pl <| .st (.ext 4 3) <|
    .st (.act none (.als 4 none 1)) <|
    .st (.act none (.pget (some 5) (some 4) 1 0 none)) <|
    .st (.act none (.als 6 none 3)) <|
    .st (.act none (.pset (some 6) 3 0 1 (.v 5))) .done) K117_3
@[simp] def W117_4 := @C.wpe _ _ K117_4.eq_1
def K117_5 : C := .seq (.pl <| .st (.ext 4 0) <|
    .st (.act none (.pnew 3 (.c (.agg #[.int .i64 0, .slice none 0 0])) [])) .done) K117_4
@[simp] def W117_5 := @C.wpe _ _ K117_5.eq_1
def B_laws_toProcess : C := .seq (.pl <| .st (.ext 4 0) <|
    .st (.act none (.pnew 1 (.v 0) [])) <|
    .st (.act none (.pnew 2 (.c (.agg #[.int .i64 0, .slice none 0 0])) [])) .done) K117_5
@[simp] def WB_laws_toProcess := @C.wpe _ _ B_laws_toProcess.eq_1
def R_laws_toProcess : FIR := ⟨B_laws_toProcess, 4, [(2, some (some 2))]⟩
theorem IR_laws_toProcess : cfun Try.prog H_laws_toProcess Try.f117 = some R_laws_toProcess := by kernel_rfl
theorem EN_laws_toProcess {args : List Value} {h : Heap} {k : Value → Heap → Prop} (hargs : args.length = 1) (hw : B_laws_toProcess.wp Try.prog (retQ [(2, some (some 2))] k) (env0 args 4) h) : CallE Try.prog fn_laws_toProcess args h k := enter Try.func117 rfl IR_laws_toProcess hargs hw

def H_laws_toProcessS : Hint := ⟨[(0, false), (2, false), (3, false), (4, false)], [[1]]⟩
def K64_1 : C := .seq (.pl <| .st (.ext 4 1) <|
    .st (.act none (.px (some 4) (.mv (.v 2)))) <|
    .st (.act none (.px (some 1) (.mv (.v 4)))) .done) (.ret)
@[simp] def W64_1 := @C.wpe _ _ K64_1.eq_1
def K64_2 : C := .pl <| .st (.ext 4 2) <|
    .st (.act none (.px (some 4) (.mv (.v 3)))) <|
    .st (.act none (.px (some 5) (.bin .add (.v 4) (.c (.int .i64 1))))) <|
    .st (.act none (.px (some 3) (.mv (.v 5)))) .done
@[simp] def W64_2 := @C.wpe _ _ K64_2.eq_1
def K64_3 : Pl := .st (.act none (.px (some 11) (.ia 2 (.v 4) (.v 5)))) <|
    .st (.act none (.ex none (.store 2 (.v 11) (.v 10)))) .done
@[simp] def W64_3 := @Pl.wpe _ _ K64_3.eq_1
def K64_4 : C := .seq (.block 1 (.pl <| .st (.ext 4 8) <|
    .st (.act none (.px (some 4) (.mv (.v 2)))) <|
    .st (.act none (.px (some 5) (.mv (.v 3)))) <|
    .st (.act none (.px (some 6) (.mv (.v 0)))) <|
    .st (.act none (.px (some 7) (.mv (.v 3)))) <|
    .st (.act none (.px (some 8) (.ia 2 (.v 6) (.v 7)))) <|
    .st (.act none (.ld (some 9) (.v 8) (some 2))) <|
    .st (.act none (.ex (some 10) (.call fn_laws_toProcess [.v 9]))) K64_3)) K64_2
@[simp] def W64_4 := @C.wpe _ _ K64_4.eq_1
def K64_5 : C := .cond 4 (.v 7) (.skip) (.exit 0)
@[simp] def W64_5 := @C.wpe _ _ K64_5.eq_1
def K64_6 : C := .seq (.seq (.pl <| .st (.ext 4 4) <|
    .st (.act none (.px (some 4) (.mv (.v 3)))) <|
    .st (.act none (.px (some 5) (.mv (.v 0)))) <|
    .st (.act none (.px (some 6) (.lenV (.v 5)))) <|
    .st (.act none (.px (some 7) (.bin .lss (.v 4) (.v 6)))) .done) K64_5) K64_4
@[simp] def W64_6 := @C.wpe _ _ K64_6.eq_1
def K64_7 : C := .block 0 (.loop 4 [1] K64_6)
@[simp] def W64_7 := @C.wpe _ _ K64_7.eq_1
def K64_8 : C := .seq (.seq (.pl <| .st (.ext 4 0) <|
    .st (.act none (.px (some 3) (.mv (.c (.int .i64 0))))) .done) K64_7) K64_1
@[simp] def W64_8 := @C.wpe _ _ K64_8.eq_1
def K64_9 : Pl := .st (.act none (.px (some 2) (.mv (.v 6)))) .done
@[simp] def W64_9 := @Pl.wpe _ _ K64_9.eq_1
def K64_10 : C := .seq (.pl <| .st (.ext 4 3) <|
    .st (.act none (.px (some 4) (.mv (.v 0)))) <|
    .st (.act none (.px (some 5) (.lenV (.v 4)))) <|
    .st (.act none (.ex (some 6) (.mks 32 2 [.int .i64 0, .slice none 0 0] (.v 5) (.v 5)))) K64_9) K64_8
@[simp] def W64_10 := @C.wpe _ _ K64_10.eq_1
def B_laws_toProcessS : C := .seq (.pl <| .st (.ext 4 0) <|
    .st (.act none (.px (some 1) (.mv (.c (.slice none 0 0))))) .done) K64_10
@[simp] def WB_laws_toProcessS := @C.wpe _ _ B_laws_toProcessS.eq_1
def R_laws_toProcessS : FIR := ⟨B_laws_toProcessS, 4, [(1, none)]⟩
theorem IR_laws_toProcessS : cfun Try.prog H_laws_toProcessS Try.f64 = some R_laws_toProcessS := by kernel_rfl
theorem EN_laws_toProcessS {args : List Value} {h : Heap} {k : Value → Heap → Prop} (hargs : args.length = 1) (hw : B_laws_toProcessS.wp Try.prog (retQ [(1, none)] k) (env0 args 4) h) : CallE Try.prog fn_laws_toProcessS args h k := enter Try.func64 rfl IR_laws_toProcessS hargs hw

def H_laws_toSystem : Hint := ⟨[(0, false), (1, true), (2, true), (3, true)], []⟩
def K14_1 : C := .seq (.pl <| .st (.ext 4 1) <|
    .st (.act none (.pget (some 4) none 3 0 (some 2))) <|
    .st (.act none (.pset none 2 0 2 (.v 4))) .done) (.ret)
@[simp] def W14_1 := @C.wpe _ _ K14_1.eq_1
def K14_2 : Pl := .st (.act none (.als 7 none 3)) <|
    .st (.act none (.pset (some 7) 3 1 1 (.v 6))) .done
@[simp] def W14_2 := @Pl.wpe _ _ K14_2.eq_1
def K14_3 : C := .seq (.pl <| .st (.ext 4 4) <|
    .st (.act none (.als 4 none 1)) <|
    .st (.act none (.pget (some 5) (some 4) 1 1 none)) <|
    .st (.act none (.ex (some 6) (.call fn_laws_toProcessS [.v 5]))) K14_2) K14_1
@[simp] def W14_3 := @C.wpe _ _ K14_3.eq_1
def K14_4 : Pl := .st (.act none (.als 7 none 3)) <|
    .st (.act none (.pset (some 7) 3 0 1 (.v 6))) .done
@[simp] def W14_4 := @Pl.wpe _ _ K14_4.eq_1
def K14_5 : C := .seq (.pl <| .st (.ext 4 4) <|
    .st (.act none (.als 4 none 1)) <|
    .st (.act none (.pget (some 5) (some 4) 1 0 none)) <|
    .st (.act none (.ex (some 6) (.call fn_laws_toIntS [.v 5]))) K14_4) K14_3
@[simp] def W14_5 := @C.wpe _ _ K14_5.eq_1
def K14_6 : C := .seq (.pl <| .st (.ext 4 0) <|
    .st (.act none (.pnew 3 (.c (.agg #[.slice none 0 0, .slice none 0 0])) [])) .done) K14_5
@[simp] def W14_6 := @C.wpe _ _ K14_6.eq_1
def B_laws_toSystem : C := .seq (.pl <| .st (.ext 4 0) <|
    .st (.act none (.pnew 1 (.v 0) [])) <|
    .st (.act none (.pnew 2 (.c (.agg #[.slice none 0 0, .slice none 0 0])) [])) .done) K14_6
@[simp] def WB_laws_toSystem := @C.wpe _ _ B_laws_toSystem.eq_1
def R_laws_toSystem : FIR := ⟨B_laws_toSystem, 4, [(2, some (some 2))]⟩
theorem IR_laws_toSystem : cfun Try.prog H_laws_toSystem Try.f14 = some R_laws_toSystem := by kernel_rfl
theorem EN_laws_toSystem {args : List Value} {h : Heap} {k : Value → Heap → Prop} (hargs : args.length = 1) (hw : B_laws_toSystem.wp Try.prog (retQ [(2, some (some 2))] k) (env0 args 4) h) : CallE Try.prog fn_laws_toSystem args h k := enter Try.func14 rfl IR_laws_toSystem hargs hw

def H_slices_ContainsFunc_S_impl_Edge_impl_Edge : Hint := ⟨[(0, false), (1, false), (4, false)], []⟩
def K107_1 : Pl := .st (.act none (.px (some 6) (.bin .geq (.v 5) (.c (.int .i64 0))))) <|
    .st (.act none (.px (some 2) (.mv (.v 6)))) .done
@[simp] def W107_1 := @Pl.wpe _ _ K107_1.eq_1
def K107_2 : C := .seq (.pl <| .st (.ext 3 4) <|
    .st (.act none (.px (some 3) (.mv (.v 0)))) <|
    .st (.act none (.px (some 4) (.mv (.v 1)))) <|
    .st (.act none (.ex (some 5) (.call fn_slices_IndexFunc_S_impl_Edge_impl_Edge [.v 3, .v 4]))) K107_1) (.ret)
@[simp] def W107_2 := @C.wpe _ _ K107_2.eq_1
def B_slices_ContainsFunc_S_impl_Edge_impl_Edge : C := .seq (.pl <| .st (.ext 3 0) <|
    .st (.act none (.px (some 2) (.mv (.c (.bool false))))) .done) K107_2
@[simp] def WB_slices_ContainsFunc_S_impl_Edge_impl_Edge := @C.wpe _ _ B_slices_ContainsFunc_S_impl_Edge_impl_Edge.eq_1
def R_slices_ContainsFunc_S_impl_Edge_impl_Edge : FIR := ⟨B_slices_ContainsFunc_S_impl_Edge_impl_Edge, 3, [(2, none)]⟩
theorem IR_slices_ContainsFunc_S_impl_Edge_impl_Edge : cfun Try.prog H_slices_ContainsFunc_S_impl_Edge_impl_Edge Try.f107 = some R_slices_ContainsFunc_S_impl_Edge_impl_Edge := by kernel_rfl
theorem EN_slices_ContainsFunc_S_impl_Edge_impl_Edge {args : List Value} {h : Heap} {k : Value → Heap → Prop} (hargs : args.length = 2) (hw : B_slices_ContainsFunc_S_impl_Edge_impl_Edge.wp Try.prog (retQ [(2, none)] k) (env0 args 3) h) : CallE Try.prog fn_slices_ContainsFunc_S_impl_Edge_impl_Edge args h k := enter Try.func107 rfl IR_slices_ContainsFunc_S_impl_Edge_impl_Edge hargs hw

def H_slices_ContainsFunc_S_impl_Expr_impl_Expr : Hint := ⟨[(0, false), (1, false), (4, false)], []⟩
def K118_1 : Pl := .st (.act none (.px (some 6) (.bin .geq (.v 5) (.c (.int .i64 0))))) <|
    .st (.act none (.px (some 2) (.mv (.v 6)))) .done
@[simp] def W118_1 := @Pl.wpe _ _ K118_1.eq_1
def K118_2 : C := .seq (.pl <| .st (.ext 3 4) <|
    .st (.act none (.px (some 3) (.mv (.v 0)))) <|
    .st (.act none (.px (some 4) (.mv (.v 1)))) <|
    .st (.act none (.ex (some 5) (.call fn_slices_IndexFunc_S_impl_Expr_impl_Expr [.v 3, .v 4]))) K118_1) (.ret)
@[simp] def W118_2 := @C.wpe _ _ K118_2.eq_1
def B_slices_ContainsFunc_S_impl_Expr_impl_Expr : C := .seq (.pl <| .st (.ext 3 0) <|
    .st (.act none (.px (some 2) (.mv (.c (.bool false))))) .done) K118_2
@[simp] def WB_slices_ContainsFunc_S_impl_Expr_impl_Expr := @C.wpe _ _ B_slices_ContainsFunc_S_impl_Expr_impl_Expr.eq_1
def R_slices_ContainsFunc_S_impl_Expr_impl_Expr : FIR := ⟨B_slices_ContainsFunc_S_impl_Expr_impl_Expr, 3, [(2, none)]⟩
theorem IR_slices_ContainsFunc_S_impl_Expr_impl_Expr : cfun Try.prog H_slices_ContainsFunc_S_impl_Expr_impl_Expr Try.f118 = some R_slices_ContainsFunc_S_impl_Expr_impl_Expr := by kernel_rfl
theorem EN_slices_ContainsFunc_S_impl_Expr_impl_Expr {args : List Value} {h : Heap} {k : Value → Heap → Prop} (hargs : args.length = 2) (hw : B_slices_ContainsFunc_S_impl_Expr_impl_Expr.wp Try.prog (retQ [(2, none)] k) (env0 args 3) h) : CallE Try.prog fn_slices_ContainsFunc_S_impl_Expr_impl_Expr args h k := enter Try.func118 rfl IR_slices_ContainsFunc_S_impl_Expr_impl_Expr hargs hw

def H_slices_ContainsFunc_S_int_int : Hint := ⟨[(0, false), (1, false), (4, false)], []⟩
def K147_1 : Pl := .st (.act none (.px (some 6) (.bin .geq (.v 5) (.c (.int .i64 0))))) <|
    .st (.act none (.px (some 2) (.mv (.v 6)))) .done
@[simp] def W147_1 := @Pl.wpe _ _ K147_1.eq_1
def K147_2 : C := .seq (.pl <| .st (.ext 3 4) <|
    .st (.act none (.px (some 3) (.mv (.v 0)))) <|
    .st (.act none (.px (some 4) (.mv (.v 1)))) <|
    .st (.act none (.ex (some 5) (.call fn_slices_IndexFunc_S_int_int [.v 3, .v 4]))) K147_1) (.ret)
@[simp] def W147_2 := @C.wpe _ _ K147_2.eq_1
def B_slices_ContainsFunc_S_int_int : C := .seq (.pl <| .st (.ext 3 0) <|
    .st (.act none (.px (some 2) (.mv (.c (.bool false))))) .done) K147_2
@[simp] def WB_slices_ContainsFunc_S_int_int := @C.wpe _ _ B_slices_ContainsFunc_S_int_int.eq_1
def R_slices_ContainsFunc_S_int_int : FIR := ⟨B_slices_ContainsFunc_S_int_int, 3, [(2, none)]⟩
theorem IR_slices_ContainsFunc_S_int_int : cfun Try.prog H_slices_ContainsFunc_S_int_int Try.f147 = some R_slices_ContainsFunc_S_int_int := by kernel_rfl
theorem EN_slices_ContainsFunc_S_int_int {args : List Value} {h : Heap} {k : Value → Heap → Prop} (hargs : args.length = 2) (hw : B_slices_ContainsFunc_S_int_int.wp Try.prog (retQ [(2, none)] k) (env0 args 3) h) : CallE Try.prog fn_slices_ContainsFunc_S_int_int args h k := enter Try.func147 rfl IR_slices_ContainsFunc_S_int_int hargs hw

def H_slices_EqualFunc_S_impl_Expr_S_impl_Expr_impl_Expr_impl_Expr : Hint := ⟨[(0, false), (1, false), (2, false), (6, false), (7, false), (8, true), (9, true), (15, false), (16, false), (17, false)], [[0, 3, 4, 5, 6]]⟩
def K180_1 : C := .seq (.pl <| .st (.ext 10 0) <|
    .st (.act none (.px (some 3) (.mv (.c (.bool true))))) .done) (.ret)
@[simp] def W180_1 := @C.wpe _ _ K180_1.eq_1
def K180_2 : C := .pl <| .st (.ext 10 1) <|
    .st (.act none (.px (some 10) (.bin .add (.v 9) (.c (.int .i64 1))))) <|
    .st (.act none (.px (some 9) (.mv (.v 10)))) .done
@[simp] def W180_2 := @C.wpe _ _ K180_2.eq_1
def K180_3 : C := .seq (.pl <| .st (.ext 10 0) <|
    .st (.act none (.px (some 3) (.mv (.c (.bool false))))) .done) (.ret)
@[simp] def W180_3 := @C.wpe _ _ K180_3.eq_1
def K180_4 : C := .cond 10 (.v 14) K180_3 (.skip)
@[simp] def W180_4 := @C.wpe _ _ K180_4.eq_1
def K180_5 : Pl := .st (.act none (.px (some 14) (.un .not (.v 13)))) .done
@[simp] def W180_5 := @Pl.wpe _ _ K180_5.eq_1
def K180_6 : C := .seq (.pl <| .st (.ext 10 5) <|
    .st (.act none (.px (some 10) (.mv (.v 2)))) <|
    .st (.act none (.pget (some 11) none 5 0 (some 3))) <|
    .st (.act none (.pget (some 12) none 6 0 (some 3))) <|
    .st (.act none (.ex (some 13) (.callv (.v 10) [.v 11, .v 12]))) K180_5) K180_4
@[simp] def W180_6 := @C.wpe _ _ K180_6.eq_1
def K180_7 : C := .seq (.pl <| .st (.ext 10 4) <|
    .st (.act none (.px (some 10) (.mv (.v 1)))) <|
    .st (.act none (.px (some 11) (.mv (.v 4)))) <|
    .st (.act none (.px (some 12) (.ia 3 (.v 10) (.v 11)))) <|
    .st (.act none (.ld (some 13) (.v 12) (some 3))) <|
    .st (.act none (.pnew 6 (.c (.agg #[.int .i64 0, .int .i64 0, .slice none 0 0])) [])) <|
    .st (.act none (.pset none 6 0 3 (.v 13))) .done) K180_6
@[simp] def W180_7 := @C.wpe _ _ K180_7.eq_1
def K180_8 : C := .seq (.block 1 (.seq (.pl <| .st (.ext 10 3) <|
    .st (.act none (.px (some 10) (.mv (.v 9)))) <|
    .st (.act none (.px (some 11) (.ia 3 (.v 7) (.v 9)))) <|
    .st (.act none (.ld (some 12) (.v 11) (some 3))) <|
    .st (.act none (.pnew 5 (.c (.agg #[.int .i64 0, .int .i64 0, .slice none 0 0])) [])) <|
    .st (.act none (.px (some 4) (.mv (.v 10)))) <|
    .st (.act none (.pset none 5 0 3 (.v 12))) .done) K180_7)) K180_2
@[simp] def W180_8 := @C.wpe _ _ K180_8.eq_1
def K180_9 : C := .seq (.cond 10 (.v 10) (.skip) (.exit 0)) K180_8
@[simp] def W180_9 := @C.wpe _ _ K180_9.eq_1
def K180_10 : C := .seq (.pl <| .st (.ext 10 1) <|
    .st (.act none (.px (some 10) (.bin .lss (.v 9) (.v 8)))) .done) K180_9
@[simp] def W180_10 := @C.wpe _ _ K180_10.eq_1
def K180_11 : C := .block 0 (.loop 10 [0, 3, 4, 5, 6] K180_10)
@[simp] def W180_11 := @C.wpe _ _ K180_11.eq_1
def K180_12 : C := .seq (.seq (.pl <| .st (.ext 10 0) <|
    .st (.act none (.px (some 7) (.mv (.v 0)))) <|
    .st (.act none (.px (some 8) (.lenV (.v 7)))) <|
    .st (.act none (.px (some 9) (.mv (.c (.int .i64 0))))) .done) K180_11) K180_1
@[simp] def W180_12 := @C.wpe _ _ K180_12.eq_1
def K180_13 : C := .seq (.pl <| .st (.ext 10 0) <|
    .st (.act none (.px (some 3) (.mv (.c (.bool false))))) .done) (.ret)
@[simp] def W180_13 := @C.wpe _ _ K180_13.eq_1
def K180_14 : C := .cond 10 (.v 14) K180_13 (.skip)
@[simp] def W180_14 := @C.wpe _ _ K180_14.eq_1
def K180_15 : C := .seq (.seq (.pl <| .st (.ext 10 5) <|
    .st (.act none (.px (some 10) (.mv (.v 0)))) <|
    .st (.act none (.px (some 11) (.lenV (.v 10)))) <|
    .st (.act none (.px (some 12) (.mv (.v 1)))) <|
    .st (.act none (.px (some 13) (.lenV (.v 12)))) <|
    .st (.act none (.px (some 14) (.bin .neq (.v 11) (.v 13)))) .done) K180_14) K180_12
@[simp] def W180_15 := @C.wpe _ _ K180_15.eq_1
def B_slices_EqualFunc_S_impl_Expr_S_impl_Expr_impl_Expr_impl_Expr : C := .seq (.pl <| .st (.ext 10 0) <|
    .st (.act none (.px (some 3) (.mv (.c (.bool false))))) .done) K180_15
@[simp] def WB_slices_EqualFunc_S_impl_Expr_S_impl_Expr_impl_Expr_impl_Expr := @C.wpe _ _ B_slices_EqualFunc_S_impl_Expr_S_impl_Expr_impl_Expr_impl_Expr.eq_1
def R_slices_EqualFunc_S_impl_Expr_S_impl_Expr_impl_Expr_impl_Expr : FIR := ⟨B_slices_EqualFunc_S_impl_Expr_S_impl_Expr_impl_Expr_impl_Expr, 10, [(3, none)]⟩
theorem IR_slices_EqualFunc_S_impl_Expr_S_impl_Expr_impl_Expr_impl_Expr : cfun Try.prog H_slices_EqualFunc_S_impl_Expr_S_impl_Expr_impl_Expr_impl_Expr Try.f180 = some R_slices_EqualFunc_S_impl_Expr_S_impl_Expr_impl_Expr_impl_Expr := by kernel_rfl
theorem EN_slices_EqualFunc_S_impl_Expr_S_impl_Expr_impl_Expr_impl_Expr {args : List Value} {h : Heap} {k : Value → Heap → Prop} (hargs : args.length = 3) (hw : B_slices_EqualFunc_S_impl_Expr_S_impl_Expr_impl_Expr_impl_Expr.wp Try.prog (retQ [(3, none)] k) (env0 args 10) h) : CallE Try.prog fn_slices_EqualFunc_S_impl_Expr_S_impl_Expr_impl_Expr_impl_Expr args h k := enter Try.func180 rfl IR_slices_EqualFunc_S_impl_Expr_S_impl_Expr_impl_Expr_impl_Expr hargs hw

def H_slices_IndexFunc_S_impl_Edge_impl_Edge : Hint := ⟨[(0, false), (1, false), (4, false), (5, false), (7, false), (8, false)], [[2, 3]]⟩
def K149_1 : C := .seq (.pl <| .st (.ext 6 0) <|
    .st (.act none (.px (some 2) (.mv (.c (.int .i64 (-1)))))) .done) (.ret)
@[simp] def W149_1 := @C.wpe _ _ K149_1.eq_1
def K149_2 : C := .pl <| .st (.ext 6 1) <|
    .st (.act none (.px (some 6) (.bin .add (.v 5) (.c (.int .i64 1))))) <|
    .st (.act none (.px (some 5) (.mv (.v 6)))) .done
@[simp] def W149_2 := @C.wpe _ _ K149_2.eq_1
def K149_3 : C := .seq (.pl <| .st (.ext 6 1) <|
    .st (.act none (.px (some 6) (.mv (.v 3)))) <|
    .st (.act none (.px (some 2) (.mv (.v 6)))) .done) (.ret)
@[simp] def W149_3 := @C.wpe _ _ K149_3.eq_1
def K149_4 : C := .cond 6 (.v 11) K149_3 (.skip)
@[simp] def W149_4 := @C.wpe _ _ K149_4.eq_1
def K149_5 : C := .seq (.pl <| .st (.ext 6 6) <|
    .st (.act none (.px (some 6) (.mv (.v 1)))) <|
    .st (.act none (.px (some 7) (.mv (.v 0)))) <|
    .st (.act none (.px (some 8) (.mv (.v 3)))) <|
    .st (.act none (.px (some 9) (.ia 10 (.v 7) (.v 8)))) <|
    .st (.act none (.ld (some 10) (.v 9) (some 10))) <|
    .st (.act none (.ex (some 11) (.callv (.v 6) [.v 10]))) .done) K149_4
@[simp] def W149_5 := @C.wpe _ _ K149_5.eq_1
def K149_6 : C := .seq (.block 1 (.seq (.pl <| .st (.ext 6 1) <|
    .st (.act none (.px (some 6) (.mv (.v 5)))) <|
    .st (.act none (.px (some 3) (.mv (.v 6)))) .done) K149_5)) K149_2
@[simp] def W149_6 := @C.wpe _ _ K149_6.eq_1
def K149_7 : C := .seq (.cond 6 (.v 6) (.skip) (.exit 0)) K149_6
@[simp] def W149_7 := @C.wpe _ _ K149_7.eq_1
def K149_8 : C := .seq (.pl <| .st (.ext 6 1) <|
    .st (.act none (.px (some 6) (.bin .lss (.v 5) (.v 4)))) .done) K149_7
@[simp] def W149_8 := @C.wpe _ _ K149_8.eq_1
def K149_9 : C := .block 0 (.loop 6 [2, 3] K149_8)
@[simp] def W149_9 := @C.wpe _ _ K149_9.eq_1
def K149_10 : C := .seq (.seq (.pl <| .st (.ext 6 1) <|
    .st (.act none (.px (some 6) (.mv (.v 0)))) <|
    .st (.act none (.px (some 4) (.lenV (.v 6)))) <|
    .st (.act none (.px (some 5) (.mv (.c (.int .i64 0))))) .done) K149_9) K149_1
@[simp] def W149_10 := @C.wpe _ _ K149_10.eq_1
def B_slices_IndexFunc_S_impl_Edge_impl_Edge : C := .seq (.pl <| .st (.ext 6 0) <|
    .st (.act none (.px (some 2) (.mv (.c (.int .i64 0))))) .done) K149_10
@[simp] def WB_slices_IndexFunc_S_impl_Edge_impl_Edge := @C.wpe _ _ B_slices_IndexFunc_S_impl_Edge_impl_Edge.eq_1
def R_slices_IndexFunc_S_impl_Edge_impl_Edge : FIR := ⟨B_slices_IndexFunc_S_impl_Edge_impl_Edge, 6, [(2, none)]⟩
theorem IR_slices_IndexFunc_S_impl_Edge_impl_Edge : cfun Try.prog H_slices_IndexFunc_S_impl_Edge_impl_Edge Try.f149 = some R_slices_IndexFunc_S_impl_Edge_impl_Edge := by kernel_rfl
theorem EN_slices_IndexFunc_S_impl_Edge_impl_Edge {args : List Value} {h : Heap} {k : Value → Heap → Prop} (hargs : args.length = 2) (hw : B_slices_IndexFunc_S_impl_Edge_impl_Edge.wp Try.prog (retQ [(2, none)] k) (env0 args 6) h) : CallE Try.prog fn_slices_IndexFunc_S_impl_Edge_impl_Edge args h k := enter Try.func149 rfl IR_slices_IndexFunc_S_impl_Edge_impl_Edge hargs hw

def H_slices_IndexFunc_S_impl_Expr_impl_Expr : Hint := ⟨[(0, false), (1, false), (4, false), (5, false), (7, false), (8, false)], [[2, 3]]⟩
def K157_1 : C := .seq (.pl <| .st (.ext 6 0) <|
    .st (.act none (.px (some 2) (.mv (.c (.int .i64 (-1)))))) .done) (.ret)
@[simp] def W157_1 := @C.wpe _ _ K157_1.eq_1
def K157_2 : C := .pl <| .st (.ext 6 1) <|
    .st (.act none (.px (some 6) (.bin .add (.v 5) (.c (.int .i64 1))))) <|
    .st (.act none (.px (some 5) (.mv (.v 6)))) .done
@[simp] def W157_2 := @C.wpe _ _ K157_2.eq_1
def K157_3 : C := .seq (.pl <| .st (.ext 6 1) <|
    .st (.act none (.px (some 6) (.mv (.v 3)))) <|
    .st (.act none (.px (some 2) (.mv (.v 6)))) .done) (.ret)
@[simp] def W157_3 := @C.wpe _ _ K157_3.eq_1
def K157_4 : C := .cond 6 (.v 11) K157_3 (.skip)
@[simp] def W157_4 := @C.wpe _ _ K157_4.eq_1
def K157_5 : C := .seq (.pl <| .st (.ext 6 6) <|
    .st (.act none (.px (some 6) (.mv (.v 1)))) <|
    .st (.act none (.px (some 7) (.mv (.v 0)))) <|
    .st (.act none (.px (some 8) (.mv (.v 3)))) <|
    .st (.act none (.px (some 9) (.ia 3 (.v 7) (.v 8)))) <|
    .st (.act none (.ld (some 10) (.v 9) (some 3))) <|
    .st (.act none (.ex (some 11) (.callv (.v 6) [.v 10]))) .done) K157_4
@[simp] def W157_5 := @C.wpe _ _ K157_5.eq_1
def K157_6 : C := .seq (.block 1 (.seq (.pl <| .st (.ext 6 1) <|
    .st (.act none (.px (some 6) (.mv (.v 5)))) <|
    .st (.act none (.px (some 3) (.mv (.v 6)))) .done) K157_5)) K157_2
@[simp] def W157_6 := @C.wpe _ _ K157_6.eq_1
def K157_7 : C := .seq (.cond 6 (.v 6) (.skip) (.exit 0)) K157_6
@[simp] def W157_7 := @C.wpe _ _ K157_7.eq_1
def K157_8 : C := .seq (.pl <| .st (.ext 6 1) <|
    .st (.act none (.px (some 6) (.bin .lss (.v 5) (.v 4)))) .done) K157_7
@[simp] def W157_8 := @C.wpe _ _ K157_8.eq_1
def K157_9 : C := .block 0 (.loop 6 [2, 3] K157_8)
@[simp] def W157_9 := @C.wpe _ _ K157_9.eq_1
def K157_10 : C := .seq (.seq (.pl <| .st (.ext 6 1) <|
    .st (.act none (.px (some 6) (.mv (.v 0)))) <|
    .st (.act none (.px (some 4) (.lenV (.v 6)))) <|
    .st (.act none (.px (some 5) (.mv (.c (.int .i64 0))))) .done) K157_9) K157_1
@[simp] def W157_10 := @C.wpe _ _ K157_10.eq_1
def B_slices_IndexFunc_S_impl_Expr_impl_Expr : C := .seq (.pl <| .st (.ext 6 0) <|
    .st (.act none (.px (some 2) (.mv (.c (.int .i64 0))))) .done) K157_10
@[simp] def WB_slices_IndexFunc_S_impl_Expr_impl_Expr := @C.wpe _ _ B_slices_IndexFunc_S_impl_Expr_impl_Expr.eq_1
def R_slices_IndexFunc_S_impl_Expr_impl_Expr : FIR := ⟨B_slices_IndexFunc_S_impl_Expr_impl_Expr, 6, [(2, none)]⟩
theorem IR_slices_IndexFunc_S_impl_Expr_impl_Expr : cfun Try.prog H_slices_IndexFunc_S_impl_Expr_impl_Expr Try.f157 = some R_slices_IndexFunc_S_impl_Expr_impl_Expr := by kernel_rfl
theorem EN_slices_IndexFunc_S_impl_Expr_impl_Expr {args : List Value} {h : Heap} {k : Value → Heap → Prop} (hargs : args.length = 2) (hw : B_slices_IndexFunc_S_impl_Expr_impl_Expr.wp Try.prog (retQ [(2, none)] k) (env0 args 6) h) : CallE Try.prog fn_slices_IndexFunc_S_impl_Expr_impl_Expr args h k := enter Try.func157 rfl IR_slices_IndexFunc_S_impl_Expr_impl_Expr hargs hw

def H_slices_IndexFunc_S_int_int : Hint := ⟨[(0, false), (1, false), (4, false), (5, false), (7, false), (8, false)], [[2, 3]]⟩
def K181_1 : C := .seq (.pl <| .st (.ext 6 0) <|
    .st (.act none (.px (some 2) (.mv (.c (.int .i64 (-1)))))) .done) (.ret)
@[simp] def W181_1 := @C.wpe _ _ K181_1.eq_1
def K181_2 : C := .pl <| .st (.ext 6 1) <|
    .st (.act none (.px (some 6) (.bin .add (.v 5) (.c (.int .i64 1))))) <|
    .st (.act none (.px (some 5) (.mv (.v 6)))) .done
@[simp] def W181_2 := @C.wpe _ _ K181_2.eq_1
def K181_3 : C := .seq (.pl <| .st (.ext 6 1) <|
    .st (.act none (.px (some 6) (.mv (.v 3)))) <|
    .st (.act none (.px (some 2) (.mv (.v 6)))) .done) (.ret)
@[simp] def W181_3 := @C.wpe _ _ K181_3.eq_1
def K181_4 : C := .cond 6 (.v 11) K181_3 (.skip)
@[simp] def W181_4 := @C.wpe _ _ K181_4.eq_1
def K181_5 : C := .seq (.pl <| .st (.ext 6 6) <|
    .st (.act none (.px (some 6) (.mv (.v 1)))) <|
    .st (.act none (.px (some 7) (.mv (.v 0)))) <|
    .st (.act none (.px (some 8) (.mv (.v 3)))) <|
    .st (.act none (.px (some 9) (.ia 1 (.v 7) (.v 8)))) <|
    .st (.act none (.ld (some 10) (.v 9) none)) <|
    .st (.act none (.ex (some 11) (.callv (.v 6) [.v 10]))) .done) K181_4
@[simp] def W181_5 := @C.wpe _ _ K181_5.eq_1
def K181_6 : C := .seq (.block 1 (.seq (.pl <| .st (.ext 6 1) <|
    .st (.act none (.px (some 6) (.mv (.v 5)))) <|
    .st (.act none (.px (some 3) (.mv (.v 6)))) .done) K181_5)) K181_2
@[simp] def W181_6 := @C.wpe _ _ K181_6.eq_1
def K181_7 : C := .seq (.cond 6 (.v 6) (.skip) (.exit 0)) K181_6
@[simp] def W181_7 := @C.wpe _ _ K181_7.eq_1
def K181_8 : C := .seq (.pl <| .st (.ext 6 1) <|
    .st (.act none (.px (some 6) (.bin .lss (.v 5) (.v 4)))) .done) K181_7
@[simp] def W181_8 := @C.wpe _ _ K181_8.eq_1
def K181_9 : C := .block 0 (.loop 6 [2, 3] K181_8)
@[simp] def W181_9 := @C.wpe _ _ K181_9.eq_1
def K181_10 : C := .seq (.seq (.pl <| .st (.ext 6 1) <|
    .st (.act none (.px (some 6) (.mv (.v 0)))) <|
    .st (.act none (.px (some 4) (.lenV (.v 6)))) <|
    .st (.act none (.px (some 5) (.mv (.c (.int .i64 0))))) .done) K181_9) K181_1
@[simp] def W181_10 := @C.wpe _ _ K181_10.eq_1
def B_slices_IndexFunc_S_int_int : C := .seq (.pl <| .st (.ext 6 0) <|
    .st (.act none (.px (some 2) (.mv (.c (.int .i64 0))))) .done) K181_10
@[simp] def WB_slices_IndexFunc_S_int_int := @C.wpe _ _ B_slices_IndexFunc_S_int_int.eq_1
def R_slices_IndexFunc_S_int_int : FIR := ⟨B_slices_IndexFunc_S_int_int, 6, [(2, none)]⟩
theorem IR_slices_IndexFunc_S_int_int : cfun Try.prog H_slices_IndexFunc_S_int_int Try.f181 = some R_slices_IndexFunc_S_int_int := by kernel_rfl
theorem EN_slices_IndexFunc_S_int_int {args : List Value} {h : Heap} {k : Value → Heap → Prop} (hargs : args.length = 2) (hw : B_slices_IndexFunc_S_int_int.wp Try.prog (retQ [(2, none)] k) (env0 args 6) h) : CallE Try.prog fn_slices_IndexFunc_S_int_int args h k := enter Try.func181 rfl IR_slices_IndexFunc_S_int_int hargs hw

def H_spec_EdgeValid : Hint := ⟨[(0, false), (1, false), (2, true), (4, false)], []⟩
def K153_1 : Pl := .st (.act (some (.v 12, false)) (.px (some 20) (.pick (.v 16) (.v 19) (.c (.bool false))))) <|
    .st (.act none (.px (some 21) (.pick (.v 12) (.c (.bool true)) (.v 20)))) <|
    .st (.act none (.px (some 3) (.mv (.v 21)))) .done
@[simp] def W153_1 := @Pl.wpe _ _ K153_1.eq_1
def K153_2 : Pl := .st (.act none (.px (some 11) (.pick (.v 7) (.v 10) (.c (.bool false))))) <|
    .st (.act none (.px (some 12) (.mv (.v 11)))) <|
    .st (.act (some (.v 12, false)) (.als 13 none 2)) <|
    .st (.act (some (.v 12, false)) (.pget (some 14) (some 13) 2 5 none)) <|
    .st (.act (some (.v 12, false)) (.px (some 15) (.bin .geq (.v 14) (.c (.int .i64 0))))) <|
    .st (.act (some (.v 12, false)) (.px (some 16) (.mv (.v 15)))) <|
    .st (.act (some (.v 16, true)) (.als 17 none 2)) <|
    .st (.act (some (.v 16, true)) (.pget (some 18) (some 17) 2 6 (some 3))) <|
    .st (.act (some (.v 16, true)) (.ex (some 19) (.call fn_spec_ExprValid [.v 18]))) K153_1
@[simp] def W153_2 := @Pl.wpe _ _ K153_2.eq_1
def K153_3 : C := .seq (.pl <| .st (.ext 4 18) <|
    .st (.act none (.als 4 none 2)) <|
    .st (.act none (.pget (some 5) (some 4) 2 5 none)) <|
    .st (.act none (.px (some 6) (.bin .lss (.v 5) (.c (.int .i64 0))))) <|
    .st (.act none (.px (some 7) (.mv (.v 6)))) <|
    .st (.act (some (.v 7, true)) (.als 8 none 2)) <|
    .st (.act (some (.v 7, true)) (.pget (some 9) (some 8) 2 6 (some 3))) <|
    .st (.act (some (.v 7, true)) (.ex (some 10) (.call fn_spec_l2None [.v 9]))) K153_2) (.ret)
@[simp] def W153_3 := @C.wpe _ _ K153_3.eq_1
def K153_4 : C := .seq (.pl <| .st (.ext 4 0) <|
    .st (.act none (.px (some 3) (.mv (.c (.bool false))))) .done) (.ret)
@[simp] def W153_4 := @C.wpe _ _ K153_4.eq_1
def K153_5 : C := .cond 4 (.v 21) K153_4 (.skip)
@[simp] def W153_5 := @C.wpe _ _ K153_5.eq_1
def K153_6 : C := .seq (.seq (.pl <| .st (.ext 4 18) <|
    .st (.act none (.als 4 none 2)) <|
    .st (.act none (.pget (some 5) (some 4) 2 9 none)) <|
    .st (.act none (.px (some 6) (.bin .lss (.v 5) (.c (.int .i64 (-2)))))) <|
    .st (.act none (.px (some 7) (.mv (.v 6)))) <|
    .st (.act (some (.v 7, false)) (.als 8 none 2)) <|
    .st (.act (some (.v 7, false)) (.pget (some 9) (some 8) 2 9 none)) <|
    .st (.act (some (.v 7, false)) (.px (some 10) (.bin .gtr (.v 9) (.c (.int .i64 2))))) <|
    .st (.act none (.px (some 11) (.pick (.v 7) (.c (.bool true)) (.v 10)))) <|
    .st (.act none (.px (some 12) (.mv (.v 11)))) <|
    .st (.act (some (.v 12, false)) (.als 13 none 2)) <|
    .st (.act (some (.v 12, false)) (.pget (some 14) (some 13) 2 5 none)) <|
    .st (.act (some (.v 12, false)) (.px (some 15) (.bin .lss (.v 14) (.c (.int .i64 (-1)))))) <|
    .st (.act none (.px (some 16) (.pick (.v 12) (.c (.bool true)) (.v 15)))) <|
    .st (.act none (.px (some 17) (.mv (.v 16)))) <|
    .st (.act (some (.v 17, false)) (.als 18 none 2)) <|
    .st (.act (some (.v 17, false)) (.pget (some 19) (some 18) 2 5 none)) <|
    .st (.act (some (.v 17, false)) (.px (some 20) (.bin .geq (.v 19) (.c (.int .i64 3))))) <|
    .st (.act none (.px (some 21) (.pick (.v 17) (.c (.bool true)) (.v 20)))) .done) K153_5) K153_3
@[simp] def W153_6 := @C.wpe _ _ K153_6.eq_1
def K153_7 : C := .seq (.pl <| .st (.ext 4 0) <|
    .st (.act none (.px (some 3) (.mv (.c (.bool false))))) .done) (.ret)
@[simp] def W153_7 := @C.wpe _ _ K153_7.eq_1
def K153_8 : C := .cond 4 (.v 33) K153_7 (.skip)
@[simp] def W153_8 := @C.wpe _ _ K153_8.eq_1
def K153_9 : Pl := .st (.act (some (.v 28, false)) (.px (some 32) (.un .not (.v 31)))) <|
    .st (.act none (.px (some 33) (.pick (.v 28) (.c (.bool true)) (.v 32)))) .done
@[simp] def W153_9 := @Pl.wpe _ _ K153_9.eq_1
def K153_10 : C := .seq (.seq (.pl <| .st (.ext 4 30) <|
    .st (.act none (.als 4 none 2)) <|
    .st (.act none (.pget (some 5) (some 4) 2 0 none)) <|
    .st (.act none (.px (some 6) (.bin .lss (.v 5) (.c (.int .i64 0))))) <|
    .st (.act none (.px (some 7) (.mv (.v 6)))) <|
    .st (.act (some (.v 7, false)) (.als 8 none 2)) <|
    .st (.act (some (.v 7, false)) (.pget (some 9) (some 8) 2 0 none)) <|
    .st (.act (some (.v 7, false)) (.px (some 10) (.mv (.v 1)))) <|
    .st (.act (some (.v 7, false)) (.px (some 11) (.bin .geq (.v 9) (.v 10)))) <|
    .st (.act none (.px (some 12) (.pick (.v 7) (.c (.bool true)) (.v 11)))) <|
    .st (.act none (.px (some 13) (.mv (.v 12)))) <|
    .st (.act (some (.v 13, false)) (.als 14 none 2)) <|
    .st (.act (some (.v 13, false)) (.pget (some 15) (some 14) 2 1 none)) <|
    .st (.act (some (.v 13, false)) (.px (some 16) (.bin .lss (.v 15) (.c (.int .i64 0))))) <|
    .st (.act none (.px (some 17) (.pick (.v 13) (.c (.bool true)) (.v 16)))) <|
    .st (.act none (.px (some 18) (.mv (.v 17)))) <|
    .st (.act (some (.v 18, false)) (.als 19 none 2)) <|
    .st (.act (some (.v 18, false)) (.pget (some 20) (some 19) 2 1 none)) <|
    .st (.act (some (.v 18, false)) (.px (some 21) (.mv (.v 1)))) <|
    .st (.act (some (.v 18, false)) (.px (some 22) (.bin .geq (.v 20) (.v 21)))) <|
    .st (.act none (.px (some 23) (.pick (.v 18) (.c (.bool true)) (.v 22)))) <|
    .st (.act none (.px (some 24) (.mv (.v 23)))) <|
    .st (.act (some (.v 24, false)) (.px (some 25) (.mv (.v 1)))) <|
    .st (.act (some (.v 24, false)) (.px (some 26) (.bin .gtr (.v 25) (.c (.int .i64 4))))) <|
    .st (.act none (.px (some 27) (.pick (.v 24) (.c (.bool true)) (.v 26)))) <|
    .st (.act none (.px (some 28) (.mv (.v 27)))) <|
    .st (.act (some (.v 28, false)) (.als 29 none 2)) <|
    .st (.act (some (.v 28, false)) (.pget (some 30) (some 29) 2 2 (some 3))) <|
    .st (.act (some (.v 28, false)) (.ex (some 31) (.call fn_spec_ExprValid [.v 30]))) K153_9) K153_8) K153_6
@[simp] def W153_10 := @C.wpe _ _ K153_10.eq_1
def B_spec_EdgeValid : C := .seq (.pl <| .st (.ext 4 0) <|
    .st (.act none (.pnew 2 (.v 0) [])) <|
    .st (.act none (.px (some 3) (.mv (.c (.bool false))))) .done) K153_10
@[simp] def WB_spec_EdgeValid := @C.wpe _ _ B_spec_EdgeValid.eq_1
def R_spec_EdgeValid : FIR := ⟨B_spec_EdgeValid, 4, [(3, none)]⟩
theorem IR_spec_EdgeValid : cfun Try.prog H_spec_EdgeValid Try.f153 = some R_spec_EdgeValid := by kernel_rfl
theorem EN_spec_EdgeValid {args : List Value} {h : Heap} {k : Value → Heap → Prop} (hargs : args.length = 2) (hw : B_spec_EdgeValid.wp Try.prog (retQ [(3, none)] k) (env0 args 4) h) : CallE Try.prog fn_spec_EdgeValid args h k := enter Try.func153 rfl IR_spec_EdgeValid hargs hw

def H_spec_ExprValid : Hint := ⟨[(0, false), (1, true), (2, false)], []⟩
def K116_1 : Pl := .st (.act (some (.v 5, true)) (.px (some 8) (.bin .leq (.v 7) (.c (.int .i64 15))))) <|
    .st (.act none (.px (some 9) (.pick (.v 5) (.v 8) (.c (.bool false))))) <|
    .st (.act none (.px (some 2) (.mv (.v 9)))) .done
@[simp] def W116_1 := @Pl.wpe _ _ K116_1.eq_1
def K116_2 : Pl := .st (.act none (.px (some 5) (.mv (.v 4)))) <|
    .st (.act (some (.v 5, true)) (.pget (some 6) none 1 0 (some 3))) <|
    .st (.act (some (.v 5, true)) (.ex (some 7) (.call fn_spec_l1Count [.v 6, .c (.int .i64 6)]))) K116_1
@[simp] def W116_2 := @Pl.wpe _ _ K116_2.eq_1
def K116_3 : C := .seq (.pl <| .st (.ext 3 7) <|
    .st (.act none (.pget (some 3) none 1 0 (some 3))) <|
    .st (.act none (.ex (some 4) (.call fn_spec_l1Shape [.v 3, .c (.int .i64 6)]))) K116_2) (.ret)
@[simp] def W116_3 := @C.wpe _ _ K116_3.eq_1
def B_spec_ExprValid : C := .seq (.pl <| .st (.ext 3 0) <|
    .st (.act none (.pnew 1 (.v 0) [])) <|
    .st (.act none (.px (some 2) (.mv (.c (.bool false))))) .done) K116_3
@[simp] def WB_spec_ExprValid := @C.wpe _ _ B_spec_ExprValid.eq_1
def R_spec_ExprValid : FIR := ⟨B_spec_ExprValid, 3, [(2, none)]⟩
theorem IR_spec_ExprValid : cfun Try.prog H_spec_ExprValid Try.f116 = some R_spec_ExprValid := by kernel_rfl
theorem EN_spec_ExprValid {args : List Value} {h : Heap} {k : Value → Heap → Prop} (hargs : args.length = 1) (hw : B_spec_ExprValid.wp Try.prog (retQ [(2, none)] k) (env0 args 3) h) : CallE Try.prog fn_spec_ExprValid args h k := enter Try.func116 rfl IR_spec_ExprValid hargs hw

def H_spec_LabelsValid : Hint := ⟨[(0, false), (2, false), (3, false)], [[1]]⟩
def K61_1 : C := .seq (.pl <| .st (.ext 3 3) <|
    .st (.act none (.px (some 3) (.mv (.v 0)))) <|
    .st (.act none (.px (some 4) (.lenV (.v 3)))) <|
    .st (.act none (.px (some 5) (.bin .eql (.v 4) (.c (.int .i64 3))))) <|
    .st (.act none (.px (some 1) (.mv (.v 5)))) .done) (.ret)
@[simp] def W61_1 := @C.wpe _ _ K61_1.eq_1
def K61_2 : C := .pl <| .st (.ext 3 2) <|
    .st (.act none (.px (some 3) (.mv (.v 2)))) <|
    .st (.act none (.px (some 4) (.bin .add (.v 3) (.c (.int .i64 1))))) <|
    .st (.act none (.px (some 2) (.mv (.v 4)))) .done
@[simp] def W61_2 := @C.wpe _ _ K61_2.eq_1
def K61_3 : C := .seq (.pl <| .st (.ext 3 0) <|
    .st (.act none (.px (some 1) (.mv (.c (.bool false))))) .done) (.ret)
@[simp] def W61_3 := @C.wpe _ _ K61_3.eq_1
def K61_4 : C := .cond 3 (.v 8) K61_3 (.skip)
@[simp] def W61_4 := @C.wpe _ _ K61_4.eq_1
def K61_5 : Pl := .st (.act none (.px (some 8) (.un .not (.v 7)))) .done
@[simp] def W61_5 := @Pl.wpe _ _ K61_5.eq_1
def K61_6 : C := .seq (.block 1 (.seq (.pl <| .st (.ext 3 6) <|
    .st (.act none (.px (some 3) (.mv (.v 0)))) <|
    .st (.act none (.px (some 4) (.mv (.v 2)))) <|
    .st (.act none (.px (some 5) (.ia 3 (.v 3) (.v 4)))) <|
    .st (.act none (.ld (some 6) (.v 5) (some 3))) <|
    .st (.act none (.ex (some 7) (.call fn_spec_ExprValid [.v 6]))) K61_5) K61_4)) K61_2
@[simp] def W61_6 := @C.wpe _ _ K61_6.eq_1
def K61_7 : C := .cond 3 (.v 6) (.skip) (.exit 0)
@[simp] def W61_7 := @C.wpe _ _ K61_7.eq_1
def K61_8 : C := .seq (.seq (.pl <| .st (.ext 3 4) <|
    .st (.act none (.px (some 3) (.mv (.v 2)))) <|
    .st (.act none (.px (some 4) (.mv (.v 0)))) <|
    .st (.act none (.px (some 5) (.lenV (.v 4)))) <|
    .st (.act none (.px (some 6) (.bin .lss (.v 3) (.v 5)))) .done) K61_7) K61_6
@[simp] def W61_8 := @C.wpe _ _ K61_8.eq_1
def K61_9 : C := .block 0 (.loop 3 [1] K61_8)
@[simp] def W61_9 := @C.wpe _ _ K61_9.eq_1
def K61_10 : C := .seq (.seq (.pl <| .st (.ext 3 0) <|
    .st (.act none (.px (some 2) (.mv (.c (.int .i64 0))))) .done) K61_9) K61_1
@[simp] def W61_10 := @C.wpe _ _ K61_10.eq_1
def B_spec_LabelsValid : C := .seq (.pl <| .st (.ext 3 0) <|
    .st (.act none (.px (some 1) (.mv (.c (.bool false))))) .done) K61_10
@[simp] def WB_spec_LabelsValid := @C.wpe _ _ B_spec_LabelsValid.eq_1
def R_spec_LabelsValid : FIR := ⟨B_spec_LabelsValid, 3, [(1, none)]⟩
theorem IR_spec_LabelsValid : cfun Try.prog H_spec_LabelsValid Try.f61 = some R_spec_LabelsValid := by kernel_rfl
theorem EN_spec_LabelsValid {args : List Value} {h : Heap} {k : Value → Heap → Prop} (hargs : args.length = 1) (hw : B_spec_LabelsValid.wp Try.prog (retQ [(1, none)] k) (env0 args 3) h) : CallE Try.prog fn_spec_LabelsValid args h k := enter Try.func61 rfl IR_spec_LabelsValid hargs hw

def H_spec_RelevantVars : Hint := ⟨[(0, false), (1, false), (2, true), (4, false), (5, false), (6, false), (7, false), (8, false), (9, false), (10, false), (11, false), (12, false), (13, true)], [[0, 3, 4, 7, 8, 9, 10, 11, 12], [0, 1, 3, 4, 6, 8, 9, 10, 11, 12], [0, 1, 3, 4, 6, 9, 10, 11, 12], [0, 1, 3, 4, 6, 7, 8, 10, 11, 12], [0, 1, 3, 4, 6, 7, 8, 11, 12], [0, 1, 3, 4, 6, 7, 8, 12]]⟩
def K13_1 : C := .seq (.pl <| .st (.ext 13 1) <|
    .st (.act none (.px (some 13) (.mv (.v 5)))) <|
    .st (.act none (.px (some 3) (.mv (.v 13)))) <|
    .st (.act none (.px (some 4) (.mv (.c (.bool true))))) .done) (.ret)
@[simp] def W13_1 := @C.wpe _ _ K13_1.eq_1
def K13_2 : C := .pl <| .st (.ext 13 2) <|
    .st (.act none (.px (some 13) (.mv (.v 9)))) <|
    .st (.act none (.px (some 14) (.bin .add (.v 13) (.c (.int .i64 1))))) <|
    .st (.act none (.px (some 9) (.mv (.v 14)))) .done
@[simp] def W13_2 := @C.wpe _ _ K13_2.eq_1
def K13_3 : C := .pl <| .st (.ext 13 2) <|
    .st (.act none (.px (some 13) (.mv (.v 10)))) <|
    .st (.act none (.px (some 14) (.bin .add (.v 13) (.c (.int .i64 1))))) <|
    .st (.act none (.px (some 10) (.mv (.v 14)))) .done
@[simp] def W13_3 := @C.wpe _ _ K13_3.eq_1
def K13_4 : C := .pl <| .st (.ext 13 2) <|
    .st (.act none (.px (some 13) (.mv (.v 11)))) <|
    .st (.act none (.px (some 14) (.bin .add (.v 13) (.c (.int .i64 1))))) <|
    .st (.act none (.px (some 11) (.mv (.v 14)))) .done
@[simp] def W13_4 := @C.wpe _ _ K13_4.eq_1
def K13_5 : Pl := .st (.act none (.px (some 5) (.mv (.v 16)))) .done
@[simp] def W13_5 := @Pl.wpe _ _ K13_5.eq_1
def K13_6 : C := .pl <| .st (.ext 13 4) <|
    .st (.act none (.px (some 13) (.mv (.v 5)))) <|
    .st (.act none (.als 14 none 12)) <|
    .st (.act none (.pget (some 15) (some 14) 12 6 (some 3))) <|
    .st (.act none (.ex (some 16) (.call fn_spec_l1Mark [.v 13, .v 15]))) K13_5
@[simp] def W13_6 := @C.wpe _ _ K13_6.eq_1
def K13_7 : C := .cond 13 (.v 22) K13_6 (.skip)
@[simp] def W13_7 := @C.wpe _ _ K13_7.eq_1
def K13_8 : C := .seq (.pl <| .st (.ext 13 10) <|
    .st (.act none (.als 13 none 12)) <|
    .st (.act none (.pget (some 14) (some 13) 12 5 none)) <|
    .st (.act none (.px (some 15) (.bin .geq (.v 14) (.c (.int .i64 0))))) <|
    .st (.act none (.px (some 16) (.mv (.v 15)))) <|
    .st (.act (some (.v 16, true)) (.px (some 17) (.mv (.v 5)))) <|
    .st (.act (some (.v 16, true)) (.als 18 none 12)) <|
    .st (.act (some (.v 16, true)) (.pget (some 19) (some 18) 12 5 none)) <|
    .st (.act (some (.v 16, true)) (.px (some 20) (.ia 1 (.v 17) (.v 19)))) <|
    .st (.act (some (.v 16, true)) (.ld (some 21) (.v 20) none)) <|
    .st (.act none (.px (some 22) (.pick (.v 16) (.v 21) (.c (.bool false))))) .done) K13_7
@[simp] def W13_8 := @C.wpe _ _ K13_8.eq_1
def K13_9 : C := .seq (.block 11 (.seq (.pl <| .st (.ext 13 9) <|
    .st (.act none (.als 13 none 2)) <|
    .st (.act none (.pget (some 14) (some 13) 2 1 none)) <|
    .st (.act none (.px (some 15) (.mv (.v 10)))) <|
    .st (.act none (.px (some 16) (.ia 2 (.v 14) (.v 15)))) <|
    .st (.act none (.px (some 17) (.fa 1 (.v 16)))) <|
    .st (.act none (.ld (some 18) (.v 17) none)) <|
    .st (.act none (.px (some 19) (.mv (.v 11)))) <|
    .st (.act none (.px (some 20) (.ia 10 (.v 18) (.v 19)))) <|
    .st (.act none (.ld (some 21) (.v 20) (some 10))) <|
    .st (.act none (.pnew 12 (.c (.agg #[.int .i64 0, .int .i64 0, .int .i64 0, .int .i64 0, .slice none 0 0, .int .i64 0, .int .i64 0, .int .i64 0, .slice none 0 0, .int .i64 0])) [])) <|
    .st (.act none (.pset none 12 0 10 (.v 21))) .done) K13_8)) K13_4
@[simp] def W13_9 := @C.wpe _ _ K13_9.eq_1
def K13_10 : C := .cond 13 (.v 21) (.skip) (.exit 10)
@[simp] def W13_10 := @C.wpe _ _ K13_10.eq_1
def K13_11 : C := .seq (.seq (.pl <| .st (.ext 13 9) <|
    .st (.act none (.px (some 13) (.mv (.v 11)))) <|
    .st (.act none (.als 14 none 2)) <|
    .st (.act none (.pget (some 15) (some 14) 2 1 none)) <|
    .st (.act none (.px (some 16) (.mv (.v 10)))) <|
    .st (.act none (.px (some 17) (.ia 2 (.v 15) (.v 16)))) <|
    .st (.act none (.px (some 18) (.fa 1 (.v 17)))) <|
    .st (.act none (.ld (some 19) (.v 18) none)) <|
    .st (.act none (.px (some 20) (.lenV (.v 19)))) <|
    .st (.act none (.px (some 21) (.bin .lss (.v 13) (.v 20)))) .done) K13_10) K13_9
@[simp] def W13_11 := @C.wpe _ _ K13_11.eq_1
def K13_12 : C := .block 10 (.loop 13 [0, 1, 3, 4, 6, 7, 8, 12] K13_11)
@[simp] def W13_12 := @C.wpe _ _ K13_12.eq_1
def K13_13 : C := .seq (.block 9 (.seq (.pl <| .st (.ext 13 0) <|
    .st (.act none (.px (some 11) (.mv (.c (.int .i64 0))))) .done) K13_12)) K13_3
@[simp] def W13_13 := @C.wpe _ _ K13_13.eq_1
def K13_14 : C := .cond 13 (.v 17) (.skip) (.exit 8)
@[simp] def W13_14 := @C.wpe _ _ K13_14.eq_1
def K13_15 : C := .seq (.seq (.pl <| .st (.ext 13 5) <|
    .st (.act none (.px (some 13) (.mv (.v 10)))) <|
    .st (.act none (.als 14 none 2)) <|
    .st (.act none (.pget (some 15) (some 14) 2 1 none)) <|
    .st (.act none (.px (some 16) (.lenV (.v 15)))) <|
    .st (.act none (.px (some 17) (.bin .lss (.v 13) (.v 16)))) .done) K13_14) K13_13
@[simp] def W13_15 := @C.wpe _ _ K13_15.eq_1
def K13_16 : C := .block 8 (.loop 13 [0, 1, 3, 4, 6, 7, 8, 11, 12] K13_15)
@[simp] def W13_16 := @C.wpe _ _ K13_16.eq_1
def K13_17 : C := .seq (.block 7 (.seq (.pl <| .st (.ext 13 0) <|
    .st (.act none (.px (some 10) (.mv (.c (.int .i64 0))))) .done) K13_16)) K13_2
@[simp] def W13_17 := @C.wpe _ _ K13_17.eq_1
def K13_18 : C := .cond 13 (.v 14) (.skip) (.exit 6)
@[simp] def W13_18 := @C.wpe _ _ K13_18.eq_1
def K13_19 : C := .seq (.seq (.pl <| .st (.ext 13 2) <|
    .st (.act none (.px (some 13) (.mv (.v 9)))) <|
    .st (.act none (.px (some 14) (.bin .lss (.v 13) (.c (.int .i64 3))))) .done) K13_18) K13_17
@[simp] def W13_19 := @C.wpe _ _ K13_19.eq_1
def K13_20 : C := .block 6 (.loop 13 [0, 1, 3, 4, 6, 7, 8, 10, 11, 12] K13_19)
@[simp] def W13_20 := @C.wpe _ _ K13_20.eq_1
def K13_21 : C := .seq (.seq (.pl <| .st (.ext 13 0) <|
    .st (.act none (.px (some 9) (.mv (.c (.int .i64 0))))) .done) K13_20) K13_1
@[simp] def W13_21 := @C.wpe _ _ K13_21.eq_1
def K13_22 : C := .pl <| .st (.ext 13 2) <|
    .st (.act none (.px (some 13) (.mv (.v 7)))) <|
    .st (.act none (.px (some 14) (.bin .add (.v 13) (.c (.int .i64 1))))) <|
    .st (.act none (.px (some 7) (.mv (.v 14)))) .done
@[simp] def W13_22 := @C.wpe _ _ K13_22.eq_1
def K13_23 : C := .pl <| .st (.ext 13 2) <|
    .st (.act none (.px (some 13) (.mv (.v 8)))) <|
    .st (.act none (.px (some 14) (.bin .add (.v 13) (.c (.int .i64 1))))) <|
    .st (.act none (.px (some 8) (.mv (.v 14)))) .done
@[simp] def W13_23 := @C.wpe _ _ K13_23.eq_1
def K13_24 : Pl := .st (.act none (.px (some 5) (.mv (.v 24)))) .done
@[simp] def W13_24 := @Pl.wpe _ _ K13_24.eq_1
def K13_25 : C := .seq (.block 5 (.pl <| .st (.ext 13 12) <|
    .st (.act none (.px (some 13) (.mv (.v 5)))) <|
    .st (.act none (.als 14 none 2)) <|
    .st (.act none (.pget (some 15) (some 14) 2 1 none)) <|
    .st (.act none (.px (some 16) (.mv (.v 7)))) <|
    .st (.act none (.px (some 17) (.ia 2 (.v 15) (.v 16)))) <|
    .st (.act none (.px (some 18) (.fa 1 (.v 17)))) <|
    .st (.act none (.ld (some 19) (.v 18) none)) <|
    .st (.act none (.px (some 20) (.mv (.v 8)))) <|
    .st (.act none (.px (some 21) (.ia 10 (.v 19) (.v 20)))) <|
    .st (.act none (.px (some 22) (.fa 2 (.v 21)))) <|
    .st (.act none (.ld (some 23) (.v 22) (some 3))) <|
    .st (.act none (.ex (some 24) (.call fn_spec_l1Mark [.v 13, .v 23]))) K13_24)) K13_23
@[simp] def W13_25 := @C.wpe _ _ K13_25.eq_1
def K13_26 : C := .cond 13 (.v 21) (.skip) (.exit 4)
@[simp] def W13_26 := @C.wpe _ _ K13_26.eq_1
def K13_27 : C := .seq (.seq (.pl <| .st (.ext 13 9) <|
    .st (.act none (.px (some 13) (.mv (.v 8)))) <|
    .st (.act none (.als 14 none 2)) <|
    .st (.act none (.pget (some 15) (some 14) 2 1 none)) <|
    .st (.act none (.px (some 16) (.mv (.v 7)))) <|
    .st (.act none (.px (some 17) (.ia 2 (.v 15) (.v 16)))) <|
    .st (.act none (.px (some 18) (.fa 1 (.v 17)))) <|
    .st (.act none (.ld (some 19) (.v 18) none)) <|
    .st (.act none (.px (some 20) (.lenV (.v 19)))) <|
    .st (.act none (.px (some 21) (.bin .lss (.v 13) (.v 20)))) .done) K13_26) K13_25
@[simp] def W13_27 := @C.wpe _ _ K13_27.eq_1
def K13_28 : C := .block 4 (.loop 13 [0, 1, 3, 4, 6, 9, 10, 11, 12] K13_27)
@[simp] def W13_28 := @C.wpe _ _ K13_28.eq_1
def K13_29 : C := .seq (.block 3 (.seq (.pl <| .st (.ext 13 0) <|
    .st (.act none (.px (some 8) (.mv (.c (.int .i64 0))))) .done) K13_28)) K13_22
@[simp] def W13_29 := @C.wpe _ _ K13_29.eq_1
def K13_30 : C := .cond 13 (.v 17) (.skip) (.exit 2)
@[simp] def W13_30 := @C.wpe _ _ K13_30.eq_1
def K13_31 : C := .seq (.seq (.pl <| .st (.ext 13 5) <|
    .st (.act none (.px (some 13) (.mv (.v 7)))) <|
    .st (.act none (.als 14 none 2)) <|
    .st (.act none (.pget (some 15) (some 14) 2 1 none)) <|
    .st (.act none (.px (some 16) (.lenV (.v 15)))) <|
    .st (.act none (.px (some 17) (.bin .lss (.v 13) (.v 16)))) .done) K13_30) K13_29
@[simp] def W13_31 := @C.wpe _ _ K13_31.eq_1
def K13_32 : C := .block 2 (.loop 13 [0, 1, 3, 4, 6, 8, 9, 10, 11, 12] K13_31)
@[simp] def W13_32 := @C.wpe _ _ K13_32.eq_1
def K13_33 : C := .seq (.seq (.pl <| .st (.ext 13 0) <|
    .st (.act none (.px (some 7) (.mv (.c (.int .i64 0))))) .done) K13_32) K13_21
@[simp] def W13_33 := @C.wpe _ _ K13_33.eq_1
def K13_34 : C := .pl <| .st (.ext 13 2) <|
    .st (.act none (.px (some 13) (.mv (.v 6)))) <|
    .st (.act none (.px (some 14) (.bin .add (.v 13) (.c (.int .i64 1))))) <|
    .st (.act none (.px (some 6) (.mv (.v 14)))) .done
@[simp] def W13_34 := @C.wpe _ _ K13_34.eq_1
def K13_35 : Pl := .st (.act none (.px (some 5) (.mv (.v 18)))) .done
@[simp] def W13_35 := @Pl.wpe _ _ K13_35.eq_1
def K13_36 : C := .seq (.block 1 (.pl <| .st (.ext 13 6) <|
    .st (.act none (.px (some 13) (.mv (.v 5)))) <|
    .st (.act none (.px (some 14) (.mv (.v 1)))) <|
    .st (.act none (.px (some 15) (.mv (.v 6)))) <|
    .st (.act none (.px (some 16) (.ia 3 (.v 14) (.v 15)))) <|
    .st (.act none (.ld (some 17) (.v 16) (some 3))) <|
    .st (.act none (.ex (some 18) (.call fn_spec_l1Mark [.v 13, .v 17]))) K13_35)) K13_34
@[simp] def W13_36 := @C.wpe _ _ K13_36.eq_1
def K13_37 : C := .cond 13 (.v 16) (.skip) (.exit 0)
@[simp] def W13_37 := @C.wpe _ _ K13_37.eq_1
def K13_38 : C := .seq (.seq (.pl <| .st (.ext 13 4) <|
    .st (.act none (.px (some 13) (.mv (.v 6)))) <|
    .st (.act none (.px (some 14) (.mv (.v 1)))) <|
    .st (.act none (.px (some 15) (.lenV (.v 14)))) <|
    .st (.act none (.px (some 16) (.bin .lss (.v 13) (.v 15)))) .done) K13_37) K13_36
@[simp] def W13_38 := @C.wpe _ _ K13_38.eq_1
def K13_39 : C := .block 0 (.loop 13 [0, 3, 4, 7, 8, 9, 10, 11, 12] K13_38)
@[simp] def W13_39 := @C.wpe _ _ K13_39.eq_1
def K13_40 : C := .seq (.seq (.pl <| .st (.ext 13 0) <|
    .st (.act none (.px (some 6) (.mv (.c (.int .i64 0))))) .done) K13_39) K13_33
@[simp] def W13_40 := @C.wpe _ _ K13_40.eq_1
def K13_41 : Pl := .st (.act none (.px (some 5) (.mv (.v 13)))) .done
@[simp] def W13_41 := @Pl.wpe _ _ K13_41.eq_1
def K13_42 : C := .seq (.pl <| .st (.ext 13 1) <|
    .st (.act none (.ex (some 13) (.mks 1 1 [.bool false] (.c (.int .i64 3)) (.c (.int .i64 3))))) K13_41) K13_40
@[simp] def W13_42 := @C.wpe _ _ K13_42.eq_1
def K13_43 : Pl := .st (.act none (.px (some 3) (.mv (.v 13)))) <|
    .st (.act none (.px (some 4) (.mv (.c (.bool false))))) .done
@[simp] def W13_43 := @Pl.wpe _ _ K13_43.eq_1
def K13_44 : C := .seq (.pl <| .st (.ext 13 1) <|
    .st (.act none (.ex (some 13) (.bls 1 0 [.bool false] []))) K13_43) (.ret)
@[simp] def W13_44 := @C.wpe _ _ K13_44.eq_1
def K13_45 : C := .cond 13 (.v 20) K13_44 (.skip)
@[simp] def W13_45 := @C.wpe _ _ K13_45.eq_1
def K13_46 : Pl := .st (.act (some (.v 16, false)) (.px (some 19) (.un .not (.v 18)))) <|
    .st (.act none (.px (some 20) (.pick (.v 16) (.c (.bool true)) (.v 19)))) .done
@[simp] def W13_46 := @Pl.wpe _ _ K13_46.eq_1
def K13_47 : Pl := .st (.act none (.px (some 15) (.un .not (.v 14)))) <|
    .st (.act none (.px (some 16) (.mv (.v 15)))) <|
    .st (.act (some (.v 16, false)) (.px (some 17) (.mv (.v 1)))) <|
    .st (.act (some (.v 16, false)) (.ex (some 18) (.call fn_spec_LabelsValid [.v 17]))) K13_46
@[simp] def W13_47 := @Pl.wpe _ _ K13_47.eq_1
def K13_48 : C := .seq (.seq (.pl <| .st (.ext 13 8) <|
    .st (.act none (.pget (some 13) none 2 0 (some 2))) <|
    .st (.act none (.ex (some 14) (.call fn_spec_SystemValid [.v 13]))) K13_47) K13_45) K13_42
@[simp] def W13_48 := @C.wpe _ _ K13_48.eq_1
def B_spec_RelevantVars : C := .seq (.pl <| .st (.ext 13 0) <|
    .st (.act none (.pnew 2 (.v 0) [])) <|
    .st (.act none (.px (some 3) (.mv (.c (.slice none 0 0))))) <|
    .st (.act none (.px (some 4) (.mv (.c (.bool false))))) .done) K13_48
@[simp] def WB_spec_RelevantVars := @C.wpe _ _ B_spec_RelevantVars.eq_1
def R_spec_RelevantVars : FIR := ⟨B_spec_RelevantVars, 13, [(3, none), (4, none)]⟩
theorem IR_spec_RelevantVars : cfun Try.prog H_spec_RelevantVars Try.f13 = some R_spec_RelevantVars := by kernel_rfl
theorem EN_spec_RelevantVars {args : List Value} {h : Heap} {k : Value → Heap → Prop} (hargs : args.length = 2) (hw : B_spec_RelevantVars.wp Try.prog (retQ [(3, none), (4, none)] k) (env0 args 13) h) : CallE Try.prog fn_spec_RelevantVars args h k := enter Try.func13 rfl IR_spec_RelevantVars hargs hw

def H_spec_SystemValid : Hint := ⟨[(0, false), (1, true), (2, false), (3, false)], [[0, 2]]⟩
def K60_1 : Pl := .st (.act none (.px (some 7) (.mv (.v 6)))) <|
    .st (.act (some (.v 7, true)) (.als 8 none 1)) <|
    .st (.act (some (.v 7, true)) (.pget (some 9) (some 8) 1 1 none)) <|
    .st (.act (some (.v 7, true)) (.px (some 10) (.lenV (.v 9)))) <|
    .st (.act (some (.v 7, true)) (.px (some 11) (.bin .geq (.v 10) (.c (.int .i64 1))))) <|
    .st (.act none (.px (some 12) (.pick (.v 7) (.v 11) (.c (.bool false))))) <|
    .st (.act none (.px (some 13) (.mv (.v 12)))) <|
    .st (.act (some (.v 13, true)) (.als 14 none 1)) <|
    .st (.act (some (.v 13, true)) (.pget (some 15) (some 14) 1 1 none)) <|
    .st (.act (some (.v 13, true)) (.px (some 16) (.lenV (.v 15)))) <|
    .st (.act (some (.v 13, true)) (.px (some 17) (.bin .leq (.v 16) (.c (.int .i64 3))))) <|
    .st (.act none (.px (some 18) (.pick (.v 13) (.v 17) (.c (.bool false))))) <|
    .st (.act none (.px (some 2) (.mv (.v 18)))) .done
@[simp] def W60_1 := @Pl.wpe _ _ K60_1.eq_1
def K60_2 : C := .seq (.pl <| .st (.ext 4 15) <|
    .st (.act none (.als 4 none 1)) <|
    .st (.act none (.pget (some 5) (some 4) 1 0 none)) <|
    .st (.act none (.ex (some 6) (.call fn_spec_l1Vals [.v 5]))) K60_1) (.ret)
@[simp] def W60_2 := @C.wpe _ _ K60_2.eq_1
def K60_3 : C := .pl <| .st (.ext 4 2) <|
    .st (.act none (.px (some 4) (.mv (.v 3)))) <|
    .st (.act none (.px (some 5) (.bin .add (.v 4) (.c (.int .i64 1))))) <|
    .st (.act none (.px (some 3) (.mv (.v 5)))) .done
@[simp] def W60_3 := @C.wpe _ _ K60_3.eq_1
def K60_4 : C := .seq (.pl <| .st (.ext 4 0) <|
    .st (.act none (.px (some 2) (.mv (.c (.bool false))))) .done) (.ret)
@[simp] def W60_4 := @C.wpe _ _ K60_4.eq_1
def K60_5 : C := .cond 4 (.v 10) K60_4 (.skip)
@[simp] def W60_5 := @C.wpe _ _ K60_5.eq_1
def K60_6 : Pl := .st (.act none (.px (some 10) (.un .not (.v 9)))) .done
@[simp] def W60_6 := @Pl.wpe _ _ K60_6.eq_1
def K60_7 : C := .seq (.block 1 (.seq (.pl <| .st (.ext 4 7) <|
    .st (.act none (.als 4 none 1)) <|
    .st (.act none (.pget (some 5) (some 4) 1 1 none)) <|
    .st (.act none (.px (some 6) (.mv (.v 3)))) <|
    .st (.act none (.px (some 7) (.ia 2 (.v 5) (.v 6)))) <|
    .st (.act none (.ld (some 8) (.v 7) (some 2))) <|
    .st (.act none (.ex (some 9) (.call fn_spec_l2Process [.v 8]))) K60_6) K60_5)) K60_3
@[simp] def W60_7 := @C.wpe _ _ K60_7.eq_1
def K60_8 : C := .cond 4 (.v 8) (.skip) (.exit 0)
@[simp] def W60_8 := @C.wpe _ _ K60_8.eq_1
def K60_9 : C := .seq (.seq (.pl <| .st (.ext 4 5) <|
    .st (.act none (.px (some 4) (.mv (.v 3)))) <|
    .st (.act none (.als 5 none 1)) <|
    .st (.act none (.pget (some 6) (some 5) 1 1 none)) <|
    .st (.act none (.px (some 7) (.lenV (.v 6)))) <|
    .st (.act none (.px (some 8) (.bin .lss (.v 4) (.v 7)))) .done) K60_8) K60_7
@[simp] def W60_9 := @C.wpe _ _ K60_9.eq_1
def K60_10 : C := .block 0 (.loop 4 [0, 2] K60_9)
@[simp] def W60_10 := @C.wpe _ _ K60_10.eq_1
def K60_11 : C := .seq (.seq (.pl <| .st (.ext 4 0) <|
    .st (.act none (.px (some 3) (.mv (.c (.int .i64 0))))) .done) K60_10) K60_2
@[simp] def W60_11 := @C.wpe _ _ K60_11.eq_1
def B_spec_SystemValid : C := .seq (.pl <| .st (.ext 4 0) <|
    .st (.act none (.pnew 1 (.v 0) [])) <|
    .st (.act none (.px (some 2) (.mv (.c (.bool false))))) .done) K60_11
@[simp] def WB_spec_SystemValid := @C.wpe _ _ B_spec_SystemValid.eq_1
def R_spec_SystemValid : FIR := ⟨B_spec_SystemValid, 4, [(2, none)]⟩
theorem IR_spec_SystemValid : cfun Try.prog H_spec_SystemValid Try.f60 = some R_spec_SystemValid := by kernel_rfl
theorem EN_spec_SystemValid {args : List Value} {h : Heap} {k : Value → Heap → Prop} (hargs : args.length = 1) (hw : B_spec_SystemValid.wp Try.prog (retQ [(2, none)] k) (env0 args 4) h) : CallE Try.prog fn_spec_SystemValid args h k := enter Try.func60 rfl IR_spec_SystemValid hargs hw

def H_spec_l1Arity : Hint := ⟨[(0, false), (2, false), (3, false), (4, false)], []⟩
def K185_1 : C := .seq (.pl <| .st (.ext 4 0) <|
    .st (.act none (.px (some 1) (.mv (.c (.int .i64 (-1)))))) .done) (.ret)
@[simp] def W185_1 := @C.wpe _ _ K185_1.eq_1
def K185_2 : C := .seq (.pl <| .st (.ext 4 0) <|
    .st (.act none (.px (some 1) (.mv (.c (.int .i64 2))))) .done) (.ret)
@[simp] def W185_2 := @C.wpe _ _ K185_2.eq_1
def K185_3 : C := .cond 4 (.v 9) K185_2 (.skip)
@[simp] def W185_3 := @C.wpe _ _ K185_3.eq_1
def K185_4 : C := .seq (.seq (.pl <| .st (.ext 4 6) <|
    .st (.act none (.px (some 4) (.mv (.v 0)))) <|
    .st (.act none (.px (some 5) (.bin .geq (.v 4) (.c (.int .i64 4))))) <|
    .st (.act none (.px (some 6) (.mv (.v 5)))) <|
    .st (.act (some (.v 6, true)) (.px (some 7) (.mv (.v 0)))) <|
    .st (.act (some (.v 6, true)) (.px (some 8) (.bin .leq (.v 7) (.c (.int .i64 9))))) <|
    .st (.act none (.px (some 9) (.pick (.v 6) (.v 8) (.c (.bool false))))) .done) K185_3) K185_1
@[simp] def W185_4 := @C.wpe _ _ K185_4.eq_1
def K185_5 : C := .seq (.pl <| .st (.ext 4 0) <|
    .st (.act none (.px (some 1) (.mv (.c (.int .i64 0))))) .done) (.ret)
@[simp] def W185_5 := @C.wpe _ _ K185_5.eq_1
def K185_6 : C := .seq (.pl <| .st (.ext 4 0) <|
    .st (.act none (.px (some 1) (.mv (.c (.int .i64 1))))) .done) (.ret)
@[simp] def W185_6 := @C.wpe _ _ K185_6.eq_1
def K185_7 : C := .cond 4 (.v 5) K185_6 (.skip)
@[simp] def W185_7 := @C.wpe _ _ K185_7.eq_1
def K185_8 : C := .seq (.pl <| .st (.ext 4 2) <|
    .st (.act none (.px (some 4) (.bin .eql (.v 2) (.c (.int .i64 3))))) <|
    .st (.act none (.px (some 5) (.mv (.v 4)))) .done) K185_7
@[simp] def W185_8 := @C.wpe _ _ K185_8.eq_1
def K185_9 : C := .cond 4 (.v 3) K185_5 K185_8
@[simp] def W185_9 := @C.wpe _ _ K185_9.eq_1
def K185_10 : C := .pl <| .st (.ext 4 1) <|
    .st (.act none (.px (some 4) (.bin .eql (.v 2) (.c (.int .i64 2))))) <|
    .st (.act none (.px (some 3) (.mv (.v 4)))) .done
@[simp] def W185_10 := @C.wpe _ _ K185_10.eq_1
def K185_11 : C := .cond 4 (.v 3) (.skip) K185_10
@[simp] def W185_11 := @C.wpe _ _ K185_11.eq_1
def K185_12 : C := .block 0 (.seq (.seq (.pl <| .st (.ext 4 1) <|
    .st (.act none (.px (some 4) (.bin .eql (.v 2) (.c (.int .i64 1))))) <|
    .st (.act none (.px (some 3) (.mv (.v 4)))) .done) K185_11) K185_9)
@[simp] def W185_12 := @C.wpe _ _ K185_12.eq_1
def K185_13 : C := .seq (.seq (.pl <| .st (.ext 4 0) <|
    .st (.act none (.px (some 2) (.mv (.v 0)))) .done) K185_12) K185_4
@[simp] def W185_13 := @C.wpe _ _ K185_13.eq_1
def B_spec_l1Arity : C := .seq (.pl <| .st (.ext 4 0) <|
    .st (.act none (.px (some 1) (.mv (.c (.int .i64 0))))) .done) K185_13
@[simp] def WB_spec_l1Arity := @C.wpe _ _ B_spec_l1Arity.eq_1
def R_spec_l1Arity : FIR := ⟨B_spec_l1Arity, 4, [(1, none)]⟩
theorem IR_spec_l1Arity : cfun Try.prog H_spec_l1Arity Try.f185 = some R_spec_l1Arity := by kernel_rfl
theorem EN_spec_l1Arity {args : List Value} {h : Heap} {k : Value → Heap → Prop} (hargs : args.length = 1) (hw : B_spec_l1Arity.wp Try.prog (retQ [(1, none)] k) (env0 args 4) h) : CallE Try.prog fn_spec_l1Arity args h k := enter Try.func185 rfl IR_spec_l1Arity hargs hw

def H_spec_l1Count : Hint := ⟨[(0, false), (1, false), (2, true), (4, false), (5, false), (6, false)], [[0, 3]]⟩
def K155_1 : C := .seq (.pl <| .st (.ext 6 1) <|
    .st (.act none (.px (some 6) (.mv (.v 4)))) <|
    .st (.act none (.px (some 3) (.mv (.v 6)))) .done) (.ret)
@[simp] def W155_1 := @C.wpe _ _ K155_1.eq_1
def K155_2 : C := .pl <| .st (.ext 6 2) <|
    .st (.act none (.px (some 6) (.mv (.v 5)))) <|
    .st (.act none (.px (some 7) (.bin .add (.v 6) (.c (.int .i64 1))))) <|
    .st (.act none (.px (some 5) (.mv (.v 7)))) .done
@[simp] def W155_2 := @C.wpe _ _ K155_2.eq_1
def K155_3 : Pl := .st (.act none (.px (some 15) (.bin .add (.v 6) (.v 14)))) <|
    .st (.act none (.px (some 4) (.mv (.v 15)))) .done
@[simp] def W155_3 := @Pl.wpe _ _ K155_3.eq_1
def K155_4 : C := .seq (.block 1 (.pl <| .st (.ext 6 10) <|
    .st (.act none (.px (some 6) (.mv (.v 4)))) <|
    .st (.act none (.als 7 none 2)) <|
    .st (.act none (.pget (some 8) (some 7) 2 2 none)) <|
    .st (.act none (.px (some 9) (.mv (.v 5)))) <|
    .st (.act none (.px (some 10) (.ia 3 (.v 8) (.v 9)))) <|
    .st (.act none (.ld (some 11) (.v 10) (some 3))) <|
    .st (.act none (.px (some 12) (.mv (.v 1)))) <|
    .st (.act none (.px (some 13) (.bin .sub (.v 12) (.c (.int .i64 1))))) <|
    .st (.act none (.ex (some 14) (.call fn_spec_l1Count [.v 11, .v 13]))) K155_3)) K155_2
@[simp] def W155_4 := @C.wpe _ _ K155_4.eq_1
def K155_5 : C := .cond 6 (.v 14) (.skip) (.exit 0)
@[simp] def W155_5 := @C.wpe _ _ K155_5.eq_1
def K155_6 : C := .seq (.seq (.pl <| .st (.ext 6 9) <|
    .st (.act none (.px (some 6) (.mv (.v 5)))) <|
    .st (.act none (.als 7 none 2)) <|
    .st (.act none (.pget (some 8) (some 7) 2 2 none)) <|
    .st (.act none (.px (some 9) (.lenV (.v 8)))) <|
    .st (.act none (.px (some 10) (.bin .lss (.v 6) (.v 9)))) <|
    .st (.act none (.px (some 11) (.mv (.v 10)))) <|
    .st (.act (some (.v 11, true)) (.px (some 12) (.mv (.v 1)))) <|
    .st (.act (some (.v 11, true)) (.px (some 13) (.bin .gtr (.v 12) (.c (.int .i64 0))))) <|
    .st (.act none (.px (some 14) (.pick (.v 11) (.v 13) (.c (.bool false))))) .done) K155_5) K155_4
@[simp] def W155_6 := @C.wpe _ _ K155_6.eq_1
def K155_7 : C := .block 0 (.loop 6 [0, 3] K155_6)
@[simp] def W155_7 := @C.wpe _ _ K155_7.eq_1
def K155_8 : C := .seq (.seq (.pl <| .st (.ext 6 0) <|
    .st (.act none (.px (some 5) (.mv (.c (.int .i64 0))))) .done) K155_7) K155_1
@[simp] def W155_8 := @C.wpe _ _ K155_8.eq_1
def K155_9 : C := .seq (.pl <| .st (.ext 6 0) <|
    .st (.act none (.px (some 4) (.mv (.c (.int .i64 1))))) .done) K155_8
@[simp] def W155_9 := @C.wpe _ _ K155_9.eq_1
def B_spec_l1Count : C := .seq (.pl <| .st (.ext 6 0) <|
    .st (.act none (.pnew 2 (.v 0) [])) <|
    .st (.act none (.px (some 3) (.mv (.c (.int .i64 0))))) .done) K155_9
@[simp] def WB_spec_l1Count := @C.wpe _ _ B_spec_l1Count.eq_1
def R_spec_l1Count : FIR := ⟨B_spec_l1Count, 6, [(3, none)]⟩
theorem IR_spec_l1Count : cfun Try.prog H_spec_l1Count Try.f155 = some R_spec_l1Count := by kernel_rfl
theorem EN_spec_l1Count {args : List Value} {h : Heap} {k : Value → Heap → Prop} (hargs : args.length = 2) (hw : B_spec_l1Count.wp Try.prog (retQ [(3, none)] k) (env0 args 6) h) : CallE Try.prog fn_spec_l1Count args h k := enter Try.func155 rfl IR_spec_l1Count hargs hw

def H_spec_l1Mark : Hint := ⟨[(0, false), (1, false), (3, true), (4, false), (5, false)], [[1, 3]]⟩
def K62_1 : C := .seq (.pl <| .st (.ext 5 1) <|
    .st (.act none (.px (some 5) (.mv (.v 0)))) <|
    .st (.act none (.px (some 3) (.mv (.v 5)))) .done) (.ret)
@[simp] def W62_1 := @C.wpe _ _ K62_1.eq_1
def K62_2 : C := .pl <| .st (.ext 5 2) <|
    .st (.act none (.px (some 5) (.mv (.v 4)))) <|
    .st (.act none (.px (some 6) (.bin .add (.v 5) (.c (.int .i64 1))))) <|
    .st (.act none (.px (some 4) (.mv (.v 6)))) .done
@[simp] def W62_2 := @C.wpe _ _ K62_2.eq_1
def K62_3 : Pl := .st (.act none (.px (some 0) (.mv (.v 11)))) .done
@[simp] def W62_3 := @Pl.wpe _ _ K62_3.eq_1
def K62_4 : C := .seq (.block 1 (.pl <| .st (.ext 5 7) <|
    .st (.act none (.px (some 5) (.mv (.v 0)))) <|
    .st (.act none (.als 6 none 2)) <|
    .st (.act none (.pget (some 7) (some 6) 2 2 none)) <|
    .st (.act none (.px (some 8) (.mv (.v 4)))) <|
    .st (.act none (.px (some 9) (.ia 3 (.v 7) (.v 8)))) <|
    .st (.act none (.ld (some 10) (.v 9) (some 3))) <|
    .st (.act none (.ex (some 11) (.call fn_spec_l1Mark [.v 5, .v 10]))) K62_3)) K62_2
@[simp] def W62_4 := @C.wpe _ _ K62_4.eq_1
def K62_5 : C := .cond 5 (.v 9) (.skip) (.exit 0)
@[simp] def W62_5 := @C.wpe _ _ K62_5.eq_1
def K62_6 : C := .seq (.seq (.pl <| .st (.ext 5 5) <|
    .st (.act none (.px (some 5) (.mv (.v 4)))) <|
    .st (.act none (.als 6 none 2)) <|
    .st (.act none (.pget (some 7) (some 6) 2 2 none)) <|
    .st (.act none (.px (some 8) (.lenV (.v 7)))) <|
    .st (.act none (.px (some 9) (.bin .lss (.v 5) (.v 8)))) .done) K62_5) K62_4
@[simp] def W62_6 := @C.wpe _ _ K62_6.eq_1
def K62_7 : C := .block 0 (.loop 5 [1, 3] K62_6)
@[simp] def W62_7 := @C.wpe _ _ K62_7.eq_1
def K62_8 : C := .seq (.seq (.pl <| .st (.ext 5 0) <|
    .st (.act none (.px (some 4) (.mv (.c (.int .i64 0))))) .done) K62_7) K62_1
@[simp] def W62_8 := @C.wpe _ _ K62_8.eq_1
def K62_9 : C := .pl <| .st (.ext 5 4) <|
    .st (.act none (.px (some 5) (.mv (.v 0)))) <|
    .st (.act none (.als 6 none 2)) <|
    .st (.act none (.pget (some 7) (some 6) 2 1 none)) <|
    .st (.act none (.px (some 8) (.ia 1 (.v 5) (.v 7)))) <|
    .st (.act none (.ex none (.store 1 (.v 8) (.c (.bool true))))) .done
@[simp] def W62_9 := @C.wpe _ _ K62_9.eq_1
def K62_10 : C := .cond 5 (.v 7) K62_9 (.skip)
@[simp] def W62_10 := @C.wpe _ _ K62_10.eq_1
def K62_11 : C := .seq (.seq (.pl <| .st (.ext 5 3) <|
    .st (.act none (.als 5 none 2)) <|
    .st (.act none (.pget (some 6) (some 5) 2 0 none)) <|
    .st (.act none (.px (some 7) (.bin .eql (.v 6) (.c (.int .i64 2))))) .done) K62_10) K62_8
@[simp] def W62_11 := @C.wpe _ _ K62_11.eq_1
def B_spec_l1Mark : C := .seq (.pl <| .st (.ext 5 0) <|
    .st (.act none (.pnew 2 (.v 1) [])) <|
    .st (.act none (.px (some 3) (.mv (.c (.slice none 0 0))))) .done) K62_11
@[simp] def WB_spec_l1Mark := @C.wpe _ _ B_spec_l1Mark.eq_1
def R_spec_l1Mark : FIR := ⟨B_spec_l1Mark, 5, [(3, none)]⟩
theorem IR_spec_l1Mark : cfun Try.prog H_spec_l1Mark Try.f62 = some R_spec_l1Mark := by kernel_rfl
theorem EN_spec_l1Mark {args : List Value} {h : Heap} {k : Value → Heap → Prop} (hargs : args.length = 2) (hw : B_spec_l1Mark.wp Try.prog (retQ [(3, none)] k) (env0 args 5) h) : CallE Try.prog fn_spec_l1Mark args h k := enter Try.func62 rfl IR_spec_l1Mark hargs hw

def H_spec_l1Shape : Hint := ⟨[(0, false), (1, false), (2, true), (4, false), (5, false), (6, false), (19, false)], [[0, 3, 4, 6]]⟩
def K154_1 : C := .seq (.pl <| .st (.ext 7 0) <|
    .st (.act none (.px (some 3) (.mv (.c (.bool true))))) .done) (.ret)
@[simp] def W154_1 := @C.wpe _ _ K154_1.eq_1
def K154_2 : C := .pl <| .st (.ext 7 2) <|
    .st (.act none (.px (some 7) (.mv (.v 5)))) <|
    .st (.act none (.px (some 8) (.bin .add (.v 7) (.c (.int .i64 1))))) <|
    .st (.act none (.px (some 5) (.mv (.v 8)))) .done
@[simp] def W154_2 := @C.wpe _ _ K154_2.eq_1
def K154_3 : C := .seq (.pl <| .st (.ext 7 0) <|
    .st (.act none (.px (some 3) (.mv (.c (.bool false))))) .done) (.ret)
@[simp] def W154_3 := @C.wpe _ _ K154_3.eq_1
def K154_4 : C := .cond 7 (.v 15) K154_3 (.skip)
@[simp] def W154_4 := @C.wpe _ _ K154_4.eq_1
def K154_5 : Pl := .st (.act none (.px (some 15) (.un .not (.v 14)))) .done
@[simp] def W154_5 := @Pl.wpe _ _ K154_5.eq_1
def K154_6 : C := .seq (.block 2 (.seq (.pl <| .st (.ext 7 9) <|
    .st (.act none (.als 7 none 2)) <|
    .st (.act none (.pget (some 8) (some 7) 2 2 none)) <|
    .st (.act none (.px (some 9) (.mv (.v 5)))) <|
    .st (.act none (.px (some 10) (.ia 3 (.v 8) (.v 9)))) <|
    .st (.act none (.ld (some 11) (.v 10) (some 3))) <|
    .st (.act none (.px (some 12) (.mv (.v 1)))) <|
    .st (.act none (.px (some 13) (.bin .sub (.v 12) (.c (.int .i64 1))))) <|
    .st (.act none (.ex (some 14) (.call fn_spec_l1Shape [.v 11, .v 13]))) K154_5) K154_4)) K154_2
@[simp] def W154_6 := @C.wpe _ _ K154_6.eq_1
def K154_7 : C := .cond 7 (.v 11) (.skip) (.exit 1)
@[simp] def W154_7 := @C.wpe _ _ K154_7.eq_1
def K154_8 : C := .seq (.seq (.pl <| .st (.ext 7 5) <|
    .st (.act none (.px (some 7) (.mv (.v 5)))) <|
    .st (.act none (.als 8 none 2)) <|
    .st (.act none (.pget (some 9) (some 8) 2 2 none)) <|
    .st (.act none (.px (some 10) (.lenV (.v 9)))) <|
    .st (.act none (.px (some 11) (.bin .lss (.v 7) (.v 10)))) .done) K154_7) K154_6
@[simp] def W154_8 := @C.wpe _ _ K154_8.eq_1
def K154_9 : C := .block 1 (.loop 7 [0, 3, 4, 6] K154_8)
@[simp] def W154_9 := @C.wpe _ _ K154_9.eq_1
def K154_10 : C := .seq (.seq (.pl <| .st (.ext 7 0) <|
    .st (.act none (.px (some 5) (.mv (.c (.int .i64 0))))) .done) K154_9) K154_1
@[simp] def W154_10 := @C.wpe _ _ K154_10.eq_1
def K154_11 : C := .seq (.pl <| .st (.ext 7 0) <|
    .st (.act none (.px (some 3) (.mv (.c (.bool false))))) .done) (.ret)
@[simp] def W154_11 := @C.wpe _ _ K154_11.eq_1
def K154_12 : C := .cond 7 (.v 15) K154_11 (.skip)
@[simp] def W154_12 := @C.wpe _ _ K154_12.eq_1
def K154_13 : C := .seq (.seq (.pl <| .st (.ext 7 9) <|
    .st (.act none (.als 7 none 2)) <|
    .st (.act none (.pget (some 8) (some 7) 2 1 none)) <|
    .st (.act none (.px (some 9) (.bin .lss (.v 8) (.c (.int .i64 0))))) <|
    .st (.act none (.px (some 10) (.mv (.v 9)))) <|
    .st (.act (some (.v 10, false)) (.als 11 none 2)) <|
    .st (.act (some (.v 10, false)) (.pget (some 12) (some 11) 2 1 none)) <|
    .st (.act (some (.v 10, false)) (.px (some 13) (.mv (.v 4)))) <|
    .st (.act (some (.v 10, false)) (.px (some 14) (.bin .gtr (.v 12) (.v 13)))) <|
    .st (.act none (.px (some 15) (.pick (.v 10) (.c (.bool true)) (.v 14)))) .done) K154_12) K154_10
@[simp] def W154_13 := @C.wpe _ _ K154_13.eq_1
def K154_14 : C := .pl <| .st (.ext 7 0) <|
    .st (.act none (.px (some 4) (.mv (.c (.int .i64 3))))) .done
@[simp] def W154_14 := @C.wpe _ _ K154_14.eq_1
def K154_15 : C := .pl <| .st (.ext 7 0) <|
    .st (.act none (.px (some 4) (.mv (.c (.int .i64 2))))) .done
@[simp] def W154_15 := @C.wpe _ _ K154_15.eq_1
def K154_16 : C := .cond 7 (.v 8) K154_15 (.skip)
@[simp] def W154_16 := @C.wpe _ _ K154_16.eq_1
def K154_17 : C := .seq (.pl <| .st (.ext 7 2) <|
    .st (.act none (.px (some 7) (.bin .eql (.v 6) (.c (.int .i64 2))))) <|
    .st (.act none (.px (some 8) (.mv (.v 7)))) .done) K154_16
@[simp] def W154_17 := @C.wpe _ _ K154_17.eq_1
def K154_18 : C := .cond 7 (.v 8) K154_14 K154_17
@[simp] def W154_18 := @C.wpe _ _ K154_18.eq_1
def K154_19 : C := .block 0 (.seq (.pl <| .st (.ext 7 2) <|
    .st (.act none (.px (some 7) (.bin .eql (.v 6) (.c (.int .i64 1))))) <|
    .st (.act none (.px (some 8) (.mv (.v 7)))) .done) K154_18)
@[simp] def W154_19 := @C.wpe _ _ K154_19.eq_1
def K154_20 : C := .seq (.seq (.pl <| .st (.ext 7 1) <|
    .st (.act none (.als 7 none 2)) <|
    .st (.act none (.pget (some 6) (some 7) 2 0 none)) .done) K154_19) K154_13
@[simp] def W154_20 := @C.wpe _ _ K154_20.eq_1
def K154_21 : C := .seq (.pl <| .st (.ext 7 0) <|
    .st (.act none (.px (some 4) (.mv (.c (.int .i64 0))))) .done) K154_20
@[simp] def W154_21 := @C.wpe _ _ K154_21.eq_1
def K154_22 : C := .seq (.pl <| .st (.ext 7 0) <|
    .st (.act none (.px (some 3) (.mv (.c (.bool false))))) .done) (.ret)
@[simp] def W154_22 := @C.wpe _ _ K154_22.eq_1
def K154_23 : C := .cond 7 (.v 17) K154_22 (.skip)
@[simp] def W154_23 := @C.wpe _ _ K154_23.eq_1
def K154_24 : Pl := .st (.act (some (.v 9, false)) (.px (some 16) (.bin .neq (.v 12) (.v 15)))) <|
    .st (.act none (.px (some 17) (.pick (.v 9) (.c (.bool true)) (.v 16)))) .done
@[simp] def W154_24 := @Pl.wpe _ _ K154_24.eq_1
def K154_25 : C := .seq (.seq (.pl <| .st (.ext 7 11) <|
    .st (.act none (.px (some 7) (.mv (.v 1)))) <|
    .st (.act none (.px (some 8) (.bin .lss (.v 7) (.c (.int .i64 1))))) <|
    .st (.act none (.px (some 9) (.mv (.v 8)))) <|
    .st (.act (some (.v 9, false)) (.als 10 none 2)) <|
    .st (.act (some (.v 9, false)) (.pget (some 11) (some 10) 2 2 none)) <|
    .st (.act (some (.v 9, false)) (.px (some 12) (.lenV (.v 11)))) <|
    .st (.act (some (.v 9, false)) (.als 13 none 2)) <|
    .st (.act (some (.v 9, false)) (.pget (some 14) (some 13) 2 0 none)) <|
    .st (.act (some (.v 9, false)) (.ex (some 15) (.call fn_spec_l1Arity [.v 14]))) K154_24) K154_23) K154_21
@[simp] def W154_25 := @C.wpe _ _ K154_25.eq_1
def B_spec_l1Shape : C := .seq (.pl <| .st (.ext 7 0) <|
    .st (.act none (.pnew 2 (.v 0) [])) <|
    .st (.act none (.px (some 3) (.mv (.c (.bool false))))) .done) K154_25
@[simp] def WB_spec_l1Shape := @C.wpe _ _ B_spec_l1Shape.eq_1
def R_spec_l1Shape : FIR := ⟨B_spec_l1Shape, 7, [(3, none)]⟩
theorem IR_spec_l1Shape : cfun Try.prog H_spec_l1Shape Try.f154 = some R_spec_l1Shape := by kernel_rfl
theorem EN_spec_l1Shape {args : List Value} {h : Heap} {k : Value → Heap → Prop} (hargs : args.length = 2) (hw : B_spec_l1Shape.wp Try.prog (retQ [(3, none)] k) (env0 args 7) h) : CallE Try.prog fn_spec_l1Shape args h k := enter Try.func154 rfl IR_spec_l1Shape hargs hw

def H_spec_l1Vals : Hint := ⟨[(0, false), (2, false), (3, false)], [[1]]⟩
def K115_1 : C := .seq (.pl <| .st (.ext 3 3) <|
    .st (.act none (.px (some 3) (.mv (.v 0)))) <|
    .st (.act none (.px (some 4) (.lenV (.v 3)))) <|
    .st (.act none (.px (some 5) (.bin .eql (.v 4) (.c (.int .i64 3))))) <|
    .st (.act none (.px (some 1) (.mv (.v 5)))) .done) (.ret)
@[simp] def W115_1 := @C.wpe _ _ K115_1.eq_1
def K115_2 : C := .pl <| .st (.ext 3 2) <|
    .st (.act none (.px (some 3) (.mv (.v 2)))) <|
    .st (.act none (.px (some 4) (.bin .add (.v 3) (.c (.int .i64 1))))) <|
    .st (.act none (.px (some 2) (.mv (.v 4)))) .done
@[simp] def W115_2 := @C.wpe _ _ K115_2.eq_1
def K115_3 : C := .seq (.pl <| .st (.ext 3 0) <|
    .st (.act none (.px (some 1) (.mv (.c (.bool false))))) .done) (.ret)
@[simp] def W115_3 := @C.wpe _ _ K115_3.eq_1
def K115_4 : C := .cond 3 (.v 14) K115_3 (.skip)
@[simp] def W115_4 := @C.wpe _ _ K115_4.eq_1
def K115_5 : C := .seq (.block 1 (.seq (.pl <| .st (.ext 3 12) <|
    .st (.act none (.px (some 3) (.mv (.v 0)))) <|
    .st (.act none (.px (some 4) (.mv (.v 2)))) <|
    .st (.act none (.px (some 5) (.ia 1 (.v 3) (.v 4)))) <|
    .st (.act none (.ld (some 6) (.v 5) none)) <|
    .st (.act none (.px (some 7) (.bin .lss (.v 6) (.c (.int .i64 0))))) <|
    .st (.act none (.px (some 8) (.mv (.v 7)))) <|
    .st (.act (some (.v 8, false)) (.px (some 9) (.mv (.v 0)))) <|
    .st (.act (some (.v 8, false)) (.px (some 10) (.mv (.v 2)))) <|
    .st (.act (some (.v 8, false)) (.px (some 11) (.ia 1 (.v 9) (.v 10)))) <|
    .st (.act (some (.v 8, false)) (.ld (some 12) (.v 11) none)) <|
    .st (.act (some (.v 8, false)) (.px (some 13) (.bin .gtr (.v 12) (.c (.int .i64 3))))) <|
    .st (.act none (.px (some 14) (.pick (.v 8) (.c (.bool true)) (.v 13)))) .done) K115_4)) K115_2
@[simp] def W115_5 := @C.wpe _ _ K115_5.eq_1
def K115_6 : C := .cond 3 (.v 6) (.skip) (.exit 0)
@[simp] def W115_6 := @C.wpe _ _ K115_6.eq_1
def K115_7 : C := .seq (.seq (.pl <| .st (.ext 3 4) <|
    .st (.act none (.px (some 3) (.mv (.v 2)))) <|
    .st (.act none (.px (some 4) (.mv (.v 0)))) <|
    .st (.act none (.px (some 5) (.lenV (.v 4)))) <|
    .st (.act none (.px (some 6) (.bin .lss (.v 3) (.v 5)))) .done) K115_6) K115_5
@[simp] def W115_7 := @C.wpe _ _ K115_7.eq_1
def K115_8 : C := .block 0 (.loop 3 [1] K115_7)
@[simp] def W115_8 := @C.wpe _ _ K115_8.eq_1
def K115_9 : C := .seq (.seq (.pl <| .st (.ext 3 0) <|
    .st (.act none (.px (some 2) (.mv (.c (.int .i64 0))))) .done) K115_8) K115_1
@[simp] def W115_9 := @C.wpe _ _ K115_9.eq_1
def B_spec_l1Vals : C := .seq (.pl <| .st (.ext 3 0) <|
    .st (.act none (.px (some 1) (.mv (.c (.bool false))))) .done) K115_9
@[simp] def WB_spec_l1Vals := @C.wpe _ _ B_spec_l1Vals.eq_1
def R_spec_l1Vals : FIR := ⟨B_spec_l1Vals, 3, [(1, none)]⟩
theorem IR_spec_l1Vals : cfun Try.prog H_spec_l1Vals Try.f115 = some R_spec_l1Vals := by kernel_rfl
theorem EN_spec_l1Vals {args : List Value} {h : Heap} {k : Value → Heap → Prop} (hargs : args.length = 1) (hw : B_spec_l1Vals.wp Try.prog (retQ [(1, none)] k) (env0 args 3) h) : CallE Try.prog fn_spec_l1Vals args h k := enter Try.func115 rfl IR_spec_l1Vals hargs hw

def H_spec_l2None : Hint := ⟨[(0, false), (1, true), (2, false)], []⟩
def K184_1 : C := .seq (.pl <| .st (.ext 3 14) <|
    .st (.act none (.als 3 none 1)) <|
    .st (.act none (.pget (some 4) (some 3) 1 0 none)) <|
    .st (.act none (.px (some 5) (.bin .eql (.v 4) (.c (.int .i64 0))))) <|
    .st (.act none (.px (some 6) (.mv (.v 5)))) <|
    .st (.act (some (.v 6, true)) (.als 7 none 1)) <|
    .st (.act (some (.v 6, true)) (.pget (some 8) (some 7) 1 1 none)) <|
    .st (.act (some (.v 6, true)) (.px (some 9) (.bin .eql (.v 8) (.c (.int .i64 0))))) <|
    .st (.act none (.px (some 10) (.pick (.v 6) (.v 9) (.c (.bool false))))) <|
    .st (.act none (.px (some 11) (.mv (.v 10)))) <|
    .st (.act (some (.v 11, true)) (.als 12 none 1)) <|
    .st (.act (some (.v 11, true)) (.pget (some 13) (some 12) 1 2 none)) <|
    .st (.act (some (.v 11, true)) (.px (some 14) (.lenV (.v 13)))) <|
    .st (.act (some (.v 11, true)) (.px (some 15) (.bin .eql (.v 14) (.c (.int .i64 0))))) <|
    .st (.act none (.px (some 16) (.pick (.v 11) (.v 15) (.c (.bool false))))) <|
    .st (.act none (.px (some 2) (.mv (.v 16)))) .done) (.ret)
@[simp] def W184_1 := @C.wpe _ _ K184_1.eq_1
def B_spec_l2None : C := .seq (.pl <| .st (.ext 3 0) <|
    .st (.act none (.pnew 1 (.v 0) [])) <|
    .st (.act none (.px (some 2) (.mv (.c (.bool false))))) .done) K184_1
@[simp] def WB_spec_l2None := @C.wpe _ _ B_spec_l2None.eq_1
def R_spec_l2None : FIR := ⟨B_spec_l2None, 3, [(2, none)]⟩
theorem IR_spec_l2None : cfun Try.prog H_spec_l2None Try.f184 = some R_spec_l2None := by kernel_rfl
theorem EN_spec_l2None {args : List Value} {h : Heap} {k : Value → Heap → Prop} (hargs : args.length = 1) (hw : B_spec_l2None.wp Try.prog (retQ [(2, none)] k) (env0 args 3) h) : CallE Try.prog fn_spec_l2None args h k := enter Try.func184 rfl IR_spec_l2None hargs hw

def H_spec_l2Process : Hint := ⟨[(0, false), (1, true), (2, false), (3, false)], [[0, 2]]⟩
def K114_1 : C := .seq (.pl <| .st (.ext 4 14) <|
    .st (.act none (.als 4 none 1)) <|
    .st (.act none (.pget (some 5) (some 4) 1 0 none)) <|
    .st (.act none (.px (some 6) (.bin .geq (.v 5) (.c (.int .i64 1))))) <|
    .st (.act none (.px (some 7) (.mv (.v 6)))) <|
    .st (.act (some (.v 7, true)) (.als 8 none 1)) <|
    .st (.act (some (.v 7, true)) (.pget (some 9) (some 8) 1 0 none)) <|
    .st (.act (some (.v 7, true)) (.px (some 10) (.bin .leq (.v 9) (.c (.int .i64 4))))) <|
    .st (.act none (.px (some 11) (.pick (.v 7) (.v 10) (.c (.bool false))))) <|
    .st (.act none (.px (some 12) (.mv (.v 11)))) <|
    .st (.act (some (.v 12, true)) (.als 13 none 1)) <|
    .st (.act (some (.v 12, true)) (.pget (some 14) (some 13) 1 1 none)) <|
    .st (.act (some (.v 12, true)) (.px (some 15) (.lenV (.v 14)))) <|
    .st (.act (some (.v 12, true)) (.px (some 16) (.bin .leq (.v 15) (.c (.int .i64 6))))) <|
    .st (.act none (.px (some 17) (.pick (.v 12) (.v 16) (.c (.bool false))))) <|
    .st (.act none (.px (some 2) (.mv (.v 17)))) .done) (.ret)
@[simp] def W114_1 := @C.wpe _ _ K114_1.eq_1
def K114_2 : C := .pl <| .st (.ext 4 2) <|
    .st (.act none (.px (some 4) (.mv (.v 3)))) <|
    .st (.act none (.px (some 5) (.bin .add (.v 4) (.c (.int .i64 1))))) <|
    .st (.act none (.px (some 3) (.mv (.v 5)))) .done
@[simp] def W114_2 := @C.wpe _ _ K114_2.eq_1
def K114_3 : C := .seq (.pl <| .st (.ext 4 0) <|
    .st (.act none (.px (some 2) (.mv (.c (.bool false))))) .done) (.ret)
@[simp] def W114_3 := @C.wpe _ _ K114_3.eq_1
def K114_4 : C := .cond 4 (.v 12) K114_3 (.skip)
@[simp] def W114_4 := @C.wpe _ _ K114_4.eq_1
def K114_5 : Pl := .st (.act none (.px (some 12) (.un .not (.v 11)))) .done
@[simp] def W114_5 := @Pl.wpe _ _ K114_5.eq_1
def K114_6 : C := .seq (.block 1 (.seq (.pl <| .st (.ext 4 9) <|
    .st (.act none (.als 4 none 1)) <|
    .st (.act none (.pget (some 5) (some 4) 1 1 none)) <|
    .st (.act none (.px (some 6) (.mv (.v 3)))) <|
    .st (.act none (.px (some 7) (.ia 10 (.v 5) (.v 6)))) <|
    .st (.act none (.ld (some 8) (.v 7) (some 10))) <|
    .st (.act none (.als 9 none 1)) <|
    .st (.act none (.pget (some 10) (some 9) 1 0 none)) <|
    .st (.act none (.ex (some 11) (.call fn_spec_EdgeValid [.v 8, .v 10]))) K114_5) K114_4)) K114_2
@[simp] def W114_6 := @C.wpe _ _ K114_6.eq_1
def K114_7 : C := .cond 4 (.v 8) (.skip) (.exit 0)
@[simp] def W114_7 := @C.wpe _ _ K114_7.eq_1
def K114_8 : C := .seq (.seq (.pl <| .st (.ext 4 5) <|
    .st (.act none (.px (some 4) (.mv (.v 3)))) <|
    .st (.act none (.als 5 none 1)) <|
    .st (.act none (.pget (some 6) (some 5) 1 1 none)) <|
    .st (.act none (.px (some 7) (.lenV (.v 6)))) <|
    .st (.act none (.px (some 8) (.bin .lss (.v 4) (.v 7)))) .done) K114_7) K114_6
@[simp] def W114_8 := @C.wpe _ _ K114_8.eq_1
def K114_9 : C := .block 0 (.loop 4 [0, 2] K114_8)
@[simp] def W114_9 := @C.wpe _ _ K114_9.eq_1
def K114_10 : C := .seq (.seq (.pl <| .st (.ext 4 0) <|
    .st (.act none (.px (some 3) (.mv (.c (.int .i64 0))))) .done) K114_9) K114_1
@[simp] def W114_10 := @C.wpe _ _ K114_10.eq_1
def B_spec_l2Process : C := .seq (.pl <| .st (.ext 4 0) <|
    .st (.act none (.pnew 1 (.v 0) [])) <|
    .st (.act none (.px (some 2) (.mv (.c (.bool false))))) .done) K114_10
@[simp] def WB_spec_l2Process := @C.wpe _ _ B_spec_l2Process.eq_1
def R_spec_l2Process : FIR := ⟨B_spec_l2Process, 4, [(2, none)]⟩
theorem IR_spec_l2Process : cfun Try.prog H_spec_l2Process Try.f114 = some R_spec_l2Process := by kernel_rfl
theorem EN_spec_l2Process {args : List Value} {h : Heap} {k : Value → Heap → Prop} (hargs : args.length = 1) (hw : B_spec_l2Process.wp Try.prog (retQ [(2, none)] k) (env0 args 4) h) : CallE Try.prog fn_spec_l2Process args h k := enter Try.func114 rfl IR_spec_l2Process hargs hw


end Go.Proofs.Ythgimpheeemooaa
