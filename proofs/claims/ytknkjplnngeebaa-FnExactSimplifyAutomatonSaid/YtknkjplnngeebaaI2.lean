/-
  More bodies of functions in the small language, as a program printed them.
-/
import Derived.Test.YtknkjplnngeebaaI1
namespace Go.Proofs.Ytknkjplnngeebaa
open Go
set_option linter.all false
set_option linter.defProp false
set_option maxRecDepth 1000000

def H_laws_szAutomaton : Hint := ⟨[(0, false), (1, false), (2, true), (4, false)], []⟩
def K8_1 : C := .seq (.pl <| .st (.ext 4 1) <|
    .st (.act none (.px (some 4) (.mv (.v 1)))) <|
    .st (.act none (.px (some 3) (.mv (.v 4)))) .done) (.ret)
@[simp] def W8_1 := @C.wpe _ _ K8_1.eq_1
def K8_2 : C := .seq (.pl <| .st (.ext 4 0) <|
    .st (.act none (.px (some 3) (.mv (.c (.int .i64 (-1)))))) .done) (.ret)
@[simp] def W8_2 := @C.wpe _ _ K8_2.eq_1
def K8_3 : C := .cond 4 (.v 5) K8_2 (.skip)
@[simp] def W8_3 := @C.wpe _ _ K8_3.eq_1
def K8_4 : C := .seq (.seq (.pl <| .st (.ext 4 2) <|
    .st (.act none (.px (some 4) (.mv (.v 1)))) <|
    .st (.act none (.px (some 5) (.bin .lss (.v 4) (.c (.int .i64 0))))) .done) K8_3) K8_1
@[simp] def W8_4 := @C.wpe _ _ K8_4.eq_1
def K8_5 : Pl := .st (.act none (.px (some 1) (.mv (.v 7)))) .done
@[simp] def W8_5 := @Pl.wpe _ _ K8_5.eq_1
def K8_6 : C := .seq (.pl <| .st (.ext 4 4) <|
    .st (.act none (.als 4 none 2)) <|
    .st (.act none (.pget (some 5) (some 4) 2 2 none)) <|
    .st (.act none (.px (some 6) (.mv (.v 1)))) <|
    .st (.act none (.ex (some 7) (.call fn_laws_szTransitionS [.v 5, .v 6]))) K8_5) K8_4
@[simp] def W8_6 := @C.wpe _ _ K8_6.eq_1
def K8_7 : C := .seq (.pl <| .st (.ext 4 0) <|
    .st (.act none (.px (some 3) (.mv (.c (.int .i64 (-1)))))) .done) (.ret)
@[simp] def W8_7 := @C.wpe _ _ K8_7.eq_1
def K8_8 : C := .cond 4 (.v 5) K8_7 (.skip)
@[simp] def W8_8 := @C.wpe _ _ K8_8.eq_1
def K8_9 : C := .seq (.seq (.pl <| .st (.ext 4 2) <|
    .st (.act none (.px (some 4) (.mv (.v 1)))) <|
    .st (.act none (.px (some 5) (.bin .lss (.v 4) (.c (.int .i64 0))))) .done) K8_8) K8_6
@[simp] def W8_9 := @C.wpe _ _ K8_9.eq_1
def K8_10 : Pl := .st (.act none (.px (some 1) (.mv (.v 7)))) .done
@[simp] def W8_10 := @Pl.wpe _ _ K8_10.eq_1
def K8_11 : C := .seq (.pl <| .st (.ext 4 4) <|
    .st (.act none (.als 4 none 2)) <|
    .st (.act none (.pget (some 5) (some 4) 2 1 none)) <|
    .st (.act none (.px (some 6) (.mv (.v 1)))) <|
    .st (.act none (.ex (some 7) (.call fn_laws_szBoolS [.v 5, .v 6]))) K8_10) K8_9
@[simp] def W8_11 := @C.wpe _ _ K8_11.eq_1
def K8_12 : C := .seq (.pl <| .st (.ext 4 0) <|
    .st (.act none (.px (some 3) (.mv (.c (.int .i64 (-1)))))) .done) (.ret)
@[simp] def W8_12 := @C.wpe _ _ K8_12.eq_1
def K8_13 : C := .cond 4 (.v 5) K8_12 (.skip)
@[simp] def W8_13 := @C.wpe _ _ K8_13.eq_1
def K8_14 : C := .seq (.seq (.pl <| .st (.ext 4 2) <|
    .st (.act none (.px (some 4) (.mv (.v 1)))) <|
    .st (.act none (.px (some 5) (.bin .lss (.v 4) (.c (.int .i64 0))))) .done) K8_13) K8_11
@[simp] def W8_14 := @C.wpe _ _ K8_14.eq_1
def K8_15 : Pl := .st (.act none (.px (some 1) (.mv (.v 7)))) .done
@[simp] def W8_15 := @Pl.wpe _ _ K8_15.eq_1
def K8_16 : C := .seq (.pl <| .st (.ext 4 4) <|
    .st (.act none (.als 4 none 2)) <|
    .st (.act none (.pget (some 5) (some 4) 2 0 none)) <|
    .st (.act none (.px (some 6) (.mv (.v 1)))) <|
    .st (.act none (.ex (some 7) (.call fn_laws_szIntS [.v 5, .v 6]))) K8_15) K8_14
@[simp] def W8_16 := @C.wpe _ _ K8_16.eq_1
def B_laws_szAutomaton : C := .seq (.pl <| .st (.ext 4 0) <|
    .st (.act none (.pnew 2 (.v 0) [])) <|
    .st (.act none (.px (some 3) (.mv (.c (.int .i64 0))))) .done) K8_16
@[simp] def WB_laws_szAutomaton := @C.wpe _ _ B_laws_szAutomaton.eq_1
def R_laws_szAutomaton : FIR := ⟨B_laws_szAutomaton, 4, [(3, none)]⟩
theorem IR_laws_szAutomaton : cfun Try.prog H_laws_szAutomaton Try.f8 = some R_laws_szAutomaton := by kernel_rfl
theorem EN_laws_szAutomaton {args : List Value} {h : Heap} {k : Value → Heap → Prop} (hargs : args.length = 2) (hw : B_laws_szAutomaton.wp Try.prog (retQ [(3, none)] k) (env0 args 4) h) : CallE Try.prog fn_laws_szAutomaton args h k := enter Try.func8 rfl IR_laws_szAutomaton hargs hw

def H_laws_szBoolS : Hint := ⟨[(0, false), (1, false), (4, false)], []⟩
def K31_1 : C := .seq (.pl <| .st (.ext 3 1) <|
    .st (.act none (.px (some 3) (.mv (.v 1)))) <|
    .st (.act none (.px (some 2) (.mv (.v 3)))) .done) (.ret)
@[simp] def W31_1 := @C.wpe _ _ K31_1.eq_1
def K31_2 : C := .seq (.pl <| .st (.ext 3 0) <|
    .st (.act none (.px (some 2) (.mv (.c (.int .i64 (-1)))))) .done) (.ret)
@[simp] def W31_2 := @C.wpe _ _ K31_2.eq_1
def K31_3 : C := .cond 3 (.v 4) K31_2 (.skip)
@[simp] def W31_3 := @C.wpe _ _ K31_3.eq_1
def K31_4 : C := .seq (.seq (.pl <| .st (.ext 3 2) <|
    .st (.act none (.px (some 3) (.mv (.v 1)))) <|
    .st (.act none (.px (some 4) (.bin .lss (.v 3) (.c (.int .i64 0))))) .done) K31_3) K31_1
@[simp] def W31_4 := @C.wpe _ _ K31_4.eq_1
def K31_5 : C := .seq (.pl <| .st (.ext 3 4) <|
    .st (.act none (.px (some 3) (.mv (.v 1)))) <|
    .st (.act none (.px (some 4) (.mv (.v 0)))) <|
    .st (.act none (.px (some 5) (.lenV (.v 4)))) <|
    .st (.act none (.px (some 6) (.bin .sub (.v 3) (.v 5)))) <|
    .st (.act none (.px (some 1) (.mv (.v 6)))) .done) K31_4
@[simp] def W31_5 := @C.wpe _ _ K31_5.eq_1
def B_laws_szBoolS : C := .seq (.pl <| .st (.ext 3 0) <|
    .st (.act none (.px (some 2) (.mv (.c (.int .i64 0))))) .done) K31_5
@[simp] def WB_laws_szBoolS := @C.wpe _ _ B_laws_szBoolS.eq_1
def R_laws_szBoolS : FIR := ⟨B_laws_szBoolS, 3, [(2, none)]⟩
theorem IR_laws_szBoolS : cfun Try.prog H_laws_szBoolS Try.f31 = some R_laws_szBoolS := by kernel_rfl
theorem EN_laws_szBoolS {args : List Value} {h : Heap} {k : Value → Heap → Prop} (hargs : args.length = 2) (hw : B_laws_szBoolS.wp Try.prog (retQ [(2, none)] k) (env0 args 3) h) : CallE Try.prog fn_laws_szBoolS args h k := enter Try.func31 rfl IR_laws_szBoolS hargs hw

def H_laws_szIntS : Hint := ⟨[(0, false), (1, false), (4, false)], []⟩
def K30_1 : C := .seq (.pl <| .st (.ext 3 1) <|
    .st (.act none (.px (some 3) (.mv (.v 1)))) <|
    .st (.act none (.px (some 2) (.mv (.v 3)))) .done) (.ret)
@[simp] def W30_1 := @C.wpe _ _ K30_1.eq_1
def K30_2 : C := .seq (.pl <| .st (.ext 3 0) <|
    .st (.act none (.px (some 2) (.mv (.c (.int .i64 (-1)))))) .done) (.ret)
@[simp] def W30_2 := @C.wpe _ _ K30_2.eq_1
def K30_3 : C := .cond 3 (.v 4) K30_2 (.skip)
@[simp] def W30_3 := @C.wpe _ _ K30_3.eq_1
def K30_4 : C := .seq (.seq (.pl <| .st (.ext 3 2) <|
    .st (.act none (.px (some 3) (.mv (.v 1)))) <|
    .st (.act none (.px (some 4) (.bin .lss (.v 3) (.c (.int .i64 0))))) .done) K30_3) K30_1
@[simp] def W30_4 := @C.wpe _ _ K30_4.eq_1
def K30_5 : C := .seq (.pl <| .st (.ext 3 4) <|
    .st (.act none (.px (some 3) (.mv (.v 1)))) <|
    .st (.act none (.px (some 4) (.mv (.v 0)))) <|
    .st (.act none (.px (some 5) (.lenV (.v 4)))) <|
    .st (.act none (.px (some 6) (.bin .sub (.v 3) (.v 5)))) <|
    .st (.act none (.px (some 1) (.mv (.v 6)))) .done) K30_4
@[simp] def W30_5 := @C.wpe _ _ K30_5.eq_1
def B_laws_szIntS : C := .seq (.pl <| .st (.ext 3 0) <|
    .st (.act none (.px (some 2) (.mv (.c (.int .i64 0))))) .done) K30_5
@[simp] def WB_laws_szIntS := @C.wpe _ _ B_laws_szIntS.eq_1
def R_laws_szIntS : FIR := ⟨B_laws_szIntS, 3, [(2, none)]⟩
theorem IR_laws_szIntS : cfun Try.prog H_laws_szIntS Try.f30 = some R_laws_szIntS := by kernel_rfl
theorem EN_laws_szIntS {args : List Value} {h : Heap} {k : Value → Heap → Prop} (hargs : args.length = 2) (hw : B_laws_szIntS.wp Try.prog (retQ [(2, none)] k) (env0 args 3) h) : CallE Try.prog fn_laws_szIntS args h k := enter Try.func30 rfl IR_laws_szIntS hargs hw

def H_laws_szTransitionS : Hint := ⟨[(0, false), (1, false), (4, false)], []⟩
def K32_1 : C := .seq (.pl <| .st (.ext 3 1) <|
    .st (.act none (.px (some 3) (.mv (.v 1)))) <|
    .st (.act none (.px (some 2) (.mv (.v 3)))) .done) (.ret)
@[simp] def W32_1 := @C.wpe _ _ K32_1.eq_1
def K32_2 : C := .seq (.pl <| .st (.ext 3 0) <|
    .st (.act none (.px (some 2) (.mv (.c (.int .i64 (-1)))))) .done) (.ret)
@[simp] def W32_2 := @C.wpe _ _ K32_2.eq_1
def K32_3 : C := .cond 3 (.v 4) K32_2 (.skip)
@[simp] def W32_3 := @C.wpe _ _ K32_3.eq_1
def K32_4 : C := .seq (.seq (.pl <| .st (.ext 3 2) <|
    .st (.act none (.px (some 3) (.mv (.v 1)))) <|
    .st (.act none (.px (some 4) (.bin .lss (.v 3) (.c (.int .i64 0))))) .done) K32_3) K32_1
@[simp] def W32_4 := @C.wpe _ _ K32_4.eq_1
def K32_5 : C := .seq (.pl <| .st (.ext 3 4) <|
    .st (.act none (.px (some 3) (.mv (.v 1)))) <|
    .st (.act none (.px (some 4) (.mv (.v 0)))) <|
    .st (.act none (.px (some 5) (.lenV (.v 4)))) <|
    .st (.act none (.px (some 6) (.bin .sub (.v 3) (.v 5)))) <|
    .st (.act none (.px (some 1) (.mv (.v 6)))) .done) K32_4
@[simp] def W32_5 := @C.wpe _ _ K32_5.eq_1
def B_laws_szTransitionS : C := .seq (.pl <| .st (.ext 3 0) <|
    .st (.act none (.px (some 2) (.mv (.c (.int .i64 0))))) .done) K32_5
@[simp] def WB_laws_szTransitionS := @C.wpe _ _ B_laws_szTransitionS.eq_1
def R_laws_szTransitionS : FIR := ⟨B_laws_szTransitionS, 3, [(2, none)]⟩
theorem IR_laws_szTransitionS : cfun Try.prog H_laws_szTransitionS Try.f32 = some R_laws_szTransitionS := by kernel_rfl
theorem EN_laws_szTransitionS {args : List Value} {h : Heap} {k : Value → Heap → Prop} (hargs : args.length = 2) (hw : B_laws_szTransitionS.wp Try.prog (retQ [(2, none)] k) (env0 args 3) h) : CallE Try.prog fn_laws_szTransitionS args h k := enter Try.func32 rfl IR_laws_szTransitionS hargs hw

def H_laws_toAutomaton : Hint := ⟨[(0, false), (1, true), (2, true), (3, true)], []⟩
def K10_1 : C := .seq (.pl <| .st (.ext 4 1) <|
    .st (.act none (.pget (some 4) none 3 0 (some 3))) <|
    .st (.act none (.pset none 2 0 3 (.v 4))) .done) (.ret)
@[simp] def W10_1 := @C.wpe _ _ K10_1.eq_1
def K10_2 : Pl := .st (.act none (.als 7 none 3)) <|
    .st (.act none (.pset (some 7) 3 2 1 (.v 6))) .done
@[simp] def W10_2 := @Pl.wpe _ _ K10_2.eq_1
def K10_3 : C := .seq (.pl <| .st (.ext 4 4) <|
    .st (.act none (.als 4 none 1)) <|
    .st (.act none (.pget (some 5) (some 4) 1 2 none)) <|
    .st (.act none (.ex (some 6) (.call fn_laws_toTransitionS [.v 5]))) K10_2) K10_1
@[simp] def W10_3 := @C.wpe _ _ K10_3.eq_1
def K10_4 : Pl := .st (.act none (.als 7 none 3)) <|
    .st (.act none (.pset (some 7) 3 1 1 (.v 6))) .done
@[simp] def W10_4 := @Pl.wpe _ _ K10_4.eq_1
def K10_5 : C := .seq (.pl <| .st (.ext 4 4) <|
    .st (.act none (.als 4 none 1)) <|
    .st (.act none (.pget (some 5) (some 4) 1 1 none)) <|
    .st (.act none (.ex (some 6) (.call fn_laws_toBoolS [.v 5]))) K10_4) K10_3
@[simp] def W10_5 := @C.wpe _ _ K10_5.eq_1
def K10_6 : Pl := .st (.act none (.als 7 none 3)) <|
    .st (.act none (.pset (some 7) 3 0 1 (.v 6))) .done
@[simp] def W10_6 := @Pl.wpe _ _ K10_6.eq_1
def K10_7 : C := .seq (.pl <| .st (.ext 4 4) <|
    .st (.act none (.als 4 none 1)) <|
    .st (.act none (.pget (some 5) (some 4) 1 0 none)) <|
    .st (.act none (.ex (some 6) (.call fn_laws_toIntS [.v 5]))) K10_6) K10_5
@[simp] def W10_7 := @C.wpe _ _ K10_7.eq_1
def K10_8 : C := .seq (.pl <| .st (.ext 4 0) <|
    .st (.act none (.pnew 3 (.c (.agg #[.slice none 0 0, .slice none 0 0, .slice none 0 0])) [])) .done) K10_7
@[simp] def W10_8 := @C.wpe _ _ K10_8.eq_1
def B_laws_toAutomaton : C := .seq (.pl <| .st (.ext 4 0) <|
    .st (.act none (.pnew 1 (.v 0) [])) <|
    .st (.act none (.pnew 2 (.c (.agg #[.slice none 0 0, .slice none 0 0, .slice none 0 0])) [])) .done) K10_8
@[simp] def WB_laws_toAutomaton := @C.wpe _ _ B_laws_toAutomaton.eq_1
def R_laws_toAutomaton : FIR := ⟨B_laws_toAutomaton, 4, [(2, some (some 3))]⟩
theorem IR_laws_toAutomaton : cfun Try.prog H_laws_toAutomaton Try.f10 = some R_laws_toAutomaton := by kernel_rfl
theorem EN_laws_toAutomaton {args : List Value} {h : Heap} {k : Value → Heap → Prop} (hargs : args.length = 1) (hw : B_laws_toAutomaton.wp Try.prog (retQ [(2, some (some 3))] k) (env0 args 4) h) : CallE Try.prog fn_laws_toAutomaton args h k := enter Try.func10 rfl IR_laws_toAutomaton hargs hw

def H_laws_toBoolS : Hint := ⟨[(0, false), (2, false), (3, false), (4, false)], [[1]]⟩
def K35_1 : C := .seq (.pl <| .st (.ext 4 1) <|
    .st (.act none (.px (some 4) (.mv (.v 2)))) <|
    .st (.act none (.px (some 1) (.mv (.v 4)))) .done) (.ret)
@[simp] def W35_1 := @C.wpe _ _ K35_1.eq_1
def K35_2 : C := .pl <| .st (.ext 4 2) <|
    .st (.act none (.px (some 4) (.mv (.v 3)))) <|
    .st (.act none (.px (some 5) (.bin .add (.v 4) (.c (.int .i64 1))))) <|
    .st (.act none (.px (some 3) (.mv (.v 5)))) .done
@[simp] def W35_2 := @C.wpe _ _ K35_2.eq_1
def K35_3 : C := .seq (.block 1 (.pl <| .st (.ext 4 7) <|
    .st (.act none (.px (some 4) (.mv (.v 2)))) <|
    .st (.act none (.px (some 5) (.mv (.v 3)))) <|
    .st (.act none (.px (some 6) (.mv (.v 0)))) <|
    .st (.act none (.px (some 7) (.mv (.v 3)))) <|
    .st (.act none (.px (some 8) (.ia 1 (.v 6) (.v 7)))) <|
    .st (.act none (.ld (some 9) (.v 8) none)) <|
    .st (.act none (.px (some 10) (.ia 1 (.v 4) (.v 5)))) <|
    .st (.act none (.ex none (.store 1 (.v 10) (.v 9)))) .done)) K35_2
@[simp] def W35_3 := @C.wpe _ _ K35_3.eq_1
def K35_4 : C := .cond 4 (.v 7) (.skip) (.exit 0)
@[simp] def W35_4 := @C.wpe _ _ K35_4.eq_1
def K35_5 : C := .seq (.seq (.pl <| .st (.ext 4 4) <|
    .st (.act none (.px (some 4) (.mv (.v 3)))) <|
    .st (.act none (.px (some 5) (.mv (.v 0)))) <|
    .st (.act none (.px (some 6) (.lenV (.v 5)))) <|
    .st (.act none (.px (some 7) (.bin .lss (.v 4) (.v 6)))) .done) K35_4) K35_3
@[simp] def W35_5 := @C.wpe _ _ K35_5.eq_1
def K35_6 : C := .block 0 (.loop 4 [1] K35_5)
@[simp] def W35_6 := @C.wpe _ _ K35_6.eq_1
def K35_7 : C := .seq (.seq (.pl <| .st (.ext 4 0) <|
    .st (.act none (.px (some 3) (.mv (.c (.int .i64 0))))) .done) K35_6) K35_1
@[simp] def W35_7 := @C.wpe _ _ K35_7.eq_1
def K35_8 : Pl := .st (.act none (.px (some 2) (.mv (.v 6)))) .done
@[simp] def W35_8 := @Pl.wpe _ _ K35_8.eq_1
def K35_9 : C := .seq (.pl <| .st (.ext 4 3) <|
    .st (.act none (.px (some 4) (.mv (.v 0)))) <|
    .st (.act none (.px (some 5) (.lenV (.v 4)))) <|
    .st (.act none (.ex (some 6) (.mks 1 1 [.bool false] (.v 5) (.v 5)))) K35_8) K35_7
@[simp] def W35_9 := @C.wpe _ _ K35_9.eq_1
def B_laws_toBoolS : C := .seq (.pl <| .st (.ext 4 0) <|
    .st (.act none (.px (some 1) (.mv (.c (.slice none 0 0))))) .done) K35_9
@[simp] def WB_laws_toBoolS := @C.wpe _ _ B_laws_toBoolS.eq_1
def R_laws_toBoolS : FIR := ⟨B_laws_toBoolS, 4, [(1, none)]⟩
theorem IR_laws_toBoolS : cfun Try.prog H_laws_toBoolS Try.f35 = some R_laws_toBoolS := by kernel_rfl
theorem EN_laws_toBoolS {args : List Value} {h : Heap} {k : Value → Heap → Prop} (hargs : args.length = 1) (hw : B_laws_toBoolS.wp Try.prog (retQ [(1, none)] k) (env0 args 4) h) : CallE Try.prog fn_laws_toBoolS args h k := enter Try.func35 rfl IR_laws_toBoolS hargs hw

def H_laws_toIntS : Hint := ⟨[(0, false), (2, false), (3, false), (4, false)], [[1]]⟩
def K16_1 : C := .seq (.pl <| .st (.ext 4 1) <|
    .st (.act none (.px (some 4) (.mv (.v 2)))) <|
    .st (.act none (.px (some 1) (.mv (.v 4)))) .done) (.ret)
@[simp] def W16_1 := @C.wpe _ _ K16_1.eq_1
def K16_2 : C := .pl <| .st (.ext 4 2) <|
    .st (.act none (.px (some 4) (.mv (.v 3)))) <|
    .st (.act none (.px (some 5) (.bin .add (.v 4) (.c (.int .i64 1))))) <|
    .st (.act none (.px (some 3) (.mv (.v 5)))) .done
@[simp] def W16_2 := @C.wpe _ _ K16_2.eq_1
def K16_3 : C := .seq (.block 1 (.pl <| .st (.ext 4 7) <|
    .st (.act none (.px (some 4) (.mv (.v 2)))) <|
    .st (.act none (.px (some 5) (.mv (.v 3)))) <|
    .st (.act none (.px (some 6) (.mv (.v 0)))) <|
    .st (.act none (.px (some 7) (.mv (.v 3)))) <|
    .st (.act none (.px (some 8) (.ia 1 (.v 6) (.v 7)))) <|
    .st (.act none (.ld (some 9) (.v 8) none)) <|
    .st (.act none (.px (some 10) (.ia 1 (.v 4) (.v 5)))) <|
    .st (.act none (.ex none (.store 1 (.v 10) (.v 9)))) .done)) K16_2
@[simp] def W16_3 := @C.wpe _ _ K16_3.eq_1
def K16_4 : C := .cond 4 (.v 7) (.skip) (.exit 0)
@[simp] def W16_4 := @C.wpe _ _ K16_4.eq_1
def K16_5 : C := .seq (.seq (.pl <| .st (.ext 4 4) <|
    .st (.act none (.px (some 4) (.mv (.v 3)))) <|
    .st (.act none (.px (some 5) (.mv (.v 0)))) <|
    .st (.act none (.px (some 6) (.lenV (.v 5)))) <|
    .st (.act none (.px (some 7) (.bin .lss (.v 4) (.v 6)))) .done) K16_4) K16_3
@[simp] def W16_5 := @C.wpe _ _ K16_5.eq_1
def K16_6 : C := .block 0 (.loop 4 [1] K16_5)
@[simp] def W16_6 := @C.wpe _ _ K16_6.eq_1
def K16_7 : C := .seq (.seq (.pl <| .st (.ext 4 0) <|
    .st (.act none (.px (some 3) (.mv (.c (.int .i64 0))))) .done) K16_6) K16_1
@[simp] def W16_7 := @C.wpe _ _ K16_7.eq_1
def K16_8 : Pl := .st (.act none (.px (some 2) (.mv (.v 6)))) .done
@[simp] def W16_8 := @Pl.wpe _ _ K16_8.eq_1
def K16_9 : C := .seq (.pl <| .st (.ext 4 3) <|
    .st (.act none (.px (some 4) (.mv (.v 0)))) <|
    .st (.act none (.px (some 5) (.lenV (.v 4)))) <|
    .st (.act none (.ex (some 6) (.mks 8 1 [.int .i64 0] (.v 5) (.v 5)))) K16_8) K16_7
@[simp] def W16_9 := @C.wpe _ _ K16_9.eq_1
def B_laws_toIntS : C := .seq (.pl <| .st (.ext 4 0) <|
    .st (.act none (.px (some 1) (.mv (.c (.slice none 0 0))))) .done) K16_9
@[simp] def WB_laws_toIntS := @C.wpe _ _ B_laws_toIntS.eq_1
def R_laws_toIntS : FIR := ⟨B_laws_toIntS, 4, [(1, none)]⟩
theorem IR_laws_toIntS : cfun Try.prog H_laws_toIntS Try.f16 = some R_laws_toIntS := by kernel_rfl
theorem EN_laws_toIntS {args : List Value} {h : Heap} {k : Value → Heap → Prop} (hargs : args.length = 1) (hw : B_laws_toIntS.wp Try.prog (retQ [(1, none)] k) (env0 args 4) h) : CallE Try.prog fn_laws_toIntS args h k := enter Try.func16 rfl IR_laws_toIntS hargs hw

def H_laws_toTransition : Hint := ⟨[(0, false), (1, true), (2, true), (3, true)], []⟩
def K64_1 : C := .seq (.pl <| .st (.ext 4 1) <|
    .st (.act none (.pget (some 4) none 3 0 (some 4))) <|
    .st (.act none (.pset none 2 0 4 (.v 4))) .done) (.ret)
@[simp] def W64_1 := @C.wpe _ _ K64_1.eq_1
def K64_2 : C := .seq (.pl <| .st (.ext 4 3) <|
    .st (.act none (.als 4 none 1)) <|
    .st (.act none (.pget (some 5) (some 4) 1 3 none)) <|
    .st (.act none (.als 6 none 3)) <|
    .st (.act none (.pset (some 6) 3 3 1 (.v 5))) .done) K64_1
@[simp] def W64_2 := @C.wpe _ _ K64_2.eq_1
def K64_3 : C := .seq (.pl <| .st (.ext 4 3) <|
    .st (.act none (.als 4 none 1)) <|
    .st (.act none (.pget (some 5) (some 4) 1 2 none)) <|
    .st (.act none (.als 6 none 3)) <|
    .st (.act none (.pset (some 6) 3 2 1 (.v 5))) .done) K64_2
@[simp] def W64_3 := @C.wpe _ _ K64_3.eq_1
def K64_4 : C := .seq (.pl <| .st (.ext 4 3) <|
    .st (.act none (.als 4 none 1)) <|
    .st (.act none (.pget (some 5) (some 4) 1 1 none)) <|
    .st (.act none (.als 6 none 3)) <|
    .st (.act none (.pset (some 6) 3 1 1 (.v 5))) .done) K64_3
@[simp] def W64_4 := @C.wpe _ _ K64_4.eq_1
def K64_5 : C := .seq (.pl <| .st (.ext 4 3) <|
    .st (.act none (.als 4 none 1)) <|
    .st (.act none (.pget (some 5) (some 4) 1 0 none)) <|
    .st (.act none (.als 6 none 3)) <|
    .st (.act none (.pset (some 6) 3 0 1 (.v 5))) .done) K64_4
@[simp] def W64_5 := @C.wpe _ _ K64_5.eq_1
def K64_6 : C := .seq (.pl <| .st (.ext 4 0) <|
    .st (.act none (.pnew 3 (.c (.agg #[.int .i64 0, .int .i64 0, .int .i64 0, .int .i64 0])) [])) .done) K64_5
@[simp] def W64_6 := @C.wpe _ _ K64_6.eq_1
def B_laws_toTransition : C := .seq (.pl <| .st (.ext 4 0) <|
    .st (.act none (.pnew 1 (.v 0) [])) <|
    .st (.act none (.pnew 2 (.c (.agg #[.int .i64 0, .int .i64 0, .int .i64 0, .int .i64 0])) [])) .done) K64_6
@[simp] def WB_laws_toTransition := @C.wpe _ _ B_laws_toTransition.eq_1
def R_laws_toTransition : FIR := ⟨B_laws_toTransition, 4, [(2, some (some 4))]⟩
theorem IR_laws_toTransition : cfun Try.prog H_laws_toTransition Try.f64 = some R_laws_toTransition := by kernel_rfl
theorem EN_laws_toTransition {args : List Value} {h : Heap} {k : Value → Heap → Prop} (hargs : args.length = 1) (hw : B_laws_toTransition.wp Try.prog (retQ [(2, some (some 4))] k) (env0 args 4) h) : CallE Try.prog fn_laws_toTransition args h k := enter Try.func64 rfl IR_laws_toTransition hargs hw

def H_laws_toTransitionS : Hint := ⟨[(0, false), (2, false), (3, false), (4, false)], [[1]]⟩
def K36_1 : C := .seq (.pl <| .st (.ext 4 1) <|
    .st (.act none (.px (some 4) (.mv (.v 2)))) <|
    .st (.act none (.px (some 1) (.mv (.v 4)))) .done) (.ret)
@[simp] def W36_1 := @C.wpe _ _ K36_1.eq_1
def K36_2 : C := .pl <| .st (.ext 4 2) <|
    .st (.act none (.px (some 4) (.mv (.v 3)))) <|
    .st (.act none (.px (some 5) (.bin .add (.v 4) (.c (.int .i64 1))))) <|
    .st (.act none (.px (some 3) (.mv (.v 5)))) .done
@[simp] def W36_2 := @C.wpe _ _ K36_2.eq_1
def K36_3 : Pl := .st (.act none (.px (some 11) (.ia 4 (.v 4) (.v 5)))) <|
    .st (.act none (.ex none (.store 4 (.v 11) (.v 10)))) .done
@[simp] def W36_3 := @Pl.wpe _ _ K36_3.eq_1
def K36_4 : C := .seq (.block 1 (.pl <| .st (.ext 4 8) <|
    .st (.act none (.px (some 4) (.mv (.v 2)))) <|
    .st (.act none (.px (some 5) (.mv (.v 3)))) <|
    .st (.act none (.px (some 6) (.mv (.v 0)))) <|
    .st (.act none (.px (some 7) (.mv (.v 3)))) <|
    .st (.act none (.px (some 8) (.ia 4 (.v 6) (.v 7)))) <|
    .st (.act none (.ld (some 9) (.v 8) (some 4))) <|
    .st (.act none (.ex (some 10) (.call fn_laws_toTransition [.v 9]))) K36_3)) K36_2
@[simp] def W36_4 := @C.wpe _ _ K36_4.eq_1
def K36_5 : C := .cond 4 (.v 7) (.skip) (.exit 0)
@[simp] def W36_5 := @C.wpe _ _ K36_5.eq_1
def K36_6 : C := .seq (.seq (.pl <| .st (.ext 4 4) <|
    .st (.act none (.px (some 4) (.mv (.v 3)))) <|
    .st (.act none (.px (some 5) (.mv (.v 0)))) <|
    .st (.act none (.px (some 6) (.lenV (.v 5)))) <|
    .st (.act none (.px (some 7) (.bin .lss (.v 4) (.v 6)))) .done) K36_5) K36_4
@[simp] def W36_6 := @C.wpe _ _ K36_6.eq_1
def K36_7 : C := .block 0 (.loop 4 [1] K36_6)
@[simp] def W36_7 := @C.wpe _ _ K36_7.eq_1
def K36_8 : C := .seq (.seq (.pl <| .st (.ext 4 0) <|
    .st (.act none (.px (some 3) (.mv (.c (.int .i64 0))))) .done) K36_7) K36_1
@[simp] def W36_8 := @C.wpe _ _ K36_8.eq_1
def K36_9 : Pl := .st (.act none (.px (some 2) (.mv (.v 6)))) .done
@[simp] def W36_9 := @Pl.wpe _ _ K36_9.eq_1
def K36_10 : C := .seq (.pl <| .st (.ext 4 3) <|
    .st (.act none (.px (some 4) (.mv (.v 0)))) <|
    .st (.act none (.px (some 5) (.lenV (.v 4)))) <|
    .st (.act none (.ex (some 6) (.mks 32 4 [.int .i64 0, .int .i64 0, .int .i64 0, .int .i64 0] (.v 5) (.v 5)))) K36_9) K36_8
@[simp] def W36_10 := @C.wpe _ _ K36_10.eq_1
def B_laws_toTransitionS : C := .seq (.pl <| .st (.ext 4 0) <|
    .st (.act none (.px (some 1) (.mv (.c (.slice none 0 0))))) .done) K36_10
@[simp] def WB_laws_toTransitionS := @C.wpe _ _ B_laws_toTransitionS.eq_1
def R_laws_toTransitionS : FIR := ⟨B_laws_toTransitionS, 4, [(1, none)]⟩
theorem IR_laws_toTransitionS : cfun Try.prog H_laws_toTransitionS Try.f36 = some R_laws_toTransitionS := by kernel_rfl
theorem EN_laws_toTransitionS {args : List Value} {h : Heap} {k : Value → Heap → Prop} (hargs : args.length = 1) (hw : B_laws_toTransitionS.wp Try.prog (retQ [(1, none)] k) (env0 args 4) h) : CallE Try.prog fn_laws_toTransitionS args h k := enter Try.func36 rfl IR_laws_toTransitionS hargs hw

def H_slices_Clip_S_bool_bool : Hint := ⟨[(0, false), (2, false)], []⟩
def K124_1 : C := .seq (.pl <| .st (.ext 2 6) <|
    .st (.act none (.px (some 2) (.mv (.v 0)))) <|
    .st (.act none (.px (some 3) (.mv (.v 0)))) <|
    .st (.act none (.px (some 4) (.lenV (.v 3)))) <|
    .st (.act none (.px (some 5) (.mv (.v 0)))) <|
    .st (.act none (.px (some 6) (.lenV (.v 5)))) <|
    .st (.act none (.px (some 7) (.sliceV 1 (.v 2) none (some (.v 4)) (some (.v 6))))) <|
    .st (.act none (.px (some 1) (.mv (.v 7)))) .done) (.ret)
@[simp] def W124_1 := @C.wpe _ _ K124_1.eq_1
def B_slices_Clip_S_bool_bool : C := .seq (.pl <| .st (.ext 2 0) <|
    .st (.act none (.px (some 1) (.mv (.c (.slice none 0 0))))) .done) K124_1
@[simp] def WB_slices_Clip_S_bool_bool := @C.wpe _ _ B_slices_Clip_S_bool_bool.eq_1
def R_slices_Clip_S_bool_bool : FIR := ⟨B_slices_Clip_S_bool_bool, 2, [(1, none)]⟩
theorem IR_slices_Clip_S_bool_bool : cfun Try.prog H_slices_Clip_S_bool_bool Try.f124 = some R_slices_Clip_S_bool_bool := by kernel_rfl
theorem EN_slices_Clip_S_bool_bool {args : List Value} {h : Heap} {k : Value → Heap → Prop} (hargs : args.length = 1) (hw : B_slices_Clip_S_bool_bool.wp Try.prog (retQ [(1, none)] k) (env0 args 2) h) : CallE Try.prog fn_slices_Clip_S_bool_bool args h k := enter Try.func124 rfl IR_slices_Clip_S_bool_bool hargs hw

def H_slices_Clip_S_impl_Transition_impl_Transition : Hint := ⟨[(0, false), (2, false)], []⟩
def K126_1 : C := .seq (.pl <| .st (.ext 2 6) <|
    .st (.act none (.px (some 2) (.mv (.v 0)))) <|
    .st (.act none (.px (some 3) (.mv (.v 0)))) <|
    .st (.act none (.px (some 4) (.lenV (.v 3)))) <|
    .st (.act none (.px (some 5) (.mv (.v 0)))) <|
    .st (.act none (.px (some 6) (.lenV (.v 5)))) <|
    .st (.act none (.px (some 7) (.sliceV 4 (.v 2) none (some (.v 4)) (some (.v 6))))) <|
    .st (.act none (.px (some 1) (.mv (.v 7)))) .done) (.ret)
@[simp] def W126_1 := @C.wpe _ _ K126_1.eq_1
def B_slices_Clip_S_impl_Transition_impl_Transition : C := .seq (.pl <| .st (.ext 2 0) <|
    .st (.act none (.px (some 1) (.mv (.c (.slice none 0 0))))) .done) K126_1
@[simp] def WB_slices_Clip_S_impl_Transition_impl_Transition := @C.wpe _ _ B_slices_Clip_S_impl_Transition_impl_Transition.eq_1
def R_slices_Clip_S_impl_Transition_impl_Transition : FIR := ⟨B_slices_Clip_S_impl_Transition_impl_Transition, 2, [(1, none)]⟩
theorem IR_slices_Clip_S_impl_Transition_impl_Transition : cfun Try.prog H_slices_Clip_S_impl_Transition_impl_Transition Try.f126 = some R_slices_Clip_S_impl_Transition_impl_Transition := by kernel_rfl
theorem EN_slices_Clip_S_impl_Transition_impl_Transition {args : List Value} {h : Heap} {k : Value → Heap → Prop} (hargs : args.length = 1) (hw : B_slices_Clip_S_impl_Transition_impl_Transition.wp Try.prog (retQ [(1, none)] k) (env0 args 2) h) : CallE Try.prog fn_slices_Clip_S_impl_Transition_impl_Transition args h k := enter Try.func126 rfl IR_slices_Clip_S_impl_Transition_impl_Transition hargs hw

def H_slices_Clip_S_int_int : Hint := ⟨[(0, false), (2, false)], []⟩
def K56_1 : C := .seq (.pl <| .st (.ext 2 6) <|
    .st (.act none (.px (some 2) (.mv (.v 0)))) <|
    .st (.act none (.px (some 3) (.mv (.v 0)))) <|
    .st (.act none (.px (some 4) (.lenV (.v 3)))) <|
    .st (.act none (.px (some 5) (.mv (.v 0)))) <|
    .st (.act none (.px (some 6) (.lenV (.v 5)))) <|
    .st (.act none (.px (some 7) (.sliceV 1 (.v 2) none (some (.v 4)) (some (.v 6))))) <|
    .st (.act none (.px (some 1) (.mv (.v 7)))) .done) (.ret)
@[simp] def W56_1 := @C.wpe _ _ K56_1.eq_1
def B_slices_Clip_S_int_int : C := .seq (.pl <| .st (.ext 2 0) <|
    .st (.act none (.px (some 1) (.mv (.c (.slice none 0 0))))) .done) K56_1
@[simp] def WB_slices_Clip_S_int_int := @C.wpe _ _ B_slices_Clip_S_int_int.eq_1
def R_slices_Clip_S_int_int : FIR := ⟨B_slices_Clip_S_int_int, 2, [(1, none)]⟩
theorem IR_slices_Clip_S_int_int : cfun Try.prog H_slices_Clip_S_int_int Try.f56 = some R_slices_Clip_S_int_int := by kernel_rfl
theorem EN_slices_Clip_S_int_int {args : List Value} {h : Heap} {k : Value → Heap → Prop} (hargs : args.length = 1) (hw : B_slices_Clip_S_int_int.wp Try.prog (retQ [(1, none)] k) (env0 args 2) h) : CallE Try.prog fn_slices_Clip_S_int_int args h k := enter Try.func56 rfl IR_slices_Clip_S_int_int hargs hw

def H_slices_Clone_S_bool_bool : Hint := ⟨[(0, false), (2, false)], []⟩
def K125_1 : Pl := .st (.act none (.px (some 1) (.mv (.v 4)))) .done
@[simp] def W125_1 := @Pl.wpe _ _ K125_1.eq_1
def K125_2 : C := .seq (.pl <| .st (.ext 2 3) <|
    .st (.act none (.psl 2 [] [])) <|
    .st (.act none (.px (some 3) (.mv (.v 0)))) <|
    .st (.act none (.ex (some 4) (.app 1 1 [.bool false] (.p 0 2) (.o (.v 3))))) K125_1) (.ret)
@[simp] def W125_2 := @C.wpe _ _ K125_2.eq_1
def K125_3 : C := .seq (.pl <| .st (.ext 2 0) <|
    .st (.act none (.px (some 1) (.mv (.c (.slice none 0 0))))) .done) (.ret)
@[simp] def W125_3 := @C.wpe _ _ K125_3.eq_1
def K125_4 : C := .cond 2 (.v 3) K125_3 (.skip)
@[simp] def W125_4 := @C.wpe _ _ K125_4.eq_1
def K125_5 : C := .seq (.seq (.pl <| .st (.ext 2 2) <|
    .st (.act none (.px (some 2) (.mv (.v 0)))) <|
    .st (.act none (.px (some 3) (.isNil false (.v 2)))) .done) K125_4) K125_2
@[simp] def W125_5 := @C.wpe _ _ K125_5.eq_1
def B_slices_Clone_S_bool_bool : C := .seq (.pl <| .st (.ext 2 0) <|
    .st (.act none (.px (some 1) (.mv (.c (.slice none 0 0))))) .done) K125_5
@[simp] def WB_slices_Clone_S_bool_bool := @C.wpe _ _ B_slices_Clone_S_bool_bool.eq_1
def R_slices_Clone_S_bool_bool : FIR := ⟨B_slices_Clone_S_bool_bool, 2, [(1, none)]⟩
theorem IR_slices_Clone_S_bool_bool : cfun Try.prog H_slices_Clone_S_bool_bool Try.f125 = some R_slices_Clone_S_bool_bool := by kernel_rfl
theorem EN_slices_Clone_S_bool_bool {args : List Value} {h : Heap} {k : Value → Heap → Prop} (hargs : args.length = 1) (hw : B_slices_Clone_S_bool_bool.wp Try.prog (retQ [(1, none)] k) (env0 args 2) h) : CallE Try.prog fn_slices_Clone_S_bool_bool args h k := enter Try.func125 rfl IR_slices_Clone_S_bool_bool hargs hw

def H_slices_Clone_S_impl_Transition_impl_Transition : Hint := ⟨[(0, false), (2, false)], []⟩
def K127_1 : Pl := .st (.act none (.px (some 1) (.mv (.v 4)))) .done
@[simp] def W127_1 := @Pl.wpe _ _ K127_1.eq_1
def K127_2 : C := .seq (.pl <| .st (.ext 2 3) <|
    .st (.act none (.psl 2 [] [])) <|
    .st (.act none (.px (some 3) (.mv (.v 0)))) <|
    .st (.act none (.ex (some 4) (.app 32 4 [.int .i64 0, .int .i64 0, .int .i64 0, .int .i64 0] (.p 0 2) (.o (.v 3))))) K127_1) (.ret)
@[simp] def W127_2 := @C.wpe _ _ K127_2.eq_1
def K127_3 : C := .seq (.pl <| .st (.ext 2 0) <|
    .st (.act none (.px (some 1) (.mv (.c (.slice none 0 0))))) .done) (.ret)
@[simp] def W127_3 := @C.wpe _ _ K127_3.eq_1
def K127_4 : C := .cond 2 (.v 3) K127_3 (.skip)
@[simp] def W127_4 := @C.wpe _ _ K127_4.eq_1
def K127_5 : C := .seq (.seq (.pl <| .st (.ext 2 2) <|
    .st (.act none (.px (some 2) (.mv (.v 0)))) <|
    .st (.act none (.px (some 3) (.isNil false (.v 2)))) .done) K127_4) K127_2
@[simp] def W127_5 := @C.wpe _ _ K127_5.eq_1
def B_slices_Clone_S_impl_Transition_impl_Transition : C := .seq (.pl <| .st (.ext 2 0) <|
    .st (.act none (.px (some 1) (.mv (.c (.slice none 0 0))))) .done) K127_5
@[simp] def WB_slices_Clone_S_impl_Transition_impl_Transition := @C.wpe _ _ B_slices_Clone_S_impl_Transition_impl_Transition.eq_1
def R_slices_Clone_S_impl_Transition_impl_Transition : FIR := ⟨B_slices_Clone_S_impl_Transition_impl_Transition, 2, [(1, none)]⟩
theorem IR_slices_Clone_S_impl_Transition_impl_Transition : cfun Try.prog H_slices_Clone_S_impl_Transition_impl_Transition Try.f127 = some R_slices_Clone_S_impl_Transition_impl_Transition := by kernel_rfl
theorem EN_slices_Clone_S_impl_Transition_impl_Transition {args : List Value} {h : Heap} {k : Value → Heap → Prop} (hargs : args.length = 1) (hw : B_slices_Clone_S_impl_Transition_impl_Transition.wp Try.prog (retQ [(1, none)] k) (env0 args 2) h) : CallE Try.prog fn_slices_Clone_S_impl_Transition_impl_Transition args h k := enter Try.func127 rfl IR_slices_Clone_S_impl_Transition_impl_Transition hargs hw

def H_slices_Clone_S_int_int : Hint := ⟨[(0, false), (2, false)], []⟩
def K121_1 : Pl := .st (.act none (.px (some 1) (.mv (.v 4)))) .done
@[simp] def W121_1 := @Pl.wpe _ _ K121_1.eq_1
def K121_2 : C := .seq (.pl <| .st (.ext 2 3) <|
    .st (.act none (.psl 2 [] [])) <|
    .st (.act none (.px (some 3) (.mv (.v 0)))) <|
    .st (.act none (.ex (some 4) (.app 8 1 [.int .i64 0] (.p 0 2) (.o (.v 3))))) K121_1) (.ret)
@[simp] def W121_2 := @C.wpe _ _ K121_2.eq_1
def K121_3 : C := .seq (.pl <| .st (.ext 2 0) <|
    .st (.act none (.px (some 1) (.mv (.c (.slice none 0 0))))) .done) (.ret)
@[simp] def W121_3 := @C.wpe _ _ K121_3.eq_1
def K121_4 : C := .cond 2 (.v 3) K121_3 (.skip)
@[simp] def W121_4 := @C.wpe _ _ K121_4.eq_1
def K121_5 : C := .seq (.seq (.pl <| .st (.ext 2 2) <|
    .st (.act none (.px (some 2) (.mv (.v 0)))) <|
    .st (.act none (.px (some 3) (.isNil false (.v 2)))) .done) K121_4) K121_2
@[simp] def W121_5 := @C.wpe _ _ K121_5.eq_1
def B_slices_Clone_S_int_int : C := .seq (.pl <| .st (.ext 2 0) <|
    .st (.act none (.px (some 1) (.mv (.c (.slice none 0 0))))) .done) K121_5
@[simp] def WB_slices_Clone_S_int_int := @C.wpe _ _ B_slices_Clone_S_int_int.eq_1
def R_slices_Clone_S_int_int : FIR := ⟨B_slices_Clone_S_int_int, 2, [(1, none)]⟩
theorem IR_slices_Clone_S_int_int : cfun Try.prog H_slices_Clone_S_int_int Try.f121 = some R_slices_Clone_S_int_int := by kernel_rfl
theorem EN_slices_Clone_S_int_int {args : List Value} {h : Heap} {k : Value → Heap → Prop} (hargs : args.length = 1) (hw : B_slices_Clone_S_int_int.wp Try.prog (retQ [(1, none)] k) (env0 args 2) h) : CallE Try.prog fn_slices_Clone_S_int_int args h k := enter Try.func121 rfl IR_slices_Clone_S_int_int hargs hw

def H_slices_ContainsFunc_S_impl_Transition_impl_Transition : Hint := ⟨[(0, false), (1, false), (4, false)], []⟩
def K66_1 : Pl := .st (.act none (.px (some 6) (.bin .geq (.v 5) (.c (.int .i64 0))))) <|
    .st (.act none (.px (some 2) (.mv (.v 6)))) .done
@[simp] def W66_1 := @Pl.wpe _ _ K66_1.eq_1
def K66_2 : C := .seq (.pl <| .st (.ext 3 4) <|
    .st (.act none (.px (some 3) (.mv (.v 0)))) <|
    .st (.act none (.px (some 4) (.mv (.v 1)))) <|
    .st (.act none (.ex (some 5) (.call fn_slices_IndexFunc_S_impl_Transition_impl_Transition [.v 3, .v 4]))) K66_1) (.ret)
@[simp] def W66_2 := @C.wpe _ _ K66_2.eq_1
def B_slices_ContainsFunc_S_impl_Transition_impl_Transition : C := .seq (.pl <| .st (.ext 3 0) <|
    .st (.act none (.px (some 2) (.mv (.c (.bool false))))) .done) K66_2
@[simp] def WB_slices_ContainsFunc_S_impl_Transition_impl_Transition := @C.wpe _ _ B_slices_ContainsFunc_S_impl_Transition_impl_Transition.eq_1
def R_slices_ContainsFunc_S_impl_Transition_impl_Transition : FIR := ⟨B_slices_ContainsFunc_S_impl_Transition_impl_Transition, 3, [(2, none)]⟩
theorem IR_slices_ContainsFunc_S_impl_Transition_impl_Transition : cfun Try.prog H_slices_ContainsFunc_S_impl_Transition_impl_Transition Try.f66 = some R_slices_ContainsFunc_S_impl_Transition_impl_Transition := by kernel_rfl
theorem EN_slices_ContainsFunc_S_impl_Transition_impl_Transition {args : List Value} {h : Heap} {k : Value → Heap → Prop} (hargs : args.length = 2) (hw : B_slices_ContainsFunc_S_impl_Transition_impl_Transition.wp Try.prog (retQ [(2, none)] k) (env0 args 3) h) : CallE Try.prog fn_slices_ContainsFunc_S_impl_Transition_impl_Transition args h k := enter Try.func66 rfl IR_slices_ContainsFunc_S_impl_Transition_impl_Transition hargs hw

def H_slices_Contains_S_int_int : Hint := ⟨[(0, false), (1, false), (4, false)], []⟩
def K123_1 : Pl := .st (.act none (.px (some 6) (.bin .geq (.v 5) (.c (.int .i64 0))))) <|
    .st (.act none (.px (some 2) (.mv (.v 6)))) .done
@[simp] def W123_1 := @Pl.wpe _ _ K123_1.eq_1
def K123_2 : C := .seq (.pl <| .st (.ext 3 4) <|
    .st (.act none (.px (some 3) (.mv (.v 0)))) <|
    .st (.act none (.px (some 4) (.mv (.v 1)))) <|
    .st (.act none (.ex (some 5) (.call fn_slices_Index_S_int_int [.v 3, .v 4]))) K123_1) (.ret)
@[simp] def W123_2 := @C.wpe _ _ K123_2.eq_1
def B_slices_Contains_S_int_int : C := .seq (.pl <| .st (.ext 3 0) <|
    .st (.act none (.px (some 2) (.mv (.c (.bool false))))) .done) K123_2
@[simp] def WB_slices_Contains_S_int_int := @C.wpe _ _ B_slices_Contains_S_int_int.eq_1
def R_slices_Contains_S_int_int : FIR := ⟨B_slices_Contains_S_int_int, 3, [(2, none)]⟩
theorem IR_slices_Contains_S_int_int : cfun Try.prog H_slices_Contains_S_int_int Try.f123 = some R_slices_Contains_S_int_int := by kernel_rfl
theorem EN_slices_Contains_S_int_int {args : List Value} {h : Heap} {k : Value → Heap → Prop} (hargs : args.length = 2) (hw : B_slices_Contains_S_int_int.wp Try.prog (retQ [(2, none)] k) (env0 args 3) h) : CallE Try.prog fn_slices_Contains_S_int_int args h k := enter Try.func123 rfl IR_slices_Contains_S_int_int hargs hw

def H_slices_IndexFunc_S_impl_Transition_impl_Transition : Hint := ⟨[(0, false), (1, false), (4, false), (5, false), (7, false), (8, false)], [[2, 3]]⟩
def K100_1 : C := .seq (.pl <| .st (.ext 6 0) <|
    .st (.act none (.px (some 2) (.mv (.c (.int .i64 (-1)))))) .done) (.ret)
@[simp] def W100_1 := @C.wpe _ _ K100_1.eq_1
def K100_2 : C := .pl <| .st (.ext 6 1) <|
    .st (.act none (.px (some 6) (.bin .add (.v 5) (.c (.int .i64 1))))) <|
    .st (.act none (.px (some 5) (.mv (.v 6)))) .done
@[simp] def W100_2 := @C.wpe _ _ K100_2.eq_1
def K100_3 : C := .seq (.pl <| .st (.ext 6 1) <|
    .st (.act none (.px (some 6) (.mv (.v 3)))) <|
    .st (.act none (.px (some 2) (.mv (.v 6)))) .done) (.ret)
@[simp] def W100_3 := @C.wpe _ _ K100_3.eq_1
def K100_4 : C := .cond 6 (.v 11) K100_3 (.skip)
@[simp] def W100_4 := @C.wpe _ _ K100_4.eq_1
def K100_5 : C := .seq (.pl <| .st (.ext 6 6) <|
    .st (.act none (.px (some 6) (.mv (.v 1)))) <|
    .st (.act none (.px (some 7) (.mv (.v 0)))) <|
    .st (.act none (.px (some 8) (.mv (.v 3)))) <|
    .st (.act none (.px (some 9) (.ia 4 (.v 7) (.v 8)))) <|
    .st (.act none (.ld (some 10) (.v 9) (some 4))) <|
    .st (.act none (.ex (some 11) (.callv (.v 6) [.v 10]))) .done) K100_4
@[simp] def W100_5 := @C.wpe _ _ K100_5.eq_1
def K100_6 : C := .seq (.block 1 (.seq (.pl <| .st (.ext 6 1) <|
    .st (.act none (.px (some 6) (.mv (.v 5)))) <|
    .st (.act none (.px (some 3) (.mv (.v 6)))) .done) K100_5)) K100_2
@[simp] def W100_6 := @C.wpe _ _ K100_6.eq_1
def K100_7 : C := .seq (.cond 6 (.v 6) (.skip) (.exit 0)) K100_6
@[simp] def W100_7 := @C.wpe _ _ K100_7.eq_1
def K100_8 : C := .seq (.pl <| .st (.ext 6 1) <|
    .st (.act none (.px (some 6) (.bin .lss (.v 5) (.v 4)))) .done) K100_7
@[simp] def W100_8 := @C.wpe _ _ K100_8.eq_1
def K100_9 : C := .block 0 (.loop 6 [2, 3] K100_8)
@[simp] def W100_9 := @C.wpe _ _ K100_9.eq_1
def K100_10 : C := .seq (.seq (.pl <| .st (.ext 6 1) <|
    .st (.act none (.px (some 6) (.mv (.v 0)))) <|
    .st (.act none (.px (some 4) (.lenV (.v 6)))) <|
    .st (.act none (.px (some 5) (.mv (.c (.int .i64 0))))) .done) K100_9) K100_1
@[simp] def W100_10 := @C.wpe _ _ K100_10.eq_1
def B_slices_IndexFunc_S_impl_Transition_impl_Transition : C := .seq (.pl <| .st (.ext 6 0) <|
    .st (.act none (.px (some 2) (.mv (.c (.int .i64 0))))) .done) K100_10
@[simp] def WB_slices_IndexFunc_S_impl_Transition_impl_Transition := @C.wpe _ _ B_slices_IndexFunc_S_impl_Transition_impl_Transition.eq_1
def R_slices_IndexFunc_S_impl_Transition_impl_Transition : FIR := ⟨B_slices_IndexFunc_S_impl_Transition_impl_Transition, 6, [(2, none)]⟩
theorem IR_slices_IndexFunc_S_impl_Transition_impl_Transition : cfun Try.prog H_slices_IndexFunc_S_impl_Transition_impl_Transition Try.f100 = some R_slices_IndexFunc_S_impl_Transition_impl_Transition := by kernel_rfl
theorem EN_slices_IndexFunc_S_impl_Transition_impl_Transition {args : List Value} {h : Heap} {k : Value → Heap → Prop} (hargs : args.length = 2) (hw : B_slices_IndexFunc_S_impl_Transition_impl_Transition.wp Try.prog (retQ [(2, none)] k) (env0 args 6) h) : CallE Try.prog fn_slices_IndexFunc_S_impl_Transition_impl_Transition args h k := enter Try.func100 rfl IR_slices_IndexFunc_S_impl_Transition_impl_Transition hargs hw

def H_slices_Index_S_int_int : Hint := ⟨[(0, false), (1, false), (4, false), (5, false), (7, false), (8, false)], [[2, 3]]⟩
def K144_1 : C := .seq (.pl <| .st (.ext 6 0) <|
    .st (.act none (.px (some 2) (.mv (.c (.int .i64 (-1)))))) .done) (.ret)
@[simp] def W144_1 := @C.wpe _ _ K144_1.eq_1
def K144_2 : C := .pl <| .st (.ext 6 1) <|
    .st (.act none (.px (some 6) (.bin .add (.v 5) (.c (.int .i64 1))))) <|
    .st (.act none (.px (some 5) (.mv (.v 6)))) .done
@[simp] def W144_2 := @C.wpe _ _ K144_2.eq_1
def K144_3 : C := .seq (.pl <| .st (.ext 6 1) <|
    .st (.act none (.px (some 6) (.mv (.v 3)))) <|
    .st (.act none (.px (some 2) (.mv (.v 6)))) .done) (.ret)
@[simp] def W144_3 := @C.wpe _ _ K144_3.eq_1
def K144_4 : C := .cond 6 (.v 11) K144_3 (.skip)
@[simp] def W144_4 := @C.wpe _ _ K144_4.eq_1
def K144_5 : C := .seq (.pl <| .st (.ext 6 6) <|
    .st (.act none (.px (some 6) (.mv (.v 1)))) <|
    .st (.act none (.px (some 7) (.mv (.v 0)))) <|
    .st (.act none (.px (some 8) (.mv (.v 3)))) <|
    .st (.act none (.px (some 9) (.ia 1 (.v 7) (.v 8)))) <|
    .st (.act none (.ld (some 10) (.v 9) none)) <|
    .st (.act none (.px (some 11) (.bin .eql (.v 6) (.v 10)))) .done) K144_4
@[simp] def W144_5 := @C.wpe _ _ K144_5.eq_1
def K144_6 : C := .seq (.block 1 (.seq (.pl <| .st (.ext 6 1) <|
    .st (.act none (.px (some 6) (.mv (.v 5)))) <|
    .st (.act none (.px (some 3) (.mv (.v 6)))) .done) K144_5)) K144_2
@[simp] def W144_6 := @C.wpe _ _ K144_6.eq_1
def K144_7 : C := .seq (.cond 6 (.v 6) (.skip) (.exit 0)) K144_6
@[simp] def W144_7 := @C.wpe _ _ K144_7.eq_1
def K144_8 : C := .seq (.pl <| .st (.ext 6 1) <|
    .st (.act none (.px (some 6) (.bin .lss (.v 5) (.v 4)))) .done) K144_7
@[simp] def W144_8 := @C.wpe _ _ K144_8.eq_1
def K144_9 : C := .block 0 (.loop 6 [2, 3] K144_8)
@[simp] def W144_9 := @C.wpe _ _ K144_9.eq_1
def K144_10 : C := .seq (.seq (.pl <| .st (.ext 6 1) <|
    .st (.act none (.px (some 6) (.mv (.v 0)))) <|
    .st (.act none (.px (some 4) (.lenV (.v 6)))) <|
    .st (.act none (.px (some 5) (.mv (.c (.int .i64 0))))) .done) K144_9) K144_1
@[simp] def W144_10 := @C.wpe _ _ K144_10.eq_1
def B_slices_Index_S_int_int : C := .seq (.pl <| .st (.ext 6 0) <|
    .st (.act none (.px (some 2) (.mv (.c (.int .i64 0))))) .done) K144_10
@[simp] def WB_slices_Index_S_int_int := @C.wpe _ _ B_slices_Index_S_int_int.eq_1
def R_slices_Index_S_int_int : FIR := ⟨B_slices_Index_S_int_int, 6, [(2, none)]⟩
theorem IR_slices_Index_S_int_int : cfun Try.prog H_slices_Index_S_int_int Try.f144 = some R_slices_Index_S_int_int := by kernel_rfl
theorem EN_slices_Index_S_int_int {args : List Value} {h : Heap} {k : Value → Heap → Prop} (hargs : args.length = 2) (hw : B_slices_Index_S_int_int.wp Try.prog (retQ [(2, none)] k) (env0 args 6) h) : CallE Try.prog fn_slices_Index_S_int_int args h k := enter Try.func144 rfl IR_slices_Index_S_int_int hargs hw

def H_spec_AutomatonValid : Hint := ⟨[(0, false), (1, true), (2, false), (3, false), (4, false), (5, false)], [[0, 2, 5], [0, 2, 4]]⟩
def K33_1 : C := .seq (.pl <| .st (.ext 6 0) <|
    .st (.act none (.px (some 2) (.mv (.c (.bool true))))) .done) (.ret)
@[simp] def W33_1 := @C.wpe _ _ K33_1.eq_1
def K33_2 : C := .pl <| .st (.ext 6 2) <|
    .st (.act none (.px (some 6) (.mv (.v 5)))) <|
    .st (.act none (.px (some 7) (.bin .add (.v 6) (.c (.int .i64 1))))) <|
    .st (.act none (.px (some 5) (.mv (.v 7)))) .done
@[simp] def W33_2 := @C.wpe _ _ K33_2.eq_1
def K33_3 : C := .seq (.pl <| .st (.ext 6 0) <|
    .st (.act none (.px (some 2) (.mv (.c (.bool false))))) .done) (.ret)
@[simp] def W33_3 := @C.wpe _ _ K33_3.eq_1
def K33_4 : C := .cond 6 (.v 13) K33_3 (.skip)
@[simp] def W33_4 := @C.wpe _ _ K33_4.eq_1
def K33_5 : Pl := .st (.act none (.px (some 13) (.un .not (.v 12)))) .done
@[simp] def W33_5 := @Pl.wpe _ _ K33_5.eq_1
def K33_6 : C := .seq (.block 3 (.seq (.pl <| .st (.ext 6 8) <|
    .st (.act none (.als 6 none 1)) <|
    .st (.act none (.pget (some 7) (some 6) 1 2 none)) <|
    .st (.act none (.px (some 8) (.mv (.v 5)))) <|
    .st (.act none (.px (some 9) (.ia 4 (.v 7) (.v 8)))) <|
    .st (.act none (.ld (some 10) (.v 9) (some 4))) <|
    .st (.act none (.px (some 11) (.mv (.v 3)))) <|
    .st (.act none (.ex (some 12) (.call fn_spec_l7Edge [.v 10, .v 11]))) K33_5) K33_4)) K33_2
@[simp] def W33_6 := @C.wpe _ _ K33_6.eq_1
def K33_7 : C := .cond 6 (.v 10) (.skip) (.exit 2)
@[simp] def W33_7 := @C.wpe _ _ K33_7.eq_1
def K33_8 : C := .seq (.seq (.pl <| .st (.ext 6 5) <|
    .st (.act none (.px (some 6) (.mv (.v 5)))) <|
    .st (.act none (.als 7 none 1)) <|
    .st (.act none (.pget (some 8) (some 7) 1 2 none)) <|
    .st (.act none (.px (some 9) (.lenV (.v 8)))) <|
    .st (.act none (.px (some 10) (.bin .lss (.v 6) (.v 9)))) .done) K33_7) K33_6
@[simp] def W33_8 := @C.wpe _ _ K33_8.eq_1
def K33_9 : C := .block 2 (.loop 6 [0, 2, 4] K33_8)
@[simp] def W33_9 := @C.wpe _ _ K33_9.eq_1
def K33_10 : C := .seq (.seq (.pl <| .st (.ext 6 0) <|
    .st (.act none (.px (some 5) (.mv (.c (.int .i64 0))))) .done) K33_9) K33_1
@[simp] def W33_10 := @C.wpe _ _ K33_10.eq_1
def K33_11 : C := .pl <| .st (.ext 6 2) <|
    .st (.act none (.px (some 6) (.mv (.v 4)))) <|
    .st (.act none (.px (some 7) (.bin .add (.v 6) (.c (.int .i64 1))))) <|
    .st (.act none (.px (some 4) (.mv (.v 7)))) .done
@[simp] def W33_11 := @C.wpe _ _ K33_11.eq_1
def K33_12 : C := .seq (.pl <| .st (.ext 6 0) <|
    .st (.act none (.px (some 2) (.mv (.c (.bool false))))) .done) (.ret)
@[simp] def W33_12 := @C.wpe _ _ K33_12.eq_1
def K33_13 : C := .cond 6 (.v 38) K33_12 (.skip)
@[simp] def W33_13 := @C.wpe _ _ K33_13.eq_1
def K33_14 : C := .seq (.block 1 (.seq (.pl <| .st (.ext 6 33) <|
    .st (.act none (.als 6 none 1)) <|
    .st (.act none (.pget (some 7) (some 6) 1 0 none)) <|
    .st (.act none (.px (some 8) (.mv (.v 4)))) <|
    .st (.act none (.px (some 9) (.ia 1 (.v 7) (.v 8)))) <|
    .st (.act none (.ld (some 10) (.v 9) none)) <|
    .st (.act none (.px (some 11) (.bin .lss (.v 10) (.c (.int .i64 0))))) <|
    .st (.act none (.px (some 12) (.mv (.v 11)))) <|
    .st (.act (some (.v 12, false)) (.als 13 none 1)) <|
    .st (.act (some (.v 12, false)) (.pget (some 14) (some 13) 1 0 none)) <|
    .st (.act (some (.v 12, false)) (.px (some 15) (.mv (.v 4)))) <|
    .st (.act (some (.v 12, false)) (.px (some 16) (.ia 1 (.v 14) (.v 15)))) <|
    .st (.act (some (.v 12, false)) (.ld (some 17) (.v 16) none)) <|
    .st (.act (some (.v 12, false)) (.px (some 18) (.mv (.v 3)))) <|
    .st (.act (some (.v 12, false)) (.px (some 19) (.bin .geq (.v 17) (.v 18)))) <|
    .st (.act none (.px (some 20) (.pick (.v 12) (.c (.bool true)) (.v 19)))) <|
    .st (.act none (.px (some 21) (.mv (.v 20)))) <|
    .st (.act (some (.v 21, false)) (.px (some 22) (.mv (.v 4)))) <|
    .st (.act (some (.v 21, false)) (.px (some 23) (.bin .gtr (.v 22) (.c (.int .i64 0))))) <|
    .st (.act (some (.v 21, false)) (.px (some 24) (.mv (.v 23)))) <|
    .st (.act (some (.v 24, true)) (.als 25 none 1)) <|
    .st (.act (some (.v 24, true)) (.pget (some 26) (some 25) 1 0 none)) <|
    .st (.act (some (.v 24, true)) (.px (some 27) (.mv (.v 4)))) <|
    .st (.act (some (.v 24, true)) (.px (some 28) (.bin .sub (.v 27) (.c (.int .i64 1))))) <|
    .st (.act (some (.v 24, true)) (.px (some 29) (.ia 1 (.v 26) (.v 28)))) <|
    .st (.act (some (.v 24, true)) (.ld (some 30) (.v 29) none)) <|
    .st (.act (some (.v 24, true)) (.als 31 none 1)) <|
    .st (.act (some (.v 24, true)) (.pget (some 32) (some 31) 1 0 none)) <|
    .st (.act (some (.v 24, true)) (.px (some 33) (.mv (.v 4)))) <|
    .st (.act (some (.v 24, true)) (.px (some 34) (.ia 1 (.v 32) (.v 33)))) <|
    .st (.act (some (.v 24, true)) (.ld (some 35) (.v 34) none)) <|
    .st (.act (some (.v 24, true)) (.px (some 36) (.bin .geq (.v 30) (.v 35)))) <|
    .st (.act (some (.v 21, false)) (.px (some 37) (.pick (.v 24) (.v 36) (.c (.bool false))))) <|
    .st (.act none (.px (some 38) (.pick (.v 21) (.c (.bool true)) (.v 37)))) .done) K33_13)) K33_11
@[simp] def W33_14 := @C.wpe _ _ K33_14.eq_1
def K33_15 : C := .cond 6 (.v 10) (.skip) (.exit 0)
@[simp] def W33_15 := @C.wpe _ _ K33_15.eq_1
def K33_16 : C := .seq (.seq (.pl <| .st (.ext 6 5) <|
    .st (.act none (.px (some 6) (.mv (.v 4)))) <|
    .st (.act none (.als 7 none 1)) <|
    .st (.act none (.pget (some 8) (some 7) 1 0 none)) <|
    .st (.act none (.px (some 9) (.lenV (.v 8)))) <|
    .st (.act none (.px (some 10) (.bin .lss (.v 6) (.v 9)))) .done) K33_15) K33_14
@[simp] def W33_16 := @C.wpe _ _ K33_16.eq_1
def K33_17 : C := .block 0 (.loop 6 [0, 2, 5] K33_16)
@[simp] def W33_17 := @C.wpe _ _ K33_17.eq_1
def K33_18 : C := .seq (.seq (.pl <| .st (.ext 6 0) <|
    .st (.act none (.px (some 4) (.mv (.c (.int .i64 0))))) .done) K33_17) K33_10
@[simp] def W33_18 := @C.wpe _ _ K33_18.eq_1
def K33_19 : C := .seq (.pl <| .st (.ext 6 0) <|
    .st (.act none (.px (some 2) (.mv (.c (.bool false))))) .done) (.ret)
@[simp] def W33_19 := @C.wpe _ _ K33_19.eq_1
def K33_20 : C := .cond 6 (.v 24) K33_19 (.skip)
@[simp] def W33_20 := @C.wpe _ _ K33_20.eq_1
def K33_21 : C := .seq (.seq (.pl <| .st (.ext 6 19) <|
    .st (.act none (.px (some 6) (.mv (.v 3)))) <|
    .st (.act none (.px (some 7) (.bin .lss (.v 6) (.c (.int .i64 1))))) <|
    .st (.act none (.px (some 8) (.mv (.v 7)))) <|
    .st (.act (some (.v 8, false)) (.px (some 9) (.mv (.v 3)))) <|
    .st (.act (some (.v 8, false)) (.px (some 10) (.bin .gtr (.v 9) (.c (.int .i64 64))))) <|
    .st (.act none (.px (some 11) (.pick (.v 8) (.c (.bool true)) (.v 10)))) <|
    .st (.act none (.px (some 12) (.mv (.v 11)))) <|
    .st (.act (some (.v 12, false)) (.als 13 none 1)) <|
    .st (.act (some (.v 12, false)) (.pget (some 14) (some 13) 1 0 none)) <|
    .st (.act (some (.v 12, false)) (.px (some 15) (.lenV (.v 14)))) <|
    .st (.act (some (.v 12, false)) (.px (some 16) (.mv (.v 3)))) <|
    .st (.act (some (.v 12, false)) (.px (some 17) (.bin .gtr (.v 15) (.v 16)))) <|
    .st (.act none (.px (some 18) (.pick (.v 12) (.c (.bool true)) (.v 17)))) <|
    .st (.act none (.px (some 19) (.mv (.v 18)))) <|
    .st (.act (some (.v 19, false)) (.als 20 none 1)) <|
    .st (.act (some (.v 19, false)) (.pget (some 21) (some 20) 1 2 none)) <|
    .st (.act (some (.v 19, false)) (.px (some 22) (.lenV (.v 21)))) <|
    .st (.act (some (.v 19, false)) (.px (some 23) (.bin .gtr (.v 22) (.c (.int .i64 2048))))) <|
    .st (.act none (.px (some 24) (.pick (.v 19) (.c (.bool true)) (.v 23)))) .done) K33_20) K33_18
@[simp] def W33_21 := @C.wpe _ _ K33_21.eq_1
def K33_22 : C := .seq (.pl <| .st (.ext 6 3) <|
    .st (.act none (.als 6 none 1)) <|
    .st (.act none (.pget (some 7) (some 6) 1 1 none)) <|
    .st (.act none (.px (some 8) (.lenV (.v 7)))) <|
    .st (.act none (.px (some 3) (.mv (.v 8)))) .done) K33_21
@[simp] def W33_22 := @C.wpe _ _ K33_22.eq_1
def B_spec_AutomatonValid : C := .seq (.pl <| .st (.ext 6 0) <|
    .st (.act none (.pnew 1 (.v 0) [])) <|
    .st (.act none (.px (some 2) (.mv (.c (.bool false))))) .done) K33_22
@[simp] def WB_spec_AutomatonValid := @C.wpe _ _ B_spec_AutomatonValid.eq_1
def R_spec_AutomatonValid : FIR := ⟨B_spec_AutomatonValid, 6, [(2, none)]⟩
theorem IR_spec_AutomatonValid : cfun Try.prog H_spec_AutomatonValid Try.f33 = some R_spec_AutomatonValid := by kernel_rfl
theorem EN_spec_AutomatonValid {args : List Value} {h : Heap} {k : Value → Heap → Prop} (hargs : args.length = 1) (hw : B_spec_AutomatonValid.wp Try.prog (retQ [(2, none)] k) (env0 args 6) h) : CallE Try.prog fn_spec_AutomatonValid args h k := enter Try.func33 rfl IR_spec_AutomatonValid hargs hw

def H_spec_LiveStates : Hint := ⟨[(0, false), (1, true), (2, false), (3, false), (4, false), (5, false), (6, false), (7, false), (8, false)], [[0, 2, 6, 7, 8], [0, 2]]⟩
def K60_1 : C := .seq (.pl <| .st (.ext 9 1) <|
    .st (.act none (.px (some 9) (.mv (.v 3)))) <|
    .st (.act none (.px (some 2) (.mv (.v 9)))) .done) (.ret)
@[simp] def W60_1 := @C.wpe _ _ K60_1.eq_1
def K60_2 : C := .pl <| .st (.ext 9 2) <|
    .st (.act none (.px (some 9) (.mv (.v 5)))) <|
    .st (.act none (.px (some 10) (.bin .add (.v 9) (.c (.int .i64 1))))) <|
    .st (.act none (.px (some 5) (.mv (.v 10)))) .done
@[simp] def W60_2 := @C.wpe _ _ K60_2.eq_1
def K60_3 : Pl := .st (.act none (.px (some 3) (.mv (.v 12)))) .done
@[simp] def W60_3 := @Pl.wpe _ _ K60_3.eq_1
def K60_4 : C := .pl <| .st (.ext 9 4) <|
    .st (.act none (.px (some 9) (.mv (.v 3)))) <|
    .st (.act none (.px (some 10) (.mv (.v 7)))) <|
    .st (.act none (.psl 11 [.bool false] [(0, 1, .v 10)])) <|
    .st (.act none (.ex (some 12) (.app 1 1 [.bool false] (.o (.v 9)) (.p 1 11)))) K60_3
@[simp] def W60_4 := @C.wpe _ _ K60_4.eq_1
def K60_5 : C := .pl <| .st (.ext 9 2) <|
    .st (.act none (.px (some 9) (.mv (.v 8)))) <|
    .st (.act none (.px (some 10) (.bin .add (.v 9) (.c (.int .i64 1))))) <|
    .st (.act none (.px (some 8) (.mv (.v 10)))) .done
@[simp] def W60_5 := @C.wpe _ _ K60_5.eq_1
def K60_6 : Pl := .st (.act none (.px (some 24) (.pick (.v 17) (.v 23) (.c (.bool false))))) <|
    .st (.act none (.px (some 7) (.mv (.v 24)))) .done
@[simp] def W60_6 := @Pl.wpe _ _ K60_6.eq_1
def K60_7 : C := .seq (.block 3 (.pl <| .st (.ext 9 16) <|
    .st (.act none (.als 9 none 1)) <|
    .st (.act none (.pget (some 10) (some 9) 1 1 none)) <|
    .st (.act none (.px (some 11) (.mv (.v 6)))) <|
    .st (.act none (.px (some 12) (.mv (.v 8)))) <|
    .st (.act none (.px (some 13) (.ia 1 (.v 11) (.v 12)))) <|
    .st (.act none (.ld (some 14) (.v 13) none)) <|
    .st (.act none (.px (some 15) (.ia 1 (.v 10) (.v 14)))) <|
    .st (.act none (.ld (some 16) (.v 15) none)) <|
    .st (.act none (.px (some 17) (.mv (.v 16)))) <|
    .st (.act (some (.v 17, true)) (.px (some 18) (.mv (.v 4)))) <|
    .st (.act (some (.v 17, true)) (.px (some 19) (.mv (.v 6)))) <|
    .st (.act (some (.v 17, true)) (.px (some 20) (.mv (.v 8)))) <|
    .st (.act (some (.v 17, true)) (.px (some 21) (.ia 1 (.v 19) (.v 20)))) <|
    .st (.act (some (.v 17, true)) (.ld (some 22) (.v 21) none)) <|
    .st (.act (some (.v 17, true)) (.ex (some 23) (.call fn_spec_l7Loop [.v 18, .v 22]))) K60_6)) K60_5
@[simp] def W60_7 := @C.wpe _ _ K60_7.eq_1
def K60_8 : C := .cond 9 (.v 16) (.skip) (.exit 2)
@[simp] def W60_8 := @C.wpe _ _ K60_8.eq_1
def K60_9 : C := .seq (.seq (.pl <| .st (.ext 9 8) <|
    .st (.act none (.px (some 9) (.mv (.v 8)))) <|
    .st (.act none (.px (some 10) (.mv (.v 6)))) <|
    .st (.act none (.px (some 11) (.lenV (.v 10)))) <|
    .st (.act none (.px (some 12) (.bin .lss (.v 9) (.v 11)))) <|
    .st (.act none (.px (some 13) (.mv (.v 12)))) <|
    .st (.act (some (.v 13, true)) (.px (some 14) (.mv (.v 7)))) <|
    .st (.act (some (.v 13, true)) (.px (some 15) (.un .not (.v 14)))) <|
    .st (.act none (.px (some 16) (.pick (.v 13) (.v 15) (.c (.bool false))))) .done) K60_8) K60_7
@[simp] def W60_9 := @C.wpe _ _ K60_9.eq_1
def K60_10 : C := .block 2 (.loop 9 [0, 2] K60_9)
@[simp] def W60_10 := @C.wpe _ _ K60_10.eq_1
def K60_11 : C := .seq (.seq (.pl <| .st (.ext 9 0) <|
    .st (.act none (.px (some 8) (.mv (.c (.int .i64 0))))) .done) K60_10) K60_4
@[simp] def W60_11 := @C.wpe _ _ K60_11.eq_1
def K60_12 : C := .seq (.pl <| .st (.ext 9 0) <|
    .st (.act none (.px (some 7) (.mv (.c (.bool false))))) .done) K60_11
@[simp] def W60_12 := @C.wpe _ _ K60_12.eq_1
def K60_13 : Pl := .st (.act none (.px (some 6) (.mv (.v 12)))) .done
@[simp] def W60_13 := @Pl.wpe _ _ K60_13.eq_1
def K60_14 : Pl := .st (.act none (.ex (some 12) (.call fn_spec_l7Reach [.v 9, .v 11]))) K60_13
@[simp] def W60_14 := @Pl.wpe _ _ K60_14.eq_1
def K60_15 : C := .seq (.block 1 (.seq (.pl <| .st (.ext 9 4) <|
    .st (.act none (.px (some 9) (.mv (.v 4)))) <|
    .st (.act none (.px (some 10) (.mv (.v 5)))) <|
    .st (.act none (.ex (some 11) (.bls 1 1 [.int .i64 0] [(0, 1, .v 10)]))) K60_14) K60_12)) K60_2
@[simp] def W60_15 := @C.wpe _ _ K60_15.eq_1
def K60_16 : C := .cond 9 (.v 13) (.skip) (.exit 0)
@[simp] def W60_16 := @C.wpe _ _ K60_16.eq_1
def K60_17 : C := .seq (.seq (.pl <| .st (.ext 9 5) <|
    .st (.act none (.px (some 9) (.mv (.v 5)))) <|
    .st (.act none (.als 10 none 1)) <|
    .st (.act none (.pget (some 11) (some 10) 1 1 none)) <|
    .st (.act none (.px (some 12) (.lenV (.v 11)))) <|
    .st (.act none (.px (some 13) (.bin .lss (.v 9) (.v 12)))) .done) K60_16) K60_15
@[simp] def W60_17 := @C.wpe _ _ K60_17.eq_1
def K60_18 : C := .block 0 (.loop 9 [0, 2, 6, 7, 8] K60_17)
@[simp] def W60_18 := @C.wpe _ _ K60_18.eq_1
def K60_19 : C := .seq (.seq (.pl <| .st (.ext 9 0) <|
    .st (.act none (.px (some 5) (.mv (.c (.int .i64 0))))) .done) K60_18) K60_1
@[simp] def W60_19 := @C.wpe _ _ K60_19.eq_1
def K60_20 : Pl := .st (.act none (.px (some 4) (.mv (.v 10)))) .done
@[simp] def W60_20 := @Pl.wpe _ _ K60_20.eq_1
def K60_21 : C := .seq (.pl <| .st (.ext 9 2) <|
    .st (.act none (.pget (some 9) none 1 0 (some 3))) <|
    .st (.act none (.ex (some 10) (.call fn_spec_l7Next [.v 9]))) K60_20) K60_19
@[simp] def W60_21 := @C.wpe _ _ K60_21.eq_1
def K60_22 : C := .seq (.pl <| .st (.ext 9 1) <|
    .st (.act none (.px (some 9) (.mv (.v 3)))) <|
    .st (.act none (.px (some 2) (.mv (.v 9)))) .done) (.ret)
@[simp] def W60_22 := @C.wpe _ _ K60_22.eq_1
def K60_23 : C := .cond 9 (.v 11) K60_22 (.skip)
@[simp] def W60_23 := @C.wpe _ _ K60_23.eq_1
def K60_24 : Pl := .st (.act none (.px (some 11) (.un .not (.v 10)))) .done
@[simp] def W60_24 := @Pl.wpe _ _ K60_24.eq_1
def K60_25 : C := .seq (.seq (.pl <| .st (.ext 9 3) <|
    .st (.act none (.pget (some 9) none 1 0 (some 3))) <|
    .st (.act none (.ex (some 10) (.call fn_spec_AutomatonValid [.v 9]))) K60_24) K60_23) K60_21
@[simp] def W60_25 := @C.wpe _ _ K60_25.eq_1
def K60_26 : Pl := .st (.act none (.px (some 3) (.mv (.v 9)))) .done
@[simp] def W60_26 := @Pl.wpe _ _ K60_26.eq_1
def K60_27 : C := .seq (.pl <| .st (.ext 9 1) <|
    .st (.act none (.ex (some 9) (.bls 1 0 [.bool false] []))) K60_26) K60_25
@[simp] def W60_27 := @C.wpe _ _ K60_27.eq_1
def B_spec_LiveStates : C := .seq (.pl <| .st (.ext 9 0) <|
    .st (.act none (.pnew 1 (.v 0) [])) <|
    .st (.act none (.px (some 2) (.mv (.c (.slice none 0 0))))) .done) K60_27
@[simp] def WB_spec_LiveStates := @C.wpe _ _ B_spec_LiveStates.eq_1
def R_spec_LiveStates : FIR := ⟨B_spec_LiveStates, 9, [(2, none)]⟩
theorem IR_spec_LiveStates : cfun Try.prog H_spec_LiveStates Try.f60 = some R_spec_LiveStates := by kernel_rfl
theorem EN_spec_LiveStates {args : List Value} {h : Heap} {k : Value → Heap → Prop} (hargs : args.length = 1) (hw : B_spec_LiveStates.wp Try.prog (retQ [(2, none)] k) (env0 args 9) h) : CallE Try.prog fn_spec_LiveStates args h k := enter Try.func60 rfl IR_spec_LiveStates hargs hw

def H_spec_TrimAutomaton : Hint := ⟨[(0, false), (1, true), (2, true), (3, false)], []⟩
def K9_1 : Pl := .st (.act none (.pset none 2 0 3 (.v 5))) <|
    .st (.act none (.px (some 3) (.mv (.c (.bool true))))) .done
@[simp] def W9_1 := @Pl.wpe _ _ K9_1.eq_1
def K9_2 : C := .seq (.pl <| .st (.ext 4 2) <|
    .st (.act none (.pget (some 4) none 1 0 (some 3))) <|
    .st (.act none (.ex (some 5) (.call fn_spec_l13Trim [.v 4]))) K9_1) (.ret)
@[simp] def W9_2 := @C.wpe _ _ K9_2.eq_1
def K9_3 : C := .seq (.pl <| .st (.ext 4 1) <|
    .st (.act none (.px (some 4) (.build [.slice none 0 0, .slice none 0 0, .slice none 0 0] []))) <|
    .st (.act none (.pset none 2 0 3 (.v 4))) <|
    .st (.act none (.px (some 3) (.mv (.c (.bool false))))) .done) (.ret)
@[simp] def W9_3 := @C.wpe _ _ K9_3.eq_1
def K9_4 : C := .cond 4 (.v 6) K9_3 (.skip)
@[simp] def W9_4 := @C.wpe _ _ K9_4.eq_1
def K9_5 : Pl := .st (.act none (.px (some 6) (.un .not (.v 5)))) .done
@[simp] def W9_5 := @Pl.wpe _ _ K9_5.eq_1
def K9_6 : C := .seq (.seq (.pl <| .st (.ext 4 3) <|
    .st (.act none (.pget (some 4) none 1 0 (some 3))) <|
    .st (.act none (.ex (some 5) (.call fn_spec_AutomatonValid [.v 4]))) K9_5) K9_4) K9_2
@[simp] def W9_6 := @C.wpe _ _ K9_6.eq_1
def B_spec_TrimAutomaton : C := .seq (.pl <| .st (.ext 4 0) <|
    .st (.act none (.pnew 1 (.v 0) [])) <|
    .st (.act none (.pnew 2 (.c (.agg #[.slice none 0 0, .slice none 0 0, .slice none 0 0])) [])) <|
    .st (.act none (.px (some 3) (.mv (.c (.bool false))))) .done) K9_6
@[simp] def WB_spec_TrimAutomaton := @C.wpe _ _ B_spec_TrimAutomaton.eq_1
def R_spec_TrimAutomaton : FIR := ⟨B_spec_TrimAutomaton, 4, [(2, some (some 3)), (3, none)]⟩
theorem IR_spec_TrimAutomaton : cfun Try.prog H_spec_TrimAutomaton Try.f9 = some R_spec_TrimAutomaton := by kernel_rfl
theorem EN_spec_TrimAutomaton {args : List Value} {h : Heap} {k : Value → Heap → Prop} (hargs : args.length = 1) (hw : B_spec_TrimAutomaton.wp Try.prog (retQ [(2, some (some 3)), (3, none)] k) (env0 args 4) h) : CallE Try.prog fn_spec_TrimAutomaton args h k := enter Try.func9 rfl IR_spec_TrimAutomaton hargs hw

def H_spec_l13Keep : Hint := ⟨[(0, false), (1, false), (2, true), (4, true), (5, true), (6, false), (7, false), (8, false), (9, false), (10, true)], [[0, 7, 8, 9], [0, 6, 8, 9], [0, 6, 7, 9]]⟩
def K63_1 : C := .seq (.pl <| .st (.ext 10 1) <|
    .st (.act none (.pget (some 10) none 4 0 (some 3))) <|
    .st (.act none (.pset none 3 0 3 (.v 10))) .done) (.ret)
@[simp] def W63_1 := @C.wpe _ _ K63_1.eq_1
def K63_2 : Pl := .st (.act none (.als 11 none 4)) <|
    .st (.act none (.pset (some 11) 4 1 1 (.v 10))) .done
@[simp] def W63_2 := @Pl.wpe _ _ K63_2.eq_1
def K63_3 : C := .pl <| .st (.ext 10 2) <|
    .st (.act none (.ex (some 10) (.bls 1 1 [.bool false] [(0, 1, .c (.bool false))]))) K63_2
@[simp] def W63_3 := @C.wpe _ _ K63_3.eq_1
def K63_4 : C := .cond 10 (.v 13) K63_3 (.skip)
@[simp] def W63_4 := @C.wpe _ _ K63_4.eq_1
def K63_5 : C := .seq (.seq (.pl <| .st (.ext 10 4) <|
    .st (.act none (.als 10 none 4)) <|
    .st (.act none (.pget (some 11) (some 10) 4 1 none)) <|
    .st (.act none (.px (some 12) (.lenV (.v 11)))) <|
    .st (.act none (.px (some 13) (.bin .eql (.v 12) (.c (.int .i64 0))))) .done) K63_4) K63_1
@[simp] def W63_5 := @C.wpe _ _ K63_5.eq_1
def K63_6 : C := .pl <| .st (.ext 10 2) <|
    .st (.act none (.px (some 10) (.mv (.v 8)))) <|
    .st (.act none (.px (some 11) (.bin .add (.v 10) (.c (.int .i64 1))))) <|
    .st (.act none (.px (some 8) (.mv (.v 11)))) .done
@[simp] def W63_6 := @C.wpe _ _ K63_6.eq_1
def K63_7 : Pl := .st (.act none (.als 29 none 4)) <|
    .st (.act none (.pset (some 29) 4 2 1 (.v 28))) .done
@[simp] def W63_7 := @Pl.wpe _ _ K63_7.eq_1
def K63_8 : C := .pl <| .st (.ext 10 20) <|
    .st (.act none (.als 10 none 4)) <|
    .st (.act none (.pget (some 11) (some 10) 4 2 none)) <|
    .st (.act none (.px (some 12) (.mv (.v 5)))) <|
    .st (.act none (.als 13 none 9)) <|
    .st (.act none (.pget (some 14) (some 13) 9 0 none)) <|
    .st (.act none (.px (some 15) (.ia 1 (.v 12) (.v 14)))) <|
    .st (.act none (.ld (some 16) (.v 15) none)) <|
    .st (.act none (.als 17 none 9)) <|
    .st (.act none (.pget (some 18) (some 17) 9 1 none)) <|
    .st (.act none (.als 19 none 9)) <|
    .st (.act none (.pget (some 20) (some 19) 9 2 none)) <|
    .st (.act none (.px (some 21) (.mv (.v 5)))) <|
    .st (.act none (.als 22 none 9)) <|
    .st (.act none (.pget (some 23) (some 22) 9 3 none)) <|
    .st (.act none (.px (some 24) (.ia 1 (.v 21) (.v 23)))) <|
    .st (.act none (.ld (some 25) (.v 24) none)) <|
    .st (.act none (.px (some 26) (.build [.int .i64 0, .int .i64 0, .int .i64 0, .int .i64 0] [(0, 1, .v 16), (1, 1, .v 18), (2, 1, .v 20), (3, 1, .v 25)]))) <|
    .st (.act none (.psl 27 [.int .i64 0, .int .i64 0, .int .i64 0, .int .i64 0] [(0, 4, .v 26)])) <|
    .st (.act none (.ex (some 28) (.app 32 4 [.int .i64 0, .int .i64 0, .int .i64 0, .int .i64 0] (.o (.v 11)) (.p 1 27)))) K63_7
@[simp] def W63_8 := @C.wpe _ _ K63_8.eq_1
def K63_9 : C := .cond 10 (.v 21) K63_8 (.skip)
@[simp] def W63_9 := @C.wpe _ _ K63_9.eq_1
def K63_10 : C := .seq (.pl <| .st (.ext 10 12) <|
    .st (.act none (.px (some 10) (.mv (.v 1)))) <|
    .st (.act none (.als 11 none 9)) <|
    .st (.act none (.pget (some 12) (some 11) 9 0 none)) <|
    .st (.act none (.px (some 13) (.ia 1 (.v 10) (.v 12)))) <|
    .st (.act none (.ld (some 14) (.v 13) none)) <|
    .st (.act none (.px (some 15) (.mv (.v 14)))) <|
    .st (.act (some (.v 15, true)) (.px (some 16) (.mv (.v 1)))) <|
    .st (.act (some (.v 15, true)) (.als 17 none 9)) <|
    .st (.act (some (.v 15, true)) (.pget (some 18) (some 17) 9 3 none)) <|
    .st (.act (some (.v 15, true)) (.px (some 19) (.ia 1 (.v 16) (.v 18)))) <|
    .st (.act (some (.v 15, true)) (.ld (some 20) (.v 19) none)) <|
    .st (.act none (.px (some 21) (.pick (.v 15) (.v 20) (.c (.bool false))))) .done) K63_9
@[simp] def W63_10 := @C.wpe _ _ K63_10.eq_1
def K63_11 : C := .seq (.block 5 (.seq (.pl <| .st (.ext 10 5) <|
    .st (.act none (.als 10 none 2)) <|
    .st (.act none (.pget (some 11) (some 10) 2 2 none)) <|
    .st (.act none (.px (some 12) (.mv (.v 8)))) <|
    .st (.act none (.px (some 13) (.ia 4 (.v 11) (.v 12)))) <|
    .st (.act none (.ld (some 14) (.v 13) (some 4))) <|
    .st (.act none (.pnew 9 (.c (.agg #[.int .i64 0, .int .i64 0, .int .i64 0, .int .i64 0])) [])) <|
    .st (.act none (.pset none 9 0 4 (.v 14))) .done) K63_10)) K63_6
@[simp] def W63_11 := @C.wpe _ _ K63_11.eq_1
def K63_12 : C := .cond 10 (.v 14) (.skip) (.exit 4)
@[simp] def W63_12 := @C.wpe _ _ K63_12.eq_1
def K63_13 : C := .seq (.seq (.pl <| .st (.ext 10 5) <|
    .st (.act none (.px (some 10) (.mv (.v 8)))) <|
    .st (.act none (.als 11 none 2)) <|
    .st (.act none (.pget (some 12) (some 11) 2 2 none)) <|
    .st (.act none (.px (some 13) (.lenV (.v 12)))) <|
    .st (.act none (.px (some 14) (.bin .lss (.v 10) (.v 13)))) .done) K63_12) K63_11
@[simp] def W63_13 := @C.wpe _ _ K63_13.eq_1
def K63_14 : C := .block 4 (.loop 10 [0, 6, 7, 9] K63_13)
@[simp] def W63_14 := @C.wpe _ _ K63_14.eq_1
def K63_15 : C := .seq (.seq (.pl <| .st (.ext 10 0) <|
    .st (.act none (.px (some 8) (.mv (.c (.int .i64 0))))) .done) K63_14) K63_5
@[simp] def W63_15 := @C.wpe _ _ K63_15.eq_1
def K63_16 : C := .pl <| .st (.ext 10 2) <|
    .st (.act none (.px (some 10) (.mv (.v 7)))) <|
    .st (.act none (.px (some 11) (.bin .add (.v 10) (.c (.int .i64 1))))) <|
    .st (.act none (.px (some 7) (.mv (.v 11)))) .done
@[simp] def W63_16 := @C.wpe _ _ K63_16.eq_1
def K63_17 : Pl := .st (.act none (.als 22 none 4)) <|
    .st (.act none (.pset (some 22) 4 0 1 (.v 21))) .done
@[simp] def W63_17 := @Pl.wpe _ _ K63_17.eq_1
def K63_18 : C := .pl <| .st (.ext 10 13) <|
    .st (.act none (.als 10 none 4)) <|
    .st (.act none (.pget (some 11) (some 10) 4 0 none)) <|
    .st (.act none (.px (some 12) (.mv (.v 5)))) <|
    .st (.act none (.als 13 none 2)) <|
    .st (.act none (.pget (some 14) (some 13) 2 0 none)) <|
    .st (.act none (.px (some 15) (.mv (.v 7)))) <|
    .st (.act none (.px (some 16) (.ia 1 (.v 14) (.v 15)))) <|
    .st (.act none (.ld (some 17) (.v 16) none)) <|
    .st (.act none (.px (some 18) (.ia 1 (.v 12) (.v 17)))) <|
    .st (.act none (.ld (some 19) (.v 18) none)) <|
    .st (.act none (.psl 20 [.int .i64 0] [(0, 1, .v 19)])) <|
    .st (.act none (.ex (some 21) (.app 8 1 [.int .i64 0] (.o (.v 11)) (.p 1 20)))) K63_17
@[simp] def W63_18 := @C.wpe _ _ K63_18.eq_1
def K63_19 : C := .cond 10 (.v 17) K63_18 (.skip)
@[simp] def W63_19 := @C.wpe _ _ K63_19.eq_1
def K63_20 : C := .seq (.block 3 (.seq (.pl <| .st (.ext 10 8) <|
    .st (.act none (.px (some 10) (.mv (.v 1)))) <|
    .st (.act none (.als 11 none 2)) <|
    .st (.act none (.pget (some 12) (some 11) 2 0 none)) <|
    .st (.act none (.px (some 13) (.mv (.v 7)))) <|
    .st (.act none (.px (some 14) (.ia 1 (.v 12) (.v 13)))) <|
    .st (.act none (.ld (some 15) (.v 14) none)) <|
    .st (.act none (.px (some 16) (.ia 1 (.v 10) (.v 15)))) <|
    .st (.act none (.ld (some 17) (.v 16) none)) .done) K63_19)) K63_16
@[simp] def W63_20 := @C.wpe _ _ K63_20.eq_1
def K63_21 : C := .cond 10 (.v 14) (.skip) (.exit 2)
@[simp] def W63_21 := @C.wpe _ _ K63_21.eq_1
def K63_22 : C := .seq (.seq (.pl <| .st (.ext 10 5) <|
    .st (.act none (.px (some 10) (.mv (.v 7)))) <|
    .st (.act none (.als 11 none 2)) <|
    .st (.act none (.pget (some 12) (some 11) 2 0 none)) <|
    .st (.act none (.px (some 13) (.lenV (.v 12)))) <|
    .st (.act none (.px (some 14) (.bin .lss (.v 10) (.v 13)))) .done) K63_21) K63_20
@[simp] def W63_22 := @C.wpe _ _ K63_22.eq_1
def K63_23 : C := .block 2 (.loop 10 [0, 6, 8, 9] K63_22)
@[simp] def W63_23 := @C.wpe _ _ K63_23.eq_1
def K63_24 : C := .seq (.seq (.pl <| .st (.ext 10 0) <|
    .st (.act none (.px (some 7) (.mv (.c (.int .i64 0))))) .done) K63_23) K63_15
@[simp] def W63_24 := @C.wpe _ _ K63_24.eq_1
def K63_25 : C := .pl <| .st (.ext 10 2) <|
    .st (.act none (.px (some 10) (.mv (.v 6)))) <|
    .st (.act none (.px (some 11) (.bin .add (.v 10) (.c (.int .i64 1))))) <|
    .st (.act none (.px (some 6) (.mv (.v 11)))) .done
@[simp] def W63_25 := @C.wpe _ _ K63_25.eq_1
def K63_26 : Pl := .st (.act none (.als 19 none 4)) <|
    .st (.act none (.pset (some 19) 4 1 1 (.v 18))) .done
@[simp] def W63_26 := @Pl.wpe _ _ K63_26.eq_1
def K63_27 : C := .pl <| .st (.ext 10 10) <|
    .st (.act none (.als 10 none 4)) <|
    .st (.act none (.pget (some 11) (some 10) 4 1 none)) <|
    .st (.act none (.als 12 none 2)) <|
    .st (.act none (.pget (some 13) (some 12) 2 1 none)) <|
    .st (.act none (.px (some 14) (.mv (.v 6)))) <|
    .st (.act none (.px (some 15) (.ia 1 (.v 13) (.v 14)))) <|
    .st (.act none (.ld (some 16) (.v 15) none)) <|
    .st (.act none (.psl 17 [.bool false] [(0, 1, .v 16)])) <|
    .st (.act none (.ex (some 18) (.app 1 1 [.bool false] (.o (.v 11)) (.p 1 17)))) K63_26
@[simp] def W63_27 := @C.wpe _ _ K63_27.eq_1
def K63_28 : C := .cond 10 (.v 13) K63_27 (.skip)
@[simp] def W63_28 := @C.wpe _ _ K63_28.eq_1
def K63_29 : C := .seq (.pl <| .st (.ext 10 4) <|
    .st (.act none (.px (some 10) (.mv (.v 1)))) <|
    .st (.act none (.px (some 11) (.mv (.v 6)))) <|
    .st (.act none (.px (some 12) (.ia 1 (.v 10) (.v 11)))) <|
    .st (.act none (.ld (some 13) (.v 12) none)) .done) K63_28
@[simp] def W63_29 := @C.wpe _ _ K63_29.eq_1
def K63_30 : Pl := .st (.act none (.px (some 5) (.mv (.v 15)))) .done
@[simp] def W63_30 := @Pl.wpe _ _ K63_30.eq_1
def K63_31 : C := .seq (.block 1 (.seq (.pl <| .st (.ext 10 6) <|
    .st (.act none (.px (some 10) (.mv (.v 5)))) <|
    .st (.act none (.als 11 none 4)) <|
    .st (.act none (.pget (some 12) (some 11) 4 1 none)) <|
    .st (.act none (.px (some 13) (.lenV (.v 12)))) <|
    .st (.act none (.psl 14 [.int .i64 0] [(0, 1, .v 13)])) <|
    .st (.act none (.ex (some 15) (.app 8 1 [.int .i64 0] (.o (.v 10)) (.p 1 14)))) K63_30) K63_29)) K63_25
@[simp] def W63_31 := @C.wpe _ _ K63_31.eq_1
def K63_32 : C := .cond 10 (.v 13) (.skip) (.exit 0)
@[simp] def W63_32 := @C.wpe _ _ K63_32.eq_1
def K63_33 : C := .seq (.seq (.pl <| .st (.ext 10 4) <|
    .st (.act none (.px (some 10) (.mv (.v 6)))) <|
    .st (.act none (.px (some 11) (.mv (.v 1)))) <|
    .st (.act none (.px (some 12) (.lenV (.v 11)))) <|
    .st (.act none (.px (some 13) (.bin .lss (.v 10) (.v 12)))) .done) K63_32) K63_31
@[simp] def W63_33 := @C.wpe _ _ K63_33.eq_1
def K63_34 : C := .block 0 (.loop 10 [0, 7, 8, 9] K63_33)
@[simp] def W63_34 := @C.wpe _ _ K63_34.eq_1
def K63_35 : C := .seq (.seq (.pl <| .st (.ext 10 0) <|
    .st (.act none (.px (some 6) (.mv (.c (.int .i64 0))))) .done) K63_34) K63_24
@[simp] def W63_35 := @C.wpe _ _ K63_35.eq_1
def K63_36 : Pl := .st (.act none (.px (some 5) (.mv (.v 10)))) .done
@[simp] def W63_36 := @Pl.wpe _ _ K63_36.eq_1
def K63_37 : C := .seq (.pl <| .st (.ext 10 1) <|
    .st (.act none (.ex (some 10) (.bls 1 0 [.int .i64 0] []))) K63_36) K63_35
@[simp] def W63_37 := @C.wpe _ _ K63_37.eq_1
def K63_38 : C := .seq (.pl <| .st (.ext 10 1) <|
    .st (.act none (.px (some 10) (.build [.slice none 0 0, .slice none 0 0, .slice none 0 0] []))) <|
    .st (.act none (.pnew 4 (.c (.agg #[.slice none 0 0, .slice none 0 0, .slice none 0 0])) [])) <|
    .st (.act none (.pset none 4 0 3 (.v 10))) .done) K63_37
@[simp] def W63_38 := @C.wpe _ _ K63_38.eq_1
def B_spec_l13Keep : C := .seq (.pl <| .st (.ext 10 0) <|
    .st (.act none (.pnew 2 (.v 0) [])) <|
    .st (.act none (.pnew 3 (.c (.agg #[.slice none 0 0, .slice none 0 0, .slice none 0 0])) [])) .done) K63_38
@[simp] def WB_spec_l13Keep := @C.wpe _ _ B_spec_l13Keep.eq_1
def R_spec_l13Keep : FIR := ⟨B_spec_l13Keep, 10, [(3, some (some 3))]⟩
theorem IR_spec_l13Keep : cfun Try.prog H_spec_l13Keep Try.f63 = some R_spec_l13Keep := by kernel_rfl
theorem EN_spec_l13Keep {args : List Value} {h : Heap} {k : Value → Heap → Prop} (hargs : args.length = 2) (hw : B_spec_l13Keep.wp Try.prog (retQ [(3, some (some 3))] k) (env0 args 10) h) : CallE Try.prog fn_spec_l13Keep args h k := enter Try.func63 rfl IR_spec_l13Keep hargs hw

def H_spec_l13Trim : Hint := ⟨[(0, false), (1, true), (2, true), (3, false), (4, false), (5, false), (6, false)], [[0]]⟩
def K34_1 : Pl := .st (.act none (.pset none 2 0 3 (.v 9))) .done
@[simp] def W34_1 := @Pl.wpe _ _ K34_1.eq_1
def K34_2 : C := .seq (.pl <| .st (.ext 7 3) <|
    .st (.act none (.pget (some 7) none 1 0 (some 3))) <|
    .st (.act none (.px (some 8) (.mv (.v 5)))) <|
    .st (.act none (.ex (some 9) (.call fn_spec_l13Keep [.v 7, .v 8]))) K34_1) (.ret)
@[simp] def W34_2 := @C.wpe _ _ K34_2.eq_1
def K34_3 : C := .pl <| .st (.ext 7 2) <|
    .st (.act none (.px (some 7) (.mv (.v 6)))) <|
    .st (.act none (.px (some 8) (.bin .add (.v 7) (.c (.int .i64 1))))) <|
    .st (.act none (.px (some 6) (.mv (.v 8)))) .done
@[simp] def W34_3 := @C.wpe _ _ K34_3.eq_1
def K34_4 : C := .seq (.block 1 (.pl <| .st (.ext 7 13) <|
    .st (.act none (.px (some 7) (.mv (.v 5)))) <|
    .st (.act none (.px (some 8) (.mv (.v 4)))) <|
    .st (.act none (.px (some 9) (.mv (.v 6)))) <|
    .st (.act none (.px (some 10) (.ia 1 (.v 8) (.v 9)))) <|
    .st (.act none (.ld (some 11) (.v 10) none)) <|
    .st (.act none (.px (some 12) (.mv (.v 3)))) <|
    .st (.act none (.px (some 13) (.mv (.v 4)))) <|
    .st (.act none (.px (some 14) (.mv (.v 6)))) <|
    .st (.act none (.px (some 15) (.ia 1 (.v 13) (.v 14)))) <|
    .st (.act none (.ld (some 16) (.v 15) none)) <|
    .st (.act none (.px (some 17) (.ia 1 (.v 12) (.v 16)))) <|
    .st (.act none (.ld (some 18) (.v 17) none)) <|
    .st (.act none (.px (some 19) (.ia 1 (.v 7) (.v 11)))) <|
    .st (.act none (.ex none (.store 1 (.v 19) (.v 18)))) .done)) K34_3
@[simp] def W34_4 := @C.wpe _ _ K34_4.eq_1
def K34_5 : C := .cond 7 (.v 10) (.skip) (.exit 0)
@[simp] def W34_5 := @C.wpe _ _ K34_5.eq_1
def K34_6 : C := .seq (.seq (.pl <| .st (.ext 7 4) <|
    .st (.act none (.px (some 7) (.mv (.v 6)))) <|
    .st (.act none (.px (some 8) (.mv (.v 4)))) <|
    .st (.act none (.px (some 9) (.lenV (.v 8)))) <|
    .st (.act none (.px (some 10) (.bin .lss (.v 7) (.v 9)))) .done) K34_5) K34_4
@[simp] def W34_6 := @C.wpe _ _ K34_6.eq_1
def K34_7 : C := .block 0 (.loop 7 [0] K34_6)
@[simp] def W34_7 := @C.wpe _ _ K34_7.eq_1
def K34_8 : C := .seq (.seq (.pl <| .st (.ext 7 0) <|
    .st (.act none (.px (some 6) (.mv (.c (.int .i64 0))))) .done) K34_7) K34_2
@[simp] def W34_8 := @C.wpe _ _ K34_8.eq_1
def K34_9 : Pl := .st (.act none (.px (some 5) (.mv (.v 9)))) .done
@[simp] def W34_9 := @Pl.wpe _ _ K34_9.eq_1
def K34_10 : C := .seq (.pl <| .st (.ext 7 3) <|
    .st (.act none (.px (some 7) (.mv (.v 3)))) <|
    .st (.act none (.px (some 8) (.lenV (.v 7)))) <|
    .st (.act none (.ex (some 9) (.mks 1 1 [.bool false] (.v 8) (.v 8)))) K34_9) K34_8
@[simp] def W34_10 := @C.wpe _ _ K34_10.eq_1
def K34_11 : Pl := .st (.act none (.px (some 4) (.mv (.v 11)))) .done
@[simp] def W34_11 := @Pl.wpe _ _ K34_11.eq_1
def K34_12 : Pl := .st (.act none (.ex (some 11) (.call fn_spec_l7Reach [.v 8, .v 10]))) K34_11
@[simp] def W34_12 := @Pl.wpe _ _ K34_12.eq_1
def K34_13 : C := .seq (.pl <| .st (.ext 7 5) <|
    .st (.act none (.pget (some 7) none 1 0 (some 3))) <|
    .st (.act none (.als 9 none 1)) <|
    .st (.act none (.pget (some 10) (some 9) 1 0 none)) <|
    .st (.act none (.ex (some 8) (.call fn_spec_l7Next [.v 7]))) K34_12) K34_10
@[simp] def W34_13 := @C.wpe _ _ K34_13.eq_1
def K34_14 : Pl := .st (.act none (.px (some 3) (.mv (.v 8)))) .done
@[simp] def W34_14 := @Pl.wpe _ _ K34_14.eq_1
def K34_15 : C := .seq (.pl <| .st (.ext 7 2) <|
    .st (.act none (.pget (some 7) none 1 0 (some 3))) <|
    .st (.act none (.ex (some 8) (.call fn_spec_LiveStates [.v 7]))) K34_14) K34_13
@[simp] def W34_15 := @C.wpe _ _ K34_15.eq_1
def B_spec_l13Trim : C := .seq (.pl <| .st (.ext 7 0) <|
    .st (.act none (.pnew 1 (.v 0) [])) <|
    .st (.act none (.pnew 2 (.c (.agg #[.slice none 0 0, .slice none 0 0, .slice none 0 0])) [])) .done) K34_15
@[simp] def WB_spec_l13Trim := @C.wpe _ _ B_spec_l13Trim.eq_1
def R_spec_l13Trim : FIR := ⟨B_spec_l13Trim, 7, [(2, some (some 3))]⟩
theorem IR_spec_l13Trim : cfun Try.prog H_spec_l13Trim Try.f34 = some R_spec_l13Trim := by kernel_rfl
theorem EN_spec_l13Trim {args : List Value} {h : Heap} {k : Value → Heap → Prop} (hargs : args.length = 1) (hw : B_spec_l13Trim.wp Try.prog (retQ [(2, some (some 3))] k) (env0 args 7) h) : CallE Try.prog fn_spec_l13Trim args h k := enter Try.func34 rfl IR_spec_l13Trim hargs hw

def H_spec_l4In : Hint := ⟨[(0, false), (1, false), (4, false), (5, false)], [[2]]⟩
def K99_1 : C := .seq (.pl <| .st (.ext 4 0) <|
    .st (.act none (.px (some 2) (.mv (.c (.bool false))))) .done) (.ret)
@[simp] def W99_1 := @C.wpe _ _ K99_1.eq_1
def K99_2 : C := .pl <| .st (.ext 4 2) <|
    .st (.act none (.px (some 4) (.mv (.v 3)))) <|
    .st (.act none (.px (some 5) (.bin .add (.v 4) (.c (.int .i64 1))))) <|
    .st (.act none (.px (some 3) (.mv (.v 5)))) .done
@[simp] def W99_2 := @C.wpe _ _ K99_2.eq_1
def K99_3 : C := .seq (.pl <| .st (.ext 4 0) <|
    .st (.act none (.px (some 2) (.mv (.c (.bool true))))) .done) (.ret)
@[simp] def W99_3 := @C.wpe _ _ K99_3.eq_1
def K99_4 : C := .cond 4 (.v 9) K99_3 (.skip)
@[simp] def W99_4 := @C.wpe _ _ K99_4.eq_1
def K99_5 : C := .seq (.block 1 (.seq (.pl <| .st (.ext 4 6) <|
    .st (.act none (.px (some 4) (.mv (.v 0)))) <|
    .st (.act none (.px (some 5) (.mv (.v 3)))) <|
    .st (.act none (.px (some 6) (.ia 1 (.v 4) (.v 5)))) <|
    .st (.act none (.ld (some 7) (.v 6) none)) <|
    .st (.act none (.px (some 8) (.mv (.v 1)))) <|
    .st (.act none (.px (some 9) (.bin .eql (.v 7) (.v 8)))) .done) K99_4)) K99_2
@[simp] def W99_5 := @C.wpe _ _ K99_5.eq_1
def K99_6 : C := .cond 4 (.v 7) (.skip) (.exit 0)
@[simp] def W99_6 := @C.wpe _ _ K99_6.eq_1
def K99_7 : C := .seq (.seq (.pl <| .st (.ext 4 4) <|
    .st (.act none (.px (some 4) (.mv (.v 3)))) <|
    .st (.act none (.px (some 5) (.mv (.v 0)))) <|
    .st (.act none (.px (some 6) (.lenV (.v 5)))) <|
    .st (.act none (.px (some 7) (.bin .lss (.v 4) (.v 6)))) .done) K99_6) K99_5
@[simp] def W99_7 := @C.wpe _ _ K99_7.eq_1
def K99_8 : C := .block 0 (.loop 4 [2] K99_7)
@[simp] def W99_8 := @C.wpe _ _ K99_8.eq_1
def K99_9 : C := .seq (.seq (.pl <| .st (.ext 4 0) <|
    .st (.act none (.px (some 3) (.mv (.c (.int .i64 0))))) .done) K99_8) K99_1
@[simp] def W99_9 := @C.wpe _ _ K99_9.eq_1
def B_spec_l4In : C := .seq (.pl <| .st (.ext 4 0) <|
    .st (.act none (.px (some 2) (.mv (.c (.bool false))))) .done) K99_9
@[simp] def WB_spec_l4In := @C.wpe _ _ B_spec_l4In.eq_1
def R_spec_l4In : FIR := ⟨B_spec_l4In, 4, [(2, none)]⟩
theorem IR_spec_l4In : cfun Try.prog H_spec_l4In Try.f99 = some R_spec_l4In := by kernel_rfl
theorem EN_spec_l4In {args : List Value} {h : Heap} {k : Value → Heap → Prop} (hargs : args.length = 2) (hw : B_spec_l4In.wp Try.prog (retQ [(2, none)] k) (env0 args 4) h) : CallE Try.prog fn_spec_l4In args h k := enter Try.func99 rfl IR_spec_l4In hargs hw

def H_spec_l7Edge : Hint := ⟨[(0, false), (1, false), (2, true), (4, false)], []⟩
def K59_1 : C := .seq (.pl <| .st (.ext 4 45) <|
    .st (.act none (.als 4 none 2)) <|
    .st (.act none (.pget (some 5) (some 4) 2 0 none)) <|
    .st (.act none (.px (some 6) (.bin .geq (.v 5) (.c (.int .i64 0))))) <|
    .st (.act none (.px (some 7) (.mv (.v 6)))) <|
    .st (.act (some (.v 7, true)) (.als 8 none 2)) <|
    .st (.act (some (.v 7, true)) (.pget (some 9) (some 8) 2 0 none)) <|
    .st (.act (some (.v 7, true)) (.px (some 10) (.mv (.v 1)))) <|
    .st (.act (some (.v 7, true)) (.px (some 11) (.bin .lss (.v 9) (.v 10)))) <|
    .st (.act none (.px (some 12) (.pick (.v 7) (.v 11) (.c (.bool false))))) <|
    .st (.act none (.px (some 13) (.mv (.v 12)))) <|
    .st (.act (some (.v 13, true)) (.als 14 none 2)) <|
    .st (.act (some (.v 13, true)) (.pget (some 15) (some 14) 2 3 none)) <|
    .st (.act (some (.v 13, true)) (.px (some 16) (.bin .geq (.v 15) (.c (.int .i64 0))))) <|
    .st (.act none (.px (some 17) (.pick (.v 13) (.v 16) (.c (.bool false))))) <|
    .st (.act none (.px (some 18) (.mv (.v 17)))) <|
    .st (.act (some (.v 18, true)) (.als 19 none 2)) <|
    .st (.act (some (.v 18, true)) (.pget (some 20) (some 19) 2 3 none)) <|
    .st (.act (some (.v 18, true)) (.px (some 21) (.mv (.v 1)))) <|
    .st (.act (some (.v 18, true)) (.px (some 22) (.bin .lss (.v 20) (.v 21)))) <|
    .st (.act none (.px (some 23) (.pick (.v 18) (.v 22) (.c (.bool false))))) <|
    .st (.act none (.px (some 24) (.mv (.v 23)))) <|
    .st (.act (some (.v 24, true)) (.als 25 none 2)) <|
    .st (.act (some (.v 24, true)) (.pget (some 26) (some 25) 2 1 none)) <|
    .st (.act (some (.v 24, true)) (.px (some 27) (.bin .geq (.v 26) (.c (.int .i64 0))))) <|
    .st (.act none (.px (some 28) (.pick (.v 24) (.v 27) (.c (.bool false))))) <|
    .st (.act none (.px (some 29) (.mv (.v 28)))) <|
    .st (.act (some (.v 29, true)) (.als 30 none 2)) <|
    .st (.act (some (.v 29, true)) (.pget (some 31) (some 30) 2 1 none)) <|
    .st (.act (some (.v 29, true)) (.px (some 32) (.bin .leq (.v 31) (.c (.int .i64 7))))) <|
    .st (.act none (.px (some 33) (.pick (.v 29) (.v 32) (.c (.bool false))))) <|
    .st (.act none (.px (some 34) (.mv (.v 33)))) <|
    .st (.act (some (.v 34, true)) (.als 35 none 2)) <|
    .st (.act (some (.v 34, true)) (.pget (some 36) (some 35) 2 2 none)) <|
    .st (.act (some (.v 34, true)) (.px (some 37) (.bin .geq (.v 36) (.c (.int .i64 0))))) <|
    .st (.act none (.px (some 38) (.pick (.v 34) (.v 37) (.c (.bool false))))) <|
    .st (.act none (.px (some 39) (.mv (.v 38)))) <|
    .st (.act (some (.v 39, true)) (.als 40 none 2)) <|
    .st (.act (some (.v 39, true)) (.pget (some 41) (some 40) 2 2 none)) <|
    .st (.act (some (.v 39, true)) (.als 42 none 2)) <|
    .st (.act (some (.v 39, true)) (.pget (some 43) (some 42) 2 1 none)) <|
    .st (.act (some (.v 39, true)) (.px (some 44) (.bin .and (.v 41) (.v 43)))) <|
    .st (.act (some (.v 39, true)) (.als 45 none 2)) <|
    .st (.act (some (.v 39, true)) (.pget (some 46) (some 45) 2 2 none)) <|
    .st (.act (some (.v 39, true)) (.px (some 47) (.bin .eql (.v 44) (.v 46)))) <|
    .st (.act none (.px (some 48) (.pick (.v 39) (.v 47) (.c (.bool false))))) <|
    .st (.act none (.px (some 3) (.mv (.v 48)))) .done) (.ret)
@[simp] def W59_1 := @C.wpe _ _ K59_1.eq_1
def B_spec_l7Edge : C := .seq (.pl <| .st (.ext 4 0) <|
    .st (.act none (.pnew 2 (.v 0) [])) <|
    .st (.act none (.px (some 3) (.mv (.c (.bool false))))) .done) K59_1
@[simp] def WB_spec_l7Edge := @C.wpe _ _ B_spec_l7Edge.eq_1
def R_spec_l7Edge : FIR := ⟨B_spec_l7Edge, 4, [(3, none)]⟩
theorem IR_spec_l7Edge : cfun Try.prog H_spec_l7Edge Try.f59 = some R_spec_l7Edge := by kernel_rfl
theorem EN_spec_l7Edge {args : List Value} {h : Heap} {k : Value → Heap → Prop} (hargs : args.length = 2) (hw : B_spec_l7Edge.wp Try.prog (retQ [(3, none)] k) (env0 args 4) h) : CallE Try.prog fn_spec_l7Edge args h k := enter Try.func59 rfl IR_spec_l7Edge hargs hw

def H_spec_l7Loop : Hint := ⟨[(0, false), (1, false), (4, false), (5, false), (6, false), (7, false), (8, false), (9, false)], [[2, 4, 5, 6, 7], [2, 3, 7]]⟩
def K98_1 : C := .seq (.pl <| .st (.ext 8 0) <|
    .st (.act none (.px (some 2) (.mv (.c (.bool false))))) .done) (.ret)
@[simp] def W98_1 := @C.wpe _ _ K98_1.eq_1
def K98_2 : C := .pl <| .st (.ext 8 2) <|
    .st (.act none (.px (some 8) (.mv (.v 6)))) <|
    .st (.act none (.px (some 9) (.bin .add (.v 8) (.c (.int .i64 1))))) <|
    .st (.act none (.px (some 6) (.mv (.v 9)))) .done
@[simp] def W98_2 := @C.wpe _ _ K98_2.eq_1
def K98_3 : Pl := .st (.act none (.px (some 5) (.mv (.v 13)))) .done
@[simp] def W98_3 := @Pl.wpe _ _ K98_3.eq_1
def K98_4 : C := .pl <| .st (.ext 8 6) <|
    .st (.act none (.px (some 8) (.mv (.v 5)))) <|
    .st (.act none (.px (some 9) (.mv (.v 0)))) <|
    .st (.act none (.px (some 10) (.mv (.v 7)))) <|
    .st (.act none (.px (some 11) (.ia 1 (.v 9) (.v 10)))) <|
    .st (.act none (.ld (some 12) (.v 11) none)) <|
    .st (.act none (.ex (some 13) (.app 8 1 [.int .i64 0] (.o (.v 8)) (.o (.v 12))))) K98_3
@[simp] def W98_4 := @C.wpe _ _ K98_4.eq_1
def K98_5 : C := .seq (.pl <| .st (.ext 8 3) <|
    .st (.act none (.px (some 8) (.mv (.v 4)))) <|
    .st (.act none (.px (some 9) (.mv (.v 7)))) <|
    .st (.act none (.px (some 10) (.ia 1 (.v 8) (.v 9)))) <|
    .st (.act none (.ex none (.store 1 (.v 10) (.c (.bool true))))) .done) K98_4
@[simp] def W98_5 := @C.wpe _ _ K98_5.eq_1
def K98_6 : C := .cond 8 (.v 12) K98_5 (.skip)
@[simp] def W98_6 := @C.wpe _ _ K98_6.eq_1
def K98_7 : C := .seq (.pl <| .st (.ext 8 5) <|
    .st (.act none (.px (some 8) (.mv (.v 4)))) <|
    .st (.act none (.px (some 9) (.mv (.v 7)))) <|
    .st (.act none (.px (some 10) (.ia 1 (.v 8) (.v 9)))) <|
    .st (.act none (.ld (some 11) (.v 10) none)) <|
    .st (.act none (.px (some 12) (.un .not (.v 11)))) .done) K98_6
@[simp] def W98_7 := @C.wpe _ _ K98_7.eq_1
def K98_8 : C := .seq (.pl <| .st (.ext 8 0) <|
    .st (.act none (.px (some 2) (.mv (.c (.bool true))))) .done) (.ret)
@[simp] def W98_8 := @C.wpe _ _ K98_8.eq_1
def K98_9 : C := .cond 8 (.v 10) K98_8 (.skip)
@[simp] def W98_9 := @C.wpe _ _ K98_9.eq_1
def K98_10 : C := .seq (.seq (.pl <| .st (.ext 8 3) <|
    .st (.act none (.px (some 8) (.mv (.v 7)))) <|
    .st (.act none (.px (some 9) (.mv (.v 1)))) <|
    .st (.act none (.px (some 10) (.bin .eql (.v 8) (.v 9)))) .done) K98_9) K98_7
@[simp] def W98_10 := @C.wpe _ _ K98_10.eq_1
def K98_11 : C := .seq (.block 3 (.seq (.pl <| .st (.ext 8 4) <|
    .st (.act none (.px (some 8) (.mv (.v 5)))) <|
    .st (.act none (.px (some 9) (.mv (.v 6)))) <|
    .st (.act none (.px (some 10) (.ia 1 (.v 8) (.v 9)))) <|
    .st (.act none (.ld (some 11) (.v 10) none)) <|
    .st (.act none (.px (some 7) (.mv (.v 11)))) .done) K98_10)) K98_2
@[simp] def W98_11 := @C.wpe _ _ K98_11.eq_1
def K98_12 : C := .cond 8 (.v 11) (.skip) (.exit 2)
@[simp] def W98_12 := @C.wpe _ _ K98_12.eq_1
def K98_13 : C := .seq (.seq (.pl <| .st (.ext 8 4) <|
    .st (.act none (.px (some 8) (.mv (.v 6)))) <|
    .st (.act none (.px (some 9) (.mv (.v 5)))) <|
    .st (.act none (.px (some 10) (.lenV (.v 9)))) <|
    .st (.act none (.px (some 11) (.bin .lss (.v 8) (.v 10)))) .done) K98_12) K98_11
@[simp] def W98_13 := @C.wpe _ _ K98_13.eq_1
def K98_14 : C := .block 2 (.loop 8 [2, 3, 7] K98_13)
@[simp] def W98_14 := @C.wpe _ _ K98_14.eq_1
def K98_15 : C := .seq (.seq (.pl <| .st (.ext 8 0) <|
    .st (.act none (.px (some 6) (.mv (.c (.int .i64 0))))) .done) K98_14) K98_1
@[simp] def W98_15 := @C.wpe _ _ K98_15.eq_1
def K98_16 : Pl := .st (.act none (.px (some 5) (.mv (.v 13)))) .done
@[simp] def W98_16 := @Pl.wpe _ _ K98_16.eq_1
def K98_17 : C := .seq (.pl <| .st (.ext 8 6) <|
    .st (.act none (.psl 8 [] [])) <|
    .st (.act none (.px (some 9) (.mv (.v 0)))) <|
    .st (.act none (.px (some 10) (.mv (.v 1)))) <|
    .st (.act none (.px (some 11) (.ia 1 (.v 9) (.v 10)))) <|
    .st (.act none (.ld (some 12) (.v 11) none)) <|
    .st (.act none (.ex (some 13) (.app 8 1 [.int .i64 0] (.p 0 8) (.o (.v 12))))) K98_16) K98_15
@[simp] def W98_17 := @C.wpe _ _ K98_17.eq_1
def K98_18 : Pl := .st (.act none (.px (some 4) (.mv (.v 10)))) .done
@[simp] def W98_18 := @Pl.wpe _ _ K98_18.eq_1
def K98_19 : C := .seq (.pl <| .st (.ext 8 3) <|
    .st (.act none (.px (some 8) (.mv (.v 0)))) <|
    .st (.act none (.px (some 9) (.lenV (.v 8)))) <|
    .st (.act none (.ex (some 10) (.mks 1 1 [.bool false] (.v 9) (.v 9)))) K98_18) K98_17
@[simp] def W98_19 := @C.wpe _ _ K98_19.eq_1
def K98_20 : C := .pl <| .st (.ext 8 2) <|
    .st (.act none (.px (some 8) (.mv (.v 3)))) <|
    .st (.act none (.px (some 9) (.bin .add (.v 8) (.c (.int .i64 1))))) <|
    .st (.act none (.px (some 3) (.mv (.v 9)))) .done
@[simp] def W98_20 := @C.wpe _ _ K98_20.eq_1
def K98_21 : C := .seq (.pl <| .st (.ext 8 0) <|
    .st (.act none (.px (some 2) (.mv (.c (.bool true))))) .done) (.ret)
@[simp] def W98_21 := @C.wpe _ _ K98_21.eq_1
def K98_22 : C := .cond 8 (.v 16) K98_21 (.skip)
@[simp] def W98_22 := @C.wpe _ _ K98_22.eq_1
def K98_23 : C := .seq (.block 1 (.seq (.pl <| .st (.ext 8 9) <|
    .st (.act none (.px (some 8) (.mv (.v 0)))) <|
    .st (.act none (.px (some 9) (.mv (.v 1)))) <|
    .st (.act none (.px (some 10) (.ia 1 (.v 8) (.v 9)))) <|
    .st (.act none (.ld (some 11) (.v 10) none)) <|
    .st (.act none (.px (some 12) (.mv (.v 3)))) <|
    .st (.act none (.px (some 13) (.ia 1 (.v 11) (.v 12)))) <|
    .st (.act none (.ld (some 14) (.v 13) none)) <|
    .st (.act none (.px (some 15) (.mv (.v 1)))) <|
    .st (.act none (.px (some 16) (.bin .eql (.v 14) (.v 15)))) .done) K98_22)) K98_20
@[simp] def W98_23 := @C.wpe _ _ K98_23.eq_1
def K98_24 : C := .cond 8 (.v 14) (.skip) (.exit 0)
@[simp] def W98_24 := @C.wpe _ _ K98_24.eq_1
def K98_25 : C := .seq (.seq (.pl <| .st (.ext 8 7) <|
    .st (.act none (.px (some 8) (.mv (.v 3)))) <|
    .st (.act none (.px (some 9) (.mv (.v 0)))) <|
    .st (.act none (.px (some 10) (.mv (.v 1)))) <|
    .st (.act none (.px (some 11) (.ia 1 (.v 9) (.v 10)))) <|
    .st (.act none (.ld (some 12) (.v 11) none)) <|
    .st (.act none (.px (some 13) (.lenV (.v 12)))) <|
    .st (.act none (.px (some 14) (.bin .lss (.v 8) (.v 13)))) .done) K98_24) K98_23
@[simp] def W98_25 := @C.wpe _ _ K98_25.eq_1
def K98_26 : C := .block 0 (.loop 8 [2, 4, 5, 6, 7] K98_25)
@[simp] def W98_26 := @C.wpe _ _ K98_26.eq_1
def K98_27 : C := .seq (.seq (.pl <| .st (.ext 8 0) <|
    .st (.act none (.px (some 3) (.mv (.c (.int .i64 0))))) .done) K98_26) K98_19
@[simp] def W98_27 := @C.wpe _ _ K98_27.eq_1
def B_spec_l7Loop : C := .seq (.pl <| .st (.ext 8 0) <|
    .st (.act none (.px (some 2) (.mv (.c (.bool false))))) .done) K98_27
@[simp] def WB_spec_l7Loop := @C.wpe _ _ B_spec_l7Loop.eq_1
def R_spec_l7Loop : FIR := ⟨B_spec_l7Loop, 8, [(2, none)]⟩
theorem IR_spec_l7Loop : cfun Try.prog H_spec_l7Loop Try.f98 = some R_spec_l7Loop := by kernel_rfl
theorem EN_spec_l7Loop {args : List Value} {h : Heap} {k : Value → Heap → Prop} (hargs : args.length = 2) (hw : B_spec_l7Loop.wp Try.prog (retQ [(2, none)] k) (env0 args 8) h) : CallE Try.prog fn_spec_l7Loop args h k := enter Try.func98 rfl IR_spec_l7Loop hargs hw

def H_spec_l7Next : Hint := ⟨[(0, false), (1, true), (2, false), (3, false), (4, false), (5, true)], [[0, 2, 5]]⟩
def K62_1 : C := .seq (.pl <| .st (.ext 6 1) <|
    .st (.act none (.px (some 6) (.mv (.v 3)))) <|
    .st (.act none (.px (some 2) (.mv (.v 6)))) .done) (.ret)
@[simp] def W62_1 := @C.wpe _ _ K62_1.eq_1
def K62_2 : C := .pl <| .st (.ext 6 2) <|
    .st (.act none (.px (some 6) (.mv (.v 4)))) <|
    .st (.act none (.px (some 7) (.bin .add (.v 6) (.c (.int .i64 1))))) <|
    .st (.act none (.px (some 4) (.mv (.v 7)))) .done
@[simp] def W62_2 := @C.wpe _ _ K62_2.eq_1
def K62_3 : Pl := .st (.act none (.px (some 18) (.ia 1 (.v 6) (.v 8)))) <|
    .st (.act none (.ex none (.store 1 (.v 18) (.v 17)))) .done
@[simp] def W62_3 := @Pl.wpe _ _ K62_3.eq_1
def K62_4 : C := .pl <| .st (.ext 6 13) <|
    .st (.act none (.px (some 6) (.mv (.v 3)))) <|
    .st (.act none (.als 7 none 5)) <|
    .st (.act none (.pget (some 8) (some 7) 5 0 none)) <|
    .st (.act none (.px (some 9) (.mv (.v 3)))) <|
    .st (.act none (.als 10 none 5)) <|
    .st (.act none (.pget (some 11) (some 10) 5 0 none)) <|
    .st (.act none (.px (some 12) (.ia 1 (.v 9) (.v 11)))) <|
    .st (.act none (.ld (some 13) (.v 12) none)) <|
    .st (.act none (.als 14 none 5)) <|
    .st (.act none (.pget (some 15) (some 14) 5 3 none)) <|
    .st (.act none (.psl 16 [.int .i64 0] [(0, 1, .v 15)])) <|
    .st (.act none (.ex (some 17) (.app 8 1 [.int .i64 0] (.o (.v 13)) (.p 1 16)))) K62_3
@[simp] def W62_4 := @C.wpe _ _ K62_4.eq_1
def K62_5 : C := .cond 6 (.v 14) K62_4 (.skip)
@[simp] def W62_5 := @C.wpe _ _ K62_5.eq_1
def K62_6 : Pl := .st (.act none (.px (some 14) (.un .not (.v 13)))) .done
@[simp] def W62_6 := @Pl.wpe _ _ K62_6.eq_1
def K62_7 : C := .seq (.pl <| .st (.ext 6 9) <|
    .st (.act none (.px (some 6) (.mv (.v 3)))) <|
    .st (.act none (.als 7 none 5)) <|
    .st (.act none (.pget (some 8) (some 7) 5 0 none)) <|
    .st (.act none (.px (some 9) (.ia 1 (.v 6) (.v 8)))) <|
    .st (.act none (.ld (some 10) (.v 9) none)) <|
    .st (.act none (.als 11 none 5)) <|
    .st (.act none (.pget (some 12) (some 11) 5 3 none)) <|
    .st (.act none (.ex (some 13) (.call fn_spec_l4In [.v 10, .v 12]))) K62_6) K62_5
@[simp] def W62_7 := @C.wpe _ _ K62_7.eq_1
def K62_8 : C := .seq (.block 1 (.seq (.pl <| .st (.ext 6 5) <|
    .st (.act none (.als 6 none 1)) <|
    .st (.act none (.pget (some 7) (some 6) 1 2 none)) <|
    .st (.act none (.px (some 8) (.mv (.v 4)))) <|
    .st (.act none (.px (some 9) (.ia 4 (.v 7) (.v 8)))) <|
    .st (.act none (.ld (some 10) (.v 9) (some 4))) <|
    .st (.act none (.pnew 5 (.c (.agg #[.int .i64 0, .int .i64 0, .int .i64 0, .int .i64 0])) [])) <|
    .st (.act none (.pset none 5 0 4 (.v 10))) .done) K62_7)) K62_2
@[simp] def W62_8 := @C.wpe _ _ K62_8.eq_1
def K62_9 : C := .cond 6 (.v 10) (.skip) (.exit 0)
@[simp] def W62_9 := @C.wpe _ _ K62_9.eq_1
def K62_10 : C := .seq (.seq (.pl <| .st (.ext 6 5) <|
    .st (.act none (.px (some 6) (.mv (.v 4)))) <|
    .st (.act none (.als 7 none 1)) <|
    .st (.act none (.pget (some 8) (some 7) 1 2 none)) <|
    .st (.act none (.px (some 9) (.lenV (.v 8)))) <|
    .st (.act none (.px (some 10) (.bin .lss (.v 6) (.v 9)))) .done) K62_9) K62_8
@[simp] def W62_10 := @C.wpe _ _ K62_10.eq_1
def K62_11 : C := .block 0 (.loop 6 [0, 2, 5] K62_10)
@[simp] def W62_11 := @C.wpe _ _ K62_11.eq_1
def K62_12 : C := .seq (.seq (.pl <| .st (.ext 6 0) <|
    .st (.act none (.px (some 4) (.mv (.c (.int .i64 0))))) .done) K62_11) K62_1
@[simp] def W62_12 := @C.wpe _ _ K62_12.eq_1
def K62_13 : Pl := .st (.act none (.px (some 3) (.mv (.v 9)))) .done
@[simp] def W62_13 := @Pl.wpe _ _ K62_13.eq_1
def K62_14 : C := .seq (.pl <| .st (.ext 6 4) <|
    .st (.act none (.als 6 none 1)) <|
    .st (.act none (.pget (some 7) (some 6) 1 1 none)) <|
    .st (.act none (.px (some 8) (.lenV (.v 7)))) <|
    .st (.act none (.ex (some 9) (.mks 24 1 [.slice none 0 0] (.v 8) (.v 8)))) K62_13) K62_12
@[simp] def W62_14 := @C.wpe _ _ K62_14.eq_1
def B_spec_l7Next : C := .seq (.pl <| .st (.ext 6 0) <|
    .st (.act none (.pnew 1 (.v 0) [])) <|
    .st (.act none (.px (some 2) (.mv (.c (.slice none 0 0))))) .done) K62_14
@[simp] def WB_spec_l7Next := @C.wpe _ _ B_spec_l7Next.eq_1
def R_spec_l7Next : FIR := ⟨B_spec_l7Next, 6, [(2, none)]⟩
theorem IR_spec_l7Next : cfun Try.prog H_spec_l7Next Try.f62 = some R_spec_l7Next := by kernel_rfl
theorem EN_spec_l7Next {args : List Value} {h : Heap} {k : Value → Heap → Prop} (hargs : args.length = 1) (hw : B_spec_l7Next.wp Try.prog (retQ [(2, none)] k) (env0 args 6) h) : CallE Try.prog fn_spec_l7Next args h k := enter Try.func62 rfl IR_spec_l7Next hargs hw

def H_spec_l7Reach : Hint := ⟨[(0, false), (1, false), (4, false), (5, false), (6, false), (7, false), (8, false), (9, false), (10, false)], [[2, 6, 7, 8], [1, 2, 5, 7, 8], [1, 2, 5, 8]]⟩
def K61_1 : C := .seq (.pl <| .st (.ext 9 1) <|
    .st (.act none (.px (some 9) (.mv (.v 4)))) <|
    .st (.act none (.px (some 2) (.mv (.v 9)))) .done) (.ret)
@[simp] def W61_1 := @C.wpe _ _ K61_1.eq_1
def K61_2 : C := .pl <| .st (.ext 9 2) <|
    .st (.act none (.px (some 9) (.mv (.v 6)))) <|
    .st (.act none (.px (some 10) (.bin .add (.v 9) (.c (.int .i64 1))))) <|
    .st (.act none (.px (some 6) (.mv (.v 10)))) .done
@[simp] def W61_2 := @C.wpe _ _ K61_2.eq_1
def K61_3 : C := .pl <| .st (.ext 9 2) <|
    .st (.act none (.px (some 9) (.mv (.v 7)))) <|
    .st (.act none (.px (some 10) (.bin .add (.v 9) (.c (.int .i64 1))))) <|
    .st (.act none (.px (some 7) (.mv (.v 10)))) .done
@[simp] def W61_3 := @C.wpe _ _ K61_3.eq_1
def K61_4 : Pl := .st (.act none (.px (some 4) (.mv (.v 12)))) .done
@[simp] def W61_4 := @Pl.wpe _ _ K61_4.eq_1
def K61_5 : C := .pl <| .st (.ext 9 4) <|
    .st (.act none (.px (some 9) (.mv (.v 4)))) <|
    .st (.act none (.px (some 10) (.mv (.v 8)))) <|
    .st (.act none (.psl 11 [.int .i64 0] [(0, 1, .v 10)])) <|
    .st (.act none (.ex (some 12) (.app 8 1 [.int .i64 0] (.o (.v 9)) (.p 1 11)))) K61_4
@[simp] def W61_5 := @C.wpe _ _ K61_5.eq_1
def K61_6 : C := .seq (.pl <| .st (.ext 9 3) <|
    .st (.act none (.px (some 9) (.mv (.v 3)))) <|
    .st (.act none (.px (some 10) (.mv (.v 8)))) <|
    .st (.act none (.px (some 11) (.ia 1 (.v 9) (.v 10)))) <|
    .st (.act none (.ex none (.store 1 (.v 11) (.c (.bool true))))) .done) K61_5
@[simp] def W61_6 := @C.wpe _ _ K61_6.eq_1
def K61_7 : C := .cond 9 (.v 13) K61_6 (.skip)
@[simp] def W61_7 := @C.wpe _ _ K61_7.eq_1
def K61_8 : C := .seq (.pl <| .st (.ext 9 5) <|
    .st (.act none (.px (some 9) (.mv (.v 3)))) <|
    .st (.act none (.px (some 10) (.mv (.v 8)))) <|
    .st (.act none (.px (some 11) (.ia 1 (.v 9) (.v 10)))) <|
    .st (.act none (.ld (some 12) (.v 11) none)) <|
    .st (.act none (.px (some 13) (.un .not (.v 12)))) .done) K61_7
@[simp] def W61_8 := @C.wpe _ _ K61_8.eq_1
def K61_9 : C := .seq (.block 5 (.seq (.pl <| .st (.ext 9 10) <|
    .st (.act none (.px (some 9) (.mv (.v 0)))) <|
    .st (.act none (.px (some 10) (.mv (.v 4)))) <|
    .st (.act none (.px (some 11) (.mv (.v 6)))) <|
    .st (.act none (.px (some 12) (.ia 1 (.v 10) (.v 11)))) <|
    .st (.act none (.ld (some 13) (.v 12) none)) <|
    .st (.act none (.px (some 14) (.ia 1 (.v 9) (.v 13)))) <|
    .st (.act none (.ld (some 15) (.v 14) none)) <|
    .st (.act none (.px (some 16) (.mv (.v 7)))) <|
    .st (.act none (.px (some 17) (.ia 1 (.v 15) (.v 16)))) <|
    .st (.act none (.ld (some 18) (.v 17) none)) <|
    .st (.act none (.px (some 8) (.mv (.v 18)))) .done) K61_8)) K61_3
@[simp] def W61_9 := @C.wpe _ _ K61_9.eq_1
def K61_10 : C := .cond 9 (.v 18) (.skip) (.exit 4)
@[simp] def W61_10 := @C.wpe _ _ K61_10.eq_1
def K61_11 : C := .seq (.seq (.pl <| .st (.ext 9 10) <|
    .st (.act none (.px (some 9) (.mv (.v 7)))) <|
    .st (.act none (.px (some 10) (.mv (.v 0)))) <|
    .st (.act none (.px (some 11) (.mv (.v 4)))) <|
    .st (.act none (.px (some 12) (.mv (.v 6)))) <|
    .st (.act none (.px (some 13) (.ia 1 (.v 11) (.v 12)))) <|
    .st (.act none (.ld (some 14) (.v 13) none)) <|
    .st (.act none (.px (some 15) (.ia 1 (.v 10) (.v 14)))) <|
    .st (.act none (.ld (some 16) (.v 15) none)) <|
    .st (.act none (.px (some 17) (.lenV (.v 16)))) <|
    .st (.act none (.px (some 18) (.bin .lss (.v 9) (.v 17)))) .done) K61_10) K61_9
@[simp] def W61_11 := @C.wpe _ _ K61_11.eq_1
def K61_12 : C := .block 4 (.loop 9 [1, 2, 5, 8] K61_11)
@[simp] def W61_12 := @C.wpe _ _ K61_12.eq_1
def K61_13 : C := .seq (.block 3 (.seq (.pl <| .st (.ext 9 0) <|
    .st (.act none (.px (some 7) (.mv (.c (.int .i64 0))))) .done) K61_12)) K61_2
@[simp] def W61_13 := @C.wpe _ _ K61_13.eq_1
def K61_14 : C := .cond 9 (.v 12) (.skip) (.exit 2)
@[simp] def W61_14 := @C.wpe _ _ K61_14.eq_1
def K61_15 : C := .seq (.seq (.pl <| .st (.ext 9 4) <|
    .st (.act none (.px (some 9) (.mv (.v 6)))) <|
    .st (.act none (.px (some 10) (.mv (.v 4)))) <|
    .st (.act none (.px (some 11) (.lenV (.v 10)))) <|
    .st (.act none (.px (some 12) (.bin .lss (.v 9) (.v 11)))) .done) K61_14) K61_13
@[simp] def W61_15 := @C.wpe _ _ K61_15.eq_1
def K61_16 : C := .block 2 (.loop 9 [1, 2, 5, 7, 8] K61_15)
@[simp] def W61_16 := @C.wpe _ _ K61_16.eq_1
def K61_17 : C := .seq (.seq (.pl <| .st (.ext 9 0) <|
    .st (.act none (.px (some 6) (.mv (.c (.int .i64 0))))) .done) K61_16) K61_1
@[simp] def W61_17 := @C.wpe _ _ K61_17.eq_1
def K61_18 : C := .pl <| .st (.ext 9 2) <|
    .st (.act none (.px (some 9) (.mv (.v 5)))) <|
    .st (.act none (.px (some 10) (.bin .add (.v 9) (.c (.int .i64 1))))) <|
    .st (.act none (.px (some 5) (.mv (.v 10)))) .done
@[simp] def W61_18 := @C.wpe _ _ K61_18.eq_1
def K61_19 : Pl := .st (.act none (.px (some 4) (.mv (.v 15)))) .done
@[simp] def W61_19 := @Pl.wpe _ _ K61_19.eq_1
def K61_20 : C := .pl <| .st (.ext 9 7) <|
    .st (.act none (.px (some 9) (.mv (.v 4)))) <|
    .st (.act none (.px (some 10) (.mv (.v 1)))) <|
    .st (.act none (.px (some 11) (.mv (.v 5)))) <|
    .st (.act none (.px (some 12) (.ia 1 (.v 10) (.v 11)))) <|
    .st (.act none (.ld (some 13) (.v 12) none)) <|
    .st (.act none (.psl 14 [.int .i64 0] [(0, 1, .v 13)])) <|
    .st (.act none (.ex (some 15) (.app 8 1 [.int .i64 0] (.o (.v 9)) (.p 1 14)))) K61_19
@[simp] def W61_20 := @C.wpe _ _ K61_20.eq_1
def K61_21 : C := .seq (.pl <| .st (.ext 9 6) <|
    .st (.act none (.px (some 9) (.mv (.v 3)))) <|
    .st (.act none (.px (some 10) (.mv (.v 1)))) <|
    .st (.act none (.px (some 11) (.mv (.v 5)))) <|
    .st (.act none (.px (some 12) (.ia 1 (.v 10) (.v 11)))) <|
    .st (.act none (.ld (some 13) (.v 12) none)) <|
    .st (.act none (.px (some 14) (.ia 1 (.v 9) (.v 13)))) <|
    .st (.act none (.ex none (.store 1 (.v 14) (.c (.bool true))))) .done) K61_20
@[simp] def W61_21 := @C.wpe _ _ K61_21.eq_1
def K61_22 : C := .cond 9 (.v 16) K61_21 (.skip)
@[simp] def W61_22 := @C.wpe _ _ K61_22.eq_1
def K61_23 : C := .seq (.block 1 (.seq (.pl <| .st (.ext 9 8) <|
    .st (.act none (.px (some 9) (.mv (.v 3)))) <|
    .st (.act none (.px (some 10) (.mv (.v 1)))) <|
    .st (.act none (.px (some 11) (.mv (.v 5)))) <|
    .st (.act none (.px (some 12) (.ia 1 (.v 10) (.v 11)))) <|
    .st (.act none (.ld (some 13) (.v 12) none)) <|
    .st (.act none (.px (some 14) (.ia 1 (.v 9) (.v 13)))) <|
    .st (.act none (.ld (some 15) (.v 14) none)) <|
    .st (.act none (.px (some 16) (.un .not (.v 15)))) .done) K61_22)) K61_18
@[simp] def W61_23 := @C.wpe _ _ K61_23.eq_1
def K61_24 : C := .cond 9 (.v 12) (.skip) (.exit 0)
@[simp] def W61_24 := @C.wpe _ _ K61_24.eq_1
def K61_25 : C := .seq (.seq (.pl <| .st (.ext 9 4) <|
    .st (.act none (.px (some 9) (.mv (.v 5)))) <|
    .st (.act none (.px (some 10) (.mv (.v 1)))) <|
    .st (.act none (.px (some 11) (.lenV (.v 10)))) <|
    .st (.act none (.px (some 12) (.bin .lss (.v 9) (.v 11)))) .done) K61_24) K61_23
@[simp] def W61_25 := @C.wpe _ _ K61_25.eq_1
def K61_26 : C := .block 0 (.loop 9 [2, 6, 7, 8] K61_25)
@[simp] def W61_26 := @C.wpe _ _ K61_26.eq_1
def K61_27 : C := .seq (.seq (.pl <| .st (.ext 9 0) <|
    .st (.act none (.px (some 5) (.mv (.c (.int .i64 0))))) .done) K61_26) K61_17
@[simp] def W61_27 := @C.wpe _ _ K61_27.eq_1
def K61_28 : Pl := .st (.act none (.px (some 4) (.mv (.v 9)))) .done
@[simp] def W61_28 := @Pl.wpe _ _ K61_28.eq_1
def K61_29 : C := .seq (.pl <| .st (.ext 9 1) <|
    .st (.act none (.ex (some 9) (.bls 1 0 [.int .i64 0] []))) K61_28) K61_27
@[simp] def W61_29 := @C.wpe _ _ K61_29.eq_1
def K61_30 : Pl := .st (.act none (.px (some 3) (.mv (.v 11)))) .done
@[simp] def W61_30 := @Pl.wpe _ _ K61_30.eq_1
def K61_31 : C := .seq (.pl <| .st (.ext 9 3) <|
    .st (.act none (.px (some 9) (.mv (.v 0)))) <|
    .st (.act none (.px (some 10) (.lenV (.v 9)))) <|
    .st (.act none (.ex (some 11) (.mks 1 1 [.bool false] (.v 10) (.v 10)))) K61_30) K61_29
@[simp] def W61_31 := @C.wpe _ _ K61_31.eq_1
def B_spec_l7Reach : C := .seq (.pl <| .st (.ext 9 0) <|
    .st (.act none (.px (some 2) (.mv (.c (.slice none 0 0))))) .done) K61_31
@[simp] def WB_spec_l7Reach := @C.wpe _ _ B_spec_l7Reach.eq_1
def R_spec_l7Reach : FIR := ⟨B_spec_l7Reach, 9, [(2, none)]⟩
theorem IR_spec_l7Reach : cfun Try.prog H_spec_l7Reach Try.f61 = some R_spec_l7Reach := by kernel_rfl
theorem EN_spec_l7Reach {args : List Value} {h : Heap} {k : Value → Heap → Prop} (hargs : args.length = 2) (hw : B_spec_l7Reach.wp Try.prog (retQ [(2, none)] k) (env0 args 9) h) : CallE Try.prog fn_spec_l7Reach args h k := enter Try.func61 rfl IR_spec_l7Reach hargs hw


end Go.Proofs.Ytknkjplnngeebaa
