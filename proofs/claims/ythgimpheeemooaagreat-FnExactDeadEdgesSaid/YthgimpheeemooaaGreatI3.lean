/-
  Bodies of functions in the small language, as a program printed them, and that each is what the translation gives.
-/
import Derived.Test.YthgimpheeemooaaGreatI1
namespace Go.Proofs.YthgimpheeemooaaGreat
open Go
set_option linter.all false
set_option linter.defProp false
set_option maxRecDepth 1000000

def H_laws_eqIntS : Hint := ⟨[(0, false), (1, false), (4, false), (5, false)], [[2]]⟩
def K39_1 : C := .seq (.pl <| .st (.ext 4 0) <|
    .st (.act none (.px (some 2) (.mv (.c (.bool true))))) .done) (.ret)
@[simp] def W39_1 := @C.wpe _ _ K39_1.eq_1
def K39_2 : C := .pl <| .st (.ext 4 2) <|
    .st (.act none (.px (some 4) (.mv (.v 3)))) <|
    .st (.act none (.px (some 5) (.bin .add (.v 4) (.c (.int .i64 1))))) <|
    .st (.act none (.px (some 3) (.mv (.v 5)))) .done
@[simp] def W39_2 := @C.wpe _ _ K39_2.eq_1
def K39_3 : C := .seq (.pl <| .st (.ext 4 0) <|
    .st (.act none (.px (some 2) (.mv (.c (.bool false))))) .done) (.ret)
@[simp] def W39_3 := @C.wpe _ _ K39_3.eq_1
def K39_4 : C := .cond 4 (.v 12) K39_3 (.skip)
@[simp] def W39_4 := @C.wpe _ _ K39_4.eq_1
def K39_5 : C := .seq (.block 1 (.seq (.pl <| .st (.ext 4 9) <|
    .st (.act none (.px (some 4) (.mv (.v 0)))) <|
    .st (.act none (.px (some 5) (.mv (.v 3)))) <|
    .st (.act none (.px (some 6) (.ia 1 (.v 4) (.v 5)))) <|
    .st (.act none (.ld (some 7) (.v 6) none)) <|
    .st (.act none (.px (some 8) (.mv (.v 1)))) <|
    .st (.act none (.px (some 9) (.mv (.v 3)))) <|
    .st (.act none (.px (some 10) (.ia 1 (.v 8) (.v 9)))) <|
    .st (.act none (.ld (some 11) (.v 10) none)) <|
    .st (.act none (.px (some 12) (.bin .neq (.v 7) (.v 11)))) .done) K39_4)) K39_2
@[simp] def W39_5 := @C.wpe _ _ K39_5.eq_1
def K39_6 : C := .cond 4 (.v 7) (.skip) (.exit 0)
@[simp] def W39_6 := @C.wpe _ _ K39_6.eq_1
def K39_7 : C := .seq (.seq (.pl <| .st (.ext 4 4) <|
    .st (.act none (.px (some 4) (.mv (.v 3)))) <|
    .st (.act none (.px (some 5) (.mv (.v 0)))) <|
    .st (.act none (.px (some 6) (.lenV (.v 5)))) <|
    .st (.act none (.px (some 7) (.bin .lss (.v 4) (.v 6)))) .done) K39_6) K39_5
@[simp] def W39_7 := @C.wpe _ _ K39_7.eq_1
def K39_8 : C := .block 0 (.loop 4 [2] K39_7)
@[simp] def W39_8 := @C.wpe _ _ K39_8.eq_1
def K39_9 : C := .seq (.seq (.pl <| .st (.ext 4 0) <|
    .st (.act none (.px (some 3) (.mv (.c (.int .i64 0))))) .done) K39_8) K39_1
@[simp] def W39_9 := @C.wpe _ _ K39_9.eq_1
def K39_10 : C := .seq (.pl <| .st (.ext 4 0) <|
    .st (.act none (.px (some 2) (.mv (.c (.bool false))))) .done) (.ret)
@[simp] def W39_10 := @C.wpe _ _ K39_10.eq_1
def K39_11 : C := .cond 4 (.v 8) K39_10 (.skip)
@[simp] def W39_11 := @C.wpe _ _ K39_11.eq_1
def K39_12 : C := .seq (.seq (.pl <| .st (.ext 4 5) <|
    .st (.act none (.px (some 4) (.mv (.v 0)))) <|
    .st (.act none (.px (some 5) (.lenV (.v 4)))) <|
    .st (.act none (.px (some 6) (.mv (.v 1)))) <|
    .st (.act none (.px (some 7) (.lenV (.v 6)))) <|
    .st (.act none (.px (some 8) (.bin .neq (.v 5) (.v 7)))) .done) K39_11) K39_9
@[simp] def W39_12 := @C.wpe _ _ K39_12.eq_1
def B_laws_eqIntS : C := .seq (.pl <| .st (.ext 4 0) <|
    .st (.act none (.px (some 2) (.mv (.c (.bool false))))) .done) K39_12
@[simp] def WB_laws_eqIntS := @C.wpe _ _ B_laws_eqIntS.eq_1
def R_laws_eqIntS : FIR := ⟨B_laws_eqIntS, 4, [(2, none)]⟩
theorem IR_laws_eqIntS : cfun Tryz.prog H_laws_eqIntS Tryz.f39 = some R_laws_eqIntS := by kernel_rfl
theorem EN_laws_eqIntS {args : List Value} {h : Heap} {k : Value → Heap → Prop} (hargs : args.length = 2) (hw : B_laws_eqIntS.wp Tryz.prog (retQ [(2, none)] k) (env0 args 4) h) : CallE Tryz.prog fn_laws_eqIntS args h k := enter Tryz.func39 rfl IR_laws_eqIntS hargs hw

def H_laws_eqProcess : Hint := ⟨[(0, false), (1, false), (2, true), (3, true), (4, false)], []⟩
def K74_1 : C := .seq (.pl <| .st (.ext 5 0) <|
    .st (.act none (.px (some 4) (.mv (.c (.bool true))))) .done) (.ret)
@[simp] def W74_1 := @C.wpe _ _ K74_1.eq_1
def K74_2 : C := .seq (.pl <| .st (.ext 5 0) <|
    .st (.act none (.px (some 4) (.mv (.c (.bool false))))) .done) (.ret)
@[simp] def W74_2 := @C.wpe _ _ K74_2.eq_1
def K74_3 : C := .cond 5 (.v 10) K74_2 (.skip)
@[simp] def W74_3 := @C.wpe _ _ K74_3.eq_1
def K74_4 : Pl := .st (.act none (.px (some 10) (.un .not (.v 9)))) .done
@[simp] def W74_4 := @Pl.wpe _ _ K74_4.eq_1
def K74_5 : C := .seq (.seq (.pl <| .st (.ext 5 6) <|
    .st (.act none (.als 5 none 2)) <|
    .st (.act none (.pget (some 6) (some 5) 2 1 none)) <|
    .st (.act none (.als 7 none 3)) <|
    .st (.act none (.pget (some 8) (some 7) 3 1 none)) <|
    .st (.act none (.ex (some 9) (.call fn_laws_eqEdgeS [.v 6, .v 8]))) K74_4) K74_3) K74_1
@[simp] def W74_5 := @C.wpe _ _ K74_5.eq_1
def K74_6 : C := .seq (.pl <| .st (.ext 5 0) <|
    .st (.act none (.px (some 4) (.mv (.c (.bool false))))) .done) (.ret)
@[simp] def W74_6 := @C.wpe _ _ K74_6.eq_1
def K74_7 : C := .cond 5 (.v 9) K74_6 (.skip)
@[simp] def W74_7 := @C.wpe _ _ K74_7.eq_1
def K74_8 : C := .seq (.seq (.pl <| .st (.ext 5 5) <|
    .st (.act none (.als 5 none 2)) <|
    .st (.act none (.pget (some 6) (some 5) 2 0 none)) <|
    .st (.act none (.als 7 none 3)) <|
    .st (.act none (.pget (some 8) (some 7) 3 0 none)) <|
    .st (.act none (.px (some 9) (.bin .neq (.v 6) (.v 8)))) .done) K74_7) K74_5
@[simp] def W74_8 := @C.wpe _ _ K74_8.eq_1
def B_laws_eqProcess : C := .seq (.pl <| .st (.ext 5 0) <|
    .st (.act none (.pnew 2 (.v 0) [])) <|
    .st (.act none (.pnew 3 (.v 1) [])) <|
    .st (.act none (.px (some 4) (.mv (.c (.bool false))))) .done) K74_8
@[simp] def WB_laws_eqProcess := @C.wpe _ _ B_laws_eqProcess.eq_1
def R_laws_eqProcess : FIR := ⟨B_laws_eqProcess, 5, [(4, none)]⟩
theorem IR_laws_eqProcess : cfun Tryz.prog H_laws_eqProcess Tryz.f74 = some R_laws_eqProcess := by kernel_rfl
theorem EN_laws_eqProcess {args : List Value} {h : Heap} {k : Value → Heap → Prop} (hargs : args.length = 2) (hw : B_laws_eqProcess.wp Tryz.prog (retQ [(4, none)] k) (env0 args 5) h) : CallE Tryz.prog fn_laws_eqProcess args h k := enter Tryz.func74 rfl IR_laws_eqProcess hargs hw

def H_laws_eqProcessS : Hint := ⟨[(0, false), (1, false), (4, false), (5, false)], [[2]]⟩
def K40_1 : C := .seq (.pl <| .st (.ext 4 0) <|
    .st (.act none (.px (some 2) (.mv (.c (.bool true))))) .done) (.ret)
@[simp] def W40_1 := @C.wpe _ _ K40_1.eq_1
def K40_2 : C := .pl <| .st (.ext 4 2) <|
    .st (.act none (.px (some 4) (.mv (.v 3)))) <|
    .st (.act none (.px (some 5) (.bin .add (.v 4) (.c (.int .i64 1))))) <|
    .st (.act none (.px (some 3) (.mv (.v 5)))) .done
@[simp] def W40_2 := @C.wpe _ _ K40_2.eq_1
def K40_3 : C := .seq (.pl <| .st (.ext 4 0) <|
    .st (.act none (.px (some 2) (.mv (.c (.bool false))))) .done) (.ret)
@[simp] def W40_3 := @C.wpe _ _ K40_3.eq_1
def K40_4 : C := .cond 4 (.v 13) K40_3 (.skip)
@[simp] def W40_4 := @C.wpe _ _ K40_4.eq_1
def K40_5 : Pl := .st (.act none (.px (some 13) (.un .not (.v 12)))) .done
@[simp] def W40_5 := @Pl.wpe _ _ K40_5.eq_1
def K40_6 : C := .seq (.block 1 (.seq (.pl <| .st (.ext 4 10) <|
    .st (.act none (.px (some 4) (.mv (.v 0)))) <|
    .st (.act none (.px (some 5) (.mv (.v 3)))) <|
    .st (.act none (.px (some 6) (.ia 2 (.v 4) (.v 5)))) <|
    .st (.act none (.ld (some 7) (.v 6) (some 2))) <|
    .st (.act none (.px (some 8) (.mv (.v 1)))) <|
    .st (.act none (.px (some 9) (.mv (.v 3)))) <|
    .st (.act none (.px (some 10) (.ia 2 (.v 8) (.v 9)))) <|
    .st (.act none (.ld (some 11) (.v 10) (some 2))) <|
    .st (.act none (.ex (some 12) (.call fn_laws_eqProcess [.v 7, .v 11]))) K40_5) K40_4)) K40_2
@[simp] def W40_6 := @C.wpe _ _ K40_6.eq_1
def K40_7 : C := .cond 4 (.v 7) (.skip) (.exit 0)
@[simp] def W40_7 := @C.wpe _ _ K40_7.eq_1
def K40_8 : C := .seq (.seq (.pl <| .st (.ext 4 4) <|
    .st (.act none (.px (some 4) (.mv (.v 3)))) <|
    .st (.act none (.px (some 5) (.mv (.v 0)))) <|
    .st (.act none (.px (some 6) (.lenV (.v 5)))) <|
    .st (.act none (.px (some 7) (.bin .lss (.v 4) (.v 6)))) .done) K40_7) K40_6
@[simp] def W40_8 := @C.wpe _ _ K40_8.eq_1
def K40_9 : C := .block 0 (.loop 4 [2] K40_8)
@[simp] def W40_9 := @C.wpe _ _ K40_9.eq_1
def K40_10 : C := .seq (.seq (.pl <| .st (.ext 4 0) <|
    .st (.act none (.px (some 3) (.mv (.c (.int .i64 0))))) .done) K40_9) K40_1
@[simp] def W40_10 := @C.wpe _ _ K40_10.eq_1
def K40_11 : C := .seq (.pl <| .st (.ext 4 0) <|
    .st (.act none (.px (some 2) (.mv (.c (.bool false))))) .done) (.ret)
@[simp] def W40_11 := @C.wpe _ _ K40_11.eq_1
def K40_12 : C := .cond 4 (.v 8) K40_11 (.skip)
@[simp] def W40_12 := @C.wpe _ _ K40_12.eq_1
def K40_13 : C := .seq (.seq (.pl <| .st (.ext 4 5) <|
    .st (.act none (.px (some 4) (.mv (.v 0)))) <|
    .st (.act none (.px (some 5) (.lenV (.v 4)))) <|
    .st (.act none (.px (some 6) (.mv (.v 1)))) <|
    .st (.act none (.px (some 7) (.lenV (.v 6)))) <|
    .st (.act none (.px (some 8) (.bin .neq (.v 5) (.v 7)))) .done) K40_12) K40_10
@[simp] def W40_13 := @C.wpe _ _ K40_13.eq_1
def B_laws_eqProcessS : C := .seq (.pl <| .st (.ext 4 0) <|
    .st (.act none (.px (some 2) (.mv (.c (.bool false))))) .done) K40_13
@[simp] def WB_laws_eqProcessS := @C.wpe _ _ B_laws_eqProcessS.eq_1
def R_laws_eqProcessS : FIR := ⟨B_laws_eqProcessS, 4, [(2, none)]⟩
theorem IR_laws_eqProcessS : cfun Tryz.prog H_laws_eqProcessS Tryz.f40 = some R_laws_eqProcessS := by kernel_rfl
theorem EN_laws_eqProcessS {args : List Value} {h : Heap} {k : Value → Heap → Prop} (hargs : args.length = 2) (hw : B_laws_eqProcessS.wp Tryz.prog (retQ [(2, none)] k) (env0 args 4) h) : CallE Tryz.prog fn_laws_eqProcessS args h k := enter Tryz.func40 rfl IR_laws_eqProcessS hargs hw

def H_laws_eqSystem : Hint := ⟨[(0, false), (1, false), (2, true), (3, true), (4, false)], []⟩
def K12_1 : C := .seq (.pl <| .st (.ext 5 0) <|
    .st (.act none (.px (some 4) (.mv (.c (.bool true))))) .done) (.ret)
@[simp] def W12_1 := @C.wpe _ _ K12_1.eq_1
def K12_2 : C := .seq (.pl <| .st (.ext 5 0) <|
    .st (.act none (.px (some 4) (.mv (.c (.bool false))))) .done) (.ret)
@[simp] def W12_2 := @C.wpe _ _ K12_2.eq_1
def K12_3 : C := .cond 5 (.v 10) K12_2 (.skip)
@[simp] def W12_3 := @C.wpe _ _ K12_3.eq_1
def K12_4 : Pl := .st (.act none (.px (some 10) (.un .not (.v 9)))) .done
@[simp] def W12_4 := @Pl.wpe _ _ K12_4.eq_1
def K12_5 : C := .seq (.seq (.pl <| .st (.ext 5 6) <|
    .st (.act none (.als 5 none 2)) <|
    .st (.act none (.pget (some 6) (some 5) 2 1 none)) <|
    .st (.act none (.als 7 none 3)) <|
    .st (.act none (.pget (some 8) (some 7) 3 1 none)) <|
    .st (.act none (.ex (some 9) (.call fn_laws_eqProcessS [.v 6, .v 8]))) K12_4) K12_3) K12_1
@[simp] def W12_5 := @C.wpe _ _ K12_5.eq_1
def K12_6 : C := .seq (.pl <| .st (.ext 5 0) <|
    .st (.act none (.px (some 4) (.mv (.c (.bool false))))) .done) (.ret)
@[simp] def W12_6 := @C.wpe _ _ K12_6.eq_1
def K12_7 : C := .cond 5 (.v 10) K12_6 (.skip)
@[simp] def W12_7 := @C.wpe _ _ K12_7.eq_1
def K12_8 : Pl := .st (.act none (.px (some 10) (.un .not (.v 9)))) .done
@[simp] def W12_8 := @Pl.wpe _ _ K12_8.eq_1
def K12_9 : C := .seq (.seq (.pl <| .st (.ext 5 6) <|
    .st (.act none (.als 5 none 2)) <|
    .st (.act none (.pget (some 6) (some 5) 2 0 none)) <|
    .st (.act none (.als 7 none 3)) <|
    .st (.act none (.pget (some 8) (some 7) 3 0 none)) <|
    .st (.act none (.ex (some 9) (.call fn_laws_eqIntS [.v 6, .v 8]))) K12_8) K12_7) K12_5
@[simp] def W12_9 := @C.wpe _ _ K12_9.eq_1
def B_laws_eqSystem : C := .seq (.pl <| .st (.ext 5 0) <|
    .st (.act none (.pnew 2 (.v 0) [])) <|
    .st (.act none (.pnew 3 (.v 1) [])) <|
    .st (.act none (.px (some 4) (.mv (.c (.bool false))))) .done) K12_9
@[simp] def WB_laws_eqSystem := @C.wpe _ _ B_laws_eqSystem.eq_1
def R_laws_eqSystem : FIR := ⟨B_laws_eqSystem, 5, [(4, none)]⟩
theorem IR_laws_eqSystem : cfun Tryz.prog H_laws_eqSystem Tryz.f12 = some R_laws_eqSystem := by kernel_rfl
theorem EN_laws_eqSystem {args : List Value} {h : Heap} {k : Value → Heap → Prop} (hargs : args.length = 2) (hw : B_laws_eqSystem.wp Tryz.prog (retQ [(4, none)] k) (env0 args 5) h) : CallE Tryz.prog fn_laws_eqSystem args h k := enter Tryz.func12 rfl IR_laws_eqSystem hargs hw

def H_laws_markEdgeS : Hint := ⟨[(0, false), (1, false), (4, false), (5, false)], [[2]]⟩
def K75_1 : C := .seq (.pl <| .st (.ext 4 1) <|
    .st (.act none (.px (some 4) (.mv (.v 1)))) <|
    .st (.act none (.px (some 2) (.mv (.v 4)))) .done) (.ret)
@[simp] def W75_1 := @C.wpe _ _ K75_1.eq_1
def K75_2 : C := .pl <| .st (.ext 4 2) <|
    .st (.act none (.px (some 4) (.mv (.v 3)))) <|
    .st (.act none (.px (some 5) (.bin .add (.v 4) (.c (.int .i64 1))))) <|
    .st (.act none (.px (some 3) (.mv (.v 5)))) .done
@[simp] def W75_2 := @C.wpe _ _ K75_2.eq_1
def K75_3 : C := .pl <| .st (.ext 4 2) <|
    .st (.act none (.px (some 4) (.mv (.v 1)))) <|
    .st (.act none (.px (some 5) (.bin .add (.v 4) (.c (.int .i64 1))))) <|
    .st (.act none (.px (some 1) (.mv (.v 5)))) .done
@[simp] def W75_3 := @C.wpe _ _ K75_3.eq_1
def K75_4 : C := .seq (.pl <| .st (.ext 4 5) <|
    .st (.act none (.px (some 4) (.mv (.v 0)))) <|
    .st (.act none (.px (some 5) (.mv (.v 3)))) <|
    .st (.act none (.px (some 6) (.mv (.v 1)))) <|
    .st (.act none (.px (some 7) (.ia 10 (.v 4) (.v 5)))) <|
    .st (.act none (.px (some 8) (.fa 9 (.v 7)))) <|
    .st (.act none (.ex none (.store 1 (.v 8) (.v 6)))) .done) K75_3
@[simp] def W75_4 := @C.wpe _ _ K75_4.eq_1
def K75_5 : Pl := .st (.act none (.px (some 1) (.mv (.v 11)))) .done
@[simp] def W75_5 := @Pl.wpe _ _ K75_5.eq_1
def K75_6 : C := .seq (.pl <| .st (.ext 4 8) <|
    .st (.act none (.px (some 4) (.mv (.v 0)))) <|
    .st (.act none (.px (some 5) (.mv (.v 3)))) <|
    .st (.act none (.px (some 6) (.ia 10 (.v 4) (.v 5)))) <|
    .st (.act none (.px (some 7) (.fa 6 (.v 6)))) <|
    .st (.act none (.px (some 8) (.fa 2 (.v 7)))) <|
    .st (.act none (.ld (some 9) (.v 8) none)) <|
    .st (.act none (.px (some 10) (.mv (.v 1)))) <|
    .st (.act none (.ex (some 11) (.call fn_laws_markExprS [.v 9, .v 10]))) K75_5) K75_4
@[simp] def W75_6 := @C.wpe _ _ K75_6.eq_1
def K75_7 : C := .seq (.pl <| .st (.ext 4 2) <|
    .st (.act none (.px (some 4) (.mv (.v 1)))) <|
    .st (.act none (.px (some 5) (.bin .add (.v 4) (.c (.int .i64 1))))) <|
    .st (.act none (.px (some 1) (.mv (.v 5)))) .done) K75_6
@[simp] def W75_7 := @C.wpe _ _ K75_7.eq_1
def K75_8 : C := .seq (.pl <| .st (.ext 4 6) <|
    .st (.act none (.px (some 4) (.mv (.v 0)))) <|
    .st (.act none (.px (some 5) (.mv (.v 3)))) <|
    .st (.act none (.px (some 6) (.mv (.v 1)))) <|
    .st (.act none (.px (some 7) (.ia 10 (.v 4) (.v 5)))) <|
    .st (.act none (.px (some 8) (.fa 6 (.v 7)))) <|
    .st (.act none (.px (some 9) (.fa 1 (.v 8)))) <|
    .st (.act none (.ex none (.store 1 (.v 9) (.v 6)))) .done) K75_7
@[simp] def W75_8 := @C.wpe _ _ K75_8.eq_1
def K75_9 : C := .seq (.pl <| .st (.ext 4 2) <|
    .st (.act none (.px (some 4) (.mv (.v 1)))) <|
    .st (.act none (.px (some 5) (.bin .add (.v 4) (.c (.int .i64 1))))) <|
    .st (.act none (.px (some 1) (.mv (.v 5)))) .done) K75_8
@[simp] def W75_9 := @C.wpe _ _ K75_9.eq_1
def K75_10 : C := .seq (.pl <| .st (.ext 4 6) <|
    .st (.act none (.px (some 4) (.mv (.v 0)))) <|
    .st (.act none (.px (some 5) (.mv (.v 3)))) <|
    .st (.act none (.px (some 6) (.mv (.v 1)))) <|
    .st (.act none (.px (some 7) (.ia 10 (.v 4) (.v 5)))) <|
    .st (.act none (.px (some 8) (.fa 6 (.v 7)))) <|
    .st (.act none (.px (some 9) (.fa 0 (.v 8)))) <|
    .st (.act none (.ex none (.store 1 (.v 9) (.v 6)))) .done) K75_9
@[simp] def W75_10 := @C.wpe _ _ K75_10.eq_1
def K75_11 : C := .seq (.pl <| .st (.ext 4 2) <|
    .st (.act none (.px (some 4) (.mv (.v 1)))) <|
    .st (.act none (.px (some 5) (.bin .add (.v 4) (.c (.int .i64 1))))) <|
    .st (.act none (.px (some 1) (.mv (.v 5)))) .done) K75_10
@[simp] def W75_11 := @C.wpe _ _ K75_11.eq_1
def K75_12 : C := .seq (.pl <| .st (.ext 4 5) <|
    .st (.act none (.px (some 4) (.mv (.v 0)))) <|
    .st (.act none (.px (some 5) (.mv (.v 3)))) <|
    .st (.act none (.px (some 6) (.mv (.v 1)))) <|
    .st (.act none (.px (some 7) (.ia 10 (.v 4) (.v 5)))) <|
    .st (.act none (.px (some 8) (.fa 5 (.v 7)))) <|
    .st (.act none (.ex none (.store 1 (.v 8) (.v 6)))) .done) K75_11
@[simp] def W75_12 := @C.wpe _ _ K75_12.eq_1
def K75_13 : Pl := .st (.act none (.px (some 1) (.mv (.v 11)))) .done
@[simp] def W75_13 := @Pl.wpe _ _ K75_13.eq_1
def K75_14 : C := .seq (.pl <| .st (.ext 4 8) <|
    .st (.act none (.px (some 4) (.mv (.v 0)))) <|
    .st (.act none (.px (some 5) (.mv (.v 3)))) <|
    .st (.act none (.px (some 6) (.ia 10 (.v 4) (.v 5)))) <|
    .st (.act none (.px (some 7) (.fa 2 (.v 6)))) <|
    .st (.act none (.px (some 8) (.fa 2 (.v 7)))) <|
    .st (.act none (.ld (some 9) (.v 8) none)) <|
    .st (.act none (.px (some 10) (.mv (.v 1)))) <|
    .st (.act none (.ex (some 11) (.call fn_laws_markExprS [.v 9, .v 10]))) K75_13) K75_12
@[simp] def W75_14 := @C.wpe _ _ K75_14.eq_1
def K75_15 : C := .seq (.pl <| .st (.ext 4 2) <|
    .st (.act none (.px (some 4) (.mv (.v 1)))) <|
    .st (.act none (.px (some 5) (.bin .add (.v 4) (.c (.int .i64 1))))) <|
    .st (.act none (.px (some 1) (.mv (.v 5)))) .done) K75_14
@[simp] def W75_15 := @C.wpe _ _ K75_15.eq_1
def K75_16 : C := .seq (.pl <| .st (.ext 4 6) <|
    .st (.act none (.px (some 4) (.mv (.v 0)))) <|
    .st (.act none (.px (some 5) (.mv (.v 3)))) <|
    .st (.act none (.px (some 6) (.mv (.v 1)))) <|
    .st (.act none (.px (some 7) (.ia 10 (.v 4) (.v 5)))) <|
    .st (.act none (.px (some 8) (.fa 2 (.v 7)))) <|
    .st (.act none (.px (some 9) (.fa 1 (.v 8)))) <|
    .st (.act none (.ex none (.store 1 (.v 9) (.v 6)))) .done) K75_15
@[simp] def W75_16 := @C.wpe _ _ K75_16.eq_1
def K75_17 : C := .seq (.pl <| .st (.ext 4 2) <|
    .st (.act none (.px (some 4) (.mv (.v 1)))) <|
    .st (.act none (.px (some 5) (.bin .add (.v 4) (.c (.int .i64 1))))) <|
    .st (.act none (.px (some 1) (.mv (.v 5)))) .done) K75_16
@[simp] def W75_17 := @C.wpe _ _ K75_17.eq_1
def K75_18 : C := .seq (.pl <| .st (.ext 4 6) <|
    .st (.act none (.px (some 4) (.mv (.v 0)))) <|
    .st (.act none (.px (some 5) (.mv (.v 3)))) <|
    .st (.act none (.px (some 6) (.mv (.v 1)))) <|
    .st (.act none (.px (some 7) (.ia 10 (.v 4) (.v 5)))) <|
    .st (.act none (.px (some 8) (.fa 2 (.v 7)))) <|
    .st (.act none (.px (some 9) (.fa 0 (.v 8)))) <|
    .st (.act none (.ex none (.store 1 (.v 9) (.v 6)))) .done) K75_17
@[simp] def W75_18 := @C.wpe _ _ K75_18.eq_1
def K75_19 : C := .seq (.pl <| .st (.ext 4 2) <|
    .st (.act none (.px (some 4) (.mv (.v 1)))) <|
    .st (.act none (.px (some 5) (.bin .add (.v 4) (.c (.int .i64 1))))) <|
    .st (.act none (.px (some 1) (.mv (.v 5)))) .done) K75_18
@[simp] def W75_19 := @C.wpe _ _ K75_19.eq_1
def K75_20 : C := .seq (.pl <| .st (.ext 4 5) <|
    .st (.act none (.px (some 4) (.mv (.v 0)))) <|
    .st (.act none (.px (some 5) (.mv (.v 3)))) <|
    .st (.act none (.px (some 6) (.mv (.v 1)))) <|
    .st (.act none (.px (some 7) (.ia 10 (.v 4) (.v 5)))) <|
    .st (.act none (.px (some 8) (.fa 1 (.v 7)))) <|
    .st (.act none (.ex none (.store 1 (.v 8) (.v 6)))) .done) K75_19
@[simp] def W75_20 := @C.wpe _ _ K75_20.eq_1
def K75_21 : C := .seq (.pl <| .st (.ext 4 2) <|
    .st (.act none (.px (some 4) (.mv (.v 1)))) <|
    .st (.act none (.px (some 5) (.bin .add (.v 4) (.c (.int .i64 1))))) <|
    .st (.act none (.px (some 1) (.mv (.v 5)))) .done) K75_20
@[simp] def W75_21 := @C.wpe _ _ K75_21.eq_1
def K75_22 : C := .seq (.block 1 (.seq (.pl <| .st (.ext 4 5) <|
    .st (.act none (.px (some 4) (.mv (.v 0)))) <|
    .st (.act none (.px (some 5) (.mv (.v 3)))) <|
    .st (.act none (.px (some 6) (.mv (.v 1)))) <|
    .st (.act none (.px (some 7) (.ia 10 (.v 4) (.v 5)))) <|
    .st (.act none (.px (some 8) (.fa 0 (.v 7)))) <|
    .st (.act none (.ex none (.store 1 (.v 8) (.v 6)))) .done) K75_21)) K75_2
@[simp] def W75_22 := @C.wpe _ _ K75_22.eq_1
def K75_23 : C := .cond 4 (.v 7) (.skip) (.exit 0)
@[simp] def W75_23 := @C.wpe _ _ K75_23.eq_1
def K75_24 : C := .seq (.seq (.pl <| .st (.ext 4 4) <|
    .st (.act none (.px (some 4) (.mv (.v 3)))) <|
    .st (.act none (.px (some 5) (.mv (.v 0)))) <|
    .st (.act none (.px (some 6) (.lenV (.v 5)))) <|
    .st (.act none (.px (some 7) (.bin .lss (.v 4) (.v 6)))) .done) K75_23) K75_22
@[simp] def W75_24 := @C.wpe _ _ K75_24.eq_1
def K75_25 : C := .block 0 (.loop 4 [2] K75_24)
@[simp] def W75_25 := @C.wpe _ _ K75_25.eq_1
def K75_26 : C := .seq (.seq (.pl <| .st (.ext 4 0) <|
    .st (.act none (.px (some 3) (.mv (.c (.int .i64 0))))) .done) K75_25) K75_1
@[simp] def W75_26 := @C.wpe _ _ K75_26.eq_1
def B_laws_markEdgeS : C := .seq (.pl <| .st (.ext 4 0) <|
    .st (.act none (.px (some 2) (.mv (.c (.int .i64 0))))) .done) K75_26
@[simp] def WB_laws_markEdgeS := @C.wpe _ _ B_laws_markEdgeS.eq_1
def R_laws_markEdgeS : FIR := ⟨B_laws_markEdgeS, 4, [(2, none)]⟩
theorem IR_laws_markEdgeS : cfun Tryz.prog H_laws_markEdgeS Tryz.f75 = some R_laws_markEdgeS := by kernel_rfl
theorem EN_laws_markEdgeS {args : List Value} {h : Heap} {k : Value → Heap → Prop} (hargs : args.length = 2) (hw : B_laws_markEdgeS.wp Tryz.prog (retQ [(2, none)] k) (env0 args 4) h) : CallE Tryz.prog fn_laws_markEdgeS args h k := enter Tryz.func75 rfl IR_laws_markEdgeS hargs hw

def H_laws_markExprS : Hint := ⟨[(0, false), (1, false), (4, false), (5, false)], [[2]]⟩
def K64_1 : C := .seq (.pl <| .st (.ext 4 1) <|
    .st (.act none (.px (some 4) (.mv (.v 1)))) <|
    .st (.act none (.px (some 2) (.mv (.v 4)))) .done) (.ret)
@[simp] def W64_1 := @C.wpe _ _ K64_1.eq_1
def K64_2 : C := .pl <| .st (.ext 4 2) <|
    .st (.act none (.px (some 4) (.mv (.v 3)))) <|
    .st (.act none (.px (some 5) (.bin .add (.v 4) (.c (.int .i64 1))))) <|
    .st (.act none (.px (some 3) (.mv (.v 5)))) .done
@[simp] def W64_2 := @C.wpe _ _ K64_2.eq_1
def K64_3 : Pl := .st (.act none (.px (some 1) (.mv (.v 10)))) .done
@[simp] def W64_3 := @Pl.wpe _ _ K64_3.eq_1
def K64_4 : C := .pl <| .st (.ext 4 7) <|
    .st (.act none (.px (some 4) (.mv (.v 0)))) <|
    .st (.act none (.px (some 5) (.mv (.v 3)))) <|
    .st (.act none (.px (some 6) (.ia 3 (.v 4) (.v 5)))) <|
    .st (.act none (.px (some 7) (.fa 2 (.v 6)))) <|
    .st (.act none (.ld (some 8) (.v 7) none)) <|
    .st (.act none (.px (some 9) (.mv (.v 1)))) <|
    .st (.act none (.ex (some 10) (.call fn_laws_markExprS [.v 8, .v 9]))) K64_3
@[simp] def W64_4 := @C.wpe _ _ K64_4.eq_1
def K64_5 : C := .seq (.pl <| .st (.ext 4 2) <|
    .st (.act none (.px (some 4) (.mv (.v 1)))) <|
    .st (.act none (.px (some 5) (.bin .add (.v 4) (.c (.int .i64 1))))) <|
    .st (.act none (.px (some 1) (.mv (.v 5)))) .done) K64_4
@[simp] def W64_5 := @C.wpe _ _ K64_5.eq_1
def K64_6 : C := .seq (.pl <| .st (.ext 4 5) <|
    .st (.act none (.px (some 4) (.mv (.v 0)))) <|
    .st (.act none (.px (some 5) (.mv (.v 3)))) <|
    .st (.act none (.px (some 6) (.mv (.v 1)))) <|
    .st (.act none (.px (some 7) (.ia 3 (.v 4) (.v 5)))) <|
    .st (.act none (.px (some 8) (.fa 1 (.v 7)))) <|
    .st (.act none (.ex none (.store 1 (.v 8) (.v 6)))) .done) K64_5
@[simp] def W64_6 := @C.wpe _ _ K64_6.eq_1
def K64_7 : C := .seq (.pl <| .st (.ext 4 2) <|
    .st (.act none (.px (some 4) (.mv (.v 1)))) <|
    .st (.act none (.px (some 5) (.bin .add (.v 4) (.c (.int .i64 1))))) <|
    .st (.act none (.px (some 1) (.mv (.v 5)))) .done) K64_6
@[simp] def W64_7 := @C.wpe _ _ K64_7.eq_1
def K64_8 : C := .seq (.block 1 (.seq (.pl <| .st (.ext 4 5) <|
    .st (.act none (.px (some 4) (.mv (.v 0)))) <|
    .st (.act none (.px (some 5) (.mv (.v 3)))) <|
    .st (.act none (.px (some 6) (.mv (.v 1)))) <|
    .st (.act none (.px (some 7) (.ia 3 (.v 4) (.v 5)))) <|
    .st (.act none (.px (some 8) (.fa 0 (.v 7)))) <|
    .st (.act none (.ex none (.store 1 (.v 8) (.v 6)))) .done) K64_7)) K64_2
@[simp] def W64_8 := @C.wpe _ _ K64_8.eq_1
def K64_9 : C := .cond 4 (.v 7) (.skip) (.exit 0)
@[simp] def W64_9 := @C.wpe _ _ K64_9.eq_1
def K64_10 : C := .seq (.seq (.pl <| .st (.ext 4 4) <|
    .st (.act none (.px (some 4) (.mv (.v 3)))) <|
    .st (.act none (.px (some 5) (.mv (.v 0)))) <|
    .st (.act none (.px (some 6) (.lenV (.v 5)))) <|
    .st (.act none (.px (some 7) (.bin .lss (.v 4) (.v 6)))) .done) K64_9) K64_8
@[simp] def W64_10 := @C.wpe _ _ K64_10.eq_1
def K64_11 : C := .block 0 (.loop 4 [2] K64_10)
@[simp] def W64_11 := @C.wpe _ _ K64_11.eq_1
def K64_12 : C := .seq (.seq (.pl <| .st (.ext 4 0) <|
    .st (.act none (.px (some 3) (.mv (.c (.int .i64 0))))) .done) K64_11) K64_1
@[simp] def W64_12 := @C.wpe _ _ K64_12.eq_1
def B_laws_markExprS : C := .seq (.pl <| .st (.ext 4 0) <|
    .st (.act none (.px (some 2) (.mv (.c (.int .i64 0))))) .done) K64_12
@[simp] def WB_laws_markExprS := @C.wpe _ _ B_laws_markExprS.eq_1
def R_laws_markExprS : FIR := ⟨B_laws_markExprS, 4, [(2, none)]⟩
theorem IR_laws_markExprS : cfun Tryz.prog H_laws_markExprS Tryz.f64 = some R_laws_markExprS := by kernel_rfl
theorem EN_laws_markExprS {args : List Value} {h : Heap} {k : Value → Heap → Prop} (hargs : args.length = 2) (hw : B_laws_markExprS.wp Tryz.prog (retQ [(2, none)] k) (env0 args 4) h) : CallE Tryz.prog fn_laws_markExprS args h k := enter Tryz.func64 rfl IR_laws_markExprS hargs hw

def H_laws_markIntS : Hint := ⟨[(0, false), (1, false), (4, false), (5, false)], [[2]]⟩
def K41_1 : C := .seq (.pl <| .st (.ext 4 1) <|
    .st (.act none (.px (some 4) (.mv (.v 1)))) <|
    .st (.act none (.px (some 2) (.mv (.v 4)))) .done) (.ret)
@[simp] def W41_1 := @C.wpe _ _ K41_1.eq_1
def K41_2 : C := .pl <| .st (.ext 4 2) <|
    .st (.act none (.px (some 4) (.mv (.v 3)))) <|
    .st (.act none (.px (some 5) (.bin .add (.v 4) (.c (.int .i64 1))))) <|
    .st (.act none (.px (some 3) (.mv (.v 5)))) .done
@[simp] def W41_2 := @C.wpe _ _ K41_2.eq_1
def K41_3 : C := .pl <| .st (.ext 4 2) <|
    .st (.act none (.px (some 4) (.mv (.v 1)))) <|
    .st (.act none (.px (some 5) (.bin .add (.v 4) (.c (.int .i64 1))))) <|
    .st (.act none (.px (some 1) (.mv (.v 5)))) .done
@[simp] def W41_3 := @C.wpe _ _ K41_3.eq_1
def K41_4 : C := .seq (.block 1 (.seq (.pl <| .st (.ext 4 4) <|
    .st (.act none (.px (some 4) (.mv (.v 0)))) <|
    .st (.act none (.px (some 5) (.mv (.v 3)))) <|
    .st (.act none (.px (some 6) (.mv (.v 1)))) <|
    .st (.act none (.px (some 7) (.ia 1 (.v 4) (.v 5)))) <|
    .st (.act none (.ex none (.store 1 (.v 7) (.v 6)))) .done) K41_3)) K41_2
@[simp] def W41_4 := @C.wpe _ _ K41_4.eq_1
def K41_5 : C := .cond 4 (.v 7) (.skip) (.exit 0)
@[simp] def W41_5 := @C.wpe _ _ K41_5.eq_1
def K41_6 : C := .seq (.seq (.pl <| .st (.ext 4 4) <|
    .st (.act none (.px (some 4) (.mv (.v 3)))) <|
    .st (.act none (.px (some 5) (.mv (.v 0)))) <|
    .st (.act none (.px (some 6) (.lenV (.v 5)))) <|
    .st (.act none (.px (some 7) (.bin .lss (.v 4) (.v 6)))) .done) K41_5) K41_4
@[simp] def W41_6 := @C.wpe _ _ K41_6.eq_1
def K41_7 : C := .block 0 (.loop 4 [2] K41_6)
@[simp] def W41_7 := @C.wpe _ _ K41_7.eq_1
def K41_8 : C := .seq (.seq (.pl <| .st (.ext 4 0) <|
    .st (.act none (.px (some 3) (.mv (.c (.int .i64 0))))) .done) K41_7) K41_1
@[simp] def W41_8 := @C.wpe _ _ K41_8.eq_1
def B_laws_markIntS : C := .seq (.pl <| .st (.ext 4 0) <|
    .st (.act none (.px (some 2) (.mv (.c (.int .i64 0))))) .done) K41_8
@[simp] def WB_laws_markIntS := @C.wpe _ _ B_laws_markIntS.eq_1
def R_laws_markIntS : FIR := ⟨B_laws_markIntS, 4, [(2, none)]⟩
theorem IR_laws_markIntS : cfun Tryz.prog H_laws_markIntS Tryz.f41 = some R_laws_markIntS := by kernel_rfl
theorem EN_laws_markIntS {args : List Value} {h : Heap} {k : Value → Heap → Prop} (hargs : args.length = 2) (hw : B_laws_markIntS.wp Tryz.prog (retQ [(2, none)] k) (env0 args 4) h) : CallE Tryz.prog fn_laws_markIntS args h k := enter Tryz.func41 rfl IR_laws_markIntS hargs hw

def H_laws_markProcessS : Hint := ⟨[(0, false), (1, false), (4, false), (5, false)], [[2]]⟩
def K42_1 : C := .seq (.pl <| .st (.ext 4 1) <|
    .st (.act none (.px (some 4) (.mv (.v 1)))) <|
    .st (.act none (.px (some 2) (.mv (.v 4)))) .done) (.ret)
@[simp] def W42_1 := @C.wpe _ _ K42_1.eq_1
def K42_2 : C := .pl <| .st (.ext 4 2) <|
    .st (.act none (.px (some 4) (.mv (.v 3)))) <|
    .st (.act none (.px (some 5) (.bin .add (.v 4) (.c (.int .i64 1))))) <|
    .st (.act none (.px (some 3) (.mv (.v 5)))) .done
@[simp] def W42_2 := @C.wpe _ _ K42_2.eq_1
def K42_3 : Pl := .st (.act none (.px (some 1) (.mv (.v 10)))) .done
@[simp] def W42_3 := @Pl.wpe _ _ K42_3.eq_1
def K42_4 : C := .pl <| .st (.ext 4 7) <|
    .st (.act none (.px (some 4) (.mv (.v 0)))) <|
    .st (.act none (.px (some 5) (.mv (.v 3)))) <|
    .st (.act none (.px (some 6) (.ia 2 (.v 4) (.v 5)))) <|
    .st (.act none (.px (some 7) (.fa 1 (.v 6)))) <|
    .st (.act none (.ld (some 8) (.v 7) none)) <|
    .st (.act none (.px (some 9) (.mv (.v 1)))) <|
    .st (.act none (.ex (some 10) (.call fn_laws_markEdgeS [.v 8, .v 9]))) K42_3
@[simp] def W42_4 := @C.wpe _ _ K42_4.eq_1
def K42_5 : C := .seq (.pl <| .st (.ext 4 2) <|
    .st (.act none (.px (some 4) (.mv (.v 1)))) <|
    .st (.act none (.px (some 5) (.bin .add (.v 4) (.c (.int .i64 1))))) <|
    .st (.act none (.px (some 1) (.mv (.v 5)))) .done) K42_4
@[simp] def W42_5 := @C.wpe _ _ K42_5.eq_1
def K42_6 : C := .seq (.block 1 (.seq (.pl <| .st (.ext 4 5) <|
    .st (.act none (.px (some 4) (.mv (.v 0)))) <|
    .st (.act none (.px (some 5) (.mv (.v 3)))) <|
    .st (.act none (.px (some 6) (.mv (.v 1)))) <|
    .st (.act none (.px (some 7) (.ia 2 (.v 4) (.v 5)))) <|
    .st (.act none (.px (some 8) (.fa 0 (.v 7)))) <|
    .st (.act none (.ex none (.store 1 (.v 8) (.v 6)))) .done) K42_5)) K42_2
@[simp] def W42_6 := @C.wpe _ _ K42_6.eq_1
def K42_7 : C := .cond 4 (.v 7) (.skip) (.exit 0)
@[simp] def W42_7 := @C.wpe _ _ K42_7.eq_1
def K42_8 : C := .seq (.seq (.pl <| .st (.ext 4 4) <|
    .st (.act none (.px (some 4) (.mv (.v 3)))) <|
    .st (.act none (.px (some 5) (.mv (.v 0)))) <|
    .st (.act none (.px (some 6) (.lenV (.v 5)))) <|
    .st (.act none (.px (some 7) (.bin .lss (.v 4) (.v 6)))) .done) K42_7) K42_6
@[simp] def W42_8 := @C.wpe _ _ K42_8.eq_1
def K42_9 : C := .block 0 (.loop 4 [2] K42_8)
@[simp] def W42_9 := @C.wpe _ _ K42_9.eq_1
def K42_10 : C := .seq (.seq (.pl <| .st (.ext 4 0) <|
    .st (.act none (.px (some 3) (.mv (.c (.int .i64 0))))) .done) K42_9) K42_1
@[simp] def W42_10 := @C.wpe _ _ K42_10.eq_1
def B_laws_markProcessS : C := .seq (.pl <| .st (.ext 4 0) <|
    .st (.act none (.px (some 2) (.mv (.c (.int .i64 0))))) .done) K42_10
@[simp] def WB_laws_markProcessS := @C.wpe _ _ B_laws_markProcessS.eq_1
def R_laws_markProcessS : FIR := ⟨B_laws_markProcessS, 4, [(2, none)]⟩
theorem IR_laws_markProcessS : cfun Tryz.prog H_laws_markProcessS Tryz.f42 = some R_laws_markProcessS := by kernel_rfl
theorem EN_laws_markProcessS {args : List Value} {h : Heap} {k : Value → Heap → Prop} (hargs : args.length = 2) (hw : B_laws_markProcessS.wp Tryz.prog (retQ [(2, none)] k) (env0 args 4) h) : CallE Tryz.prog fn_laws_markProcessS args h k := enter Tryz.func42 rfl IR_laws_markProcessS hargs hw

def H_laws_markSystem : Hint := ⟨[(0, false), (1, false), (2, true), (4, false)], []⟩
def K13_1 : C := .seq (.pl <| .st (.ext 4 1) <|
    .st (.act none (.px (some 4) (.mv (.v 1)))) <|
    .st (.act none (.px (some 3) (.mv (.v 4)))) .done) (.ret)
@[simp] def W13_1 := @C.wpe _ _ K13_1.eq_1
def K13_2 : Pl := .st (.act none (.px (some 1) (.mv (.v 7)))) .done
@[simp] def W13_2 := @Pl.wpe _ _ K13_2.eq_1
def K13_3 : C := .seq (.pl <| .st (.ext 4 4) <|
    .st (.act none (.als 4 none 2)) <|
    .st (.act none (.pget (some 5) (some 4) 2 1 none)) <|
    .st (.act none (.px (some 6) (.mv (.v 1)))) <|
    .st (.act none (.ex (some 7) (.call fn_laws_markProcessS [.v 5, .v 6]))) K13_2) K13_1
@[simp] def W13_3 := @C.wpe _ _ K13_3.eq_1
def K13_4 : Pl := .st (.act none (.px (some 1) (.mv (.v 7)))) .done
@[simp] def W13_4 := @Pl.wpe _ _ K13_4.eq_1
def K13_5 : C := .seq (.pl <| .st (.ext 4 4) <|
    .st (.act none (.als 4 none 2)) <|
    .st (.act none (.pget (some 5) (some 4) 2 0 none)) <|
    .st (.act none (.px (some 6) (.mv (.v 1)))) <|
    .st (.act none (.ex (some 7) (.call fn_laws_markIntS [.v 5, .v 6]))) K13_4) K13_3
@[simp] def W13_5 := @C.wpe _ _ K13_5.eq_1
def B_laws_markSystem : C := .seq (.pl <| .st (.ext 4 0) <|
    .st (.act none (.pnew 2 (.v 0) [])) <|
    .st (.act none (.px (some 3) (.mv (.c (.int .i64 0))))) .done) K13_5
@[simp] def WB_laws_markSystem := @C.wpe _ _ B_laws_markSystem.eq_1
def R_laws_markSystem : FIR := ⟨B_laws_markSystem, 4, [(3, none)]⟩
theorem IR_laws_markSystem : cfun Tryz.prog H_laws_markSystem Tryz.f13 = some R_laws_markSystem := by kernel_rfl
theorem EN_laws_markSystem {args : List Value} {h : Heap} {k : Value → Heap → Prop} (hargs : args.length = 2) (hw : B_laws_markSystem.wp Tryz.prog (retQ [(3, none)] k) (env0 args 4) h) : CallE Tryz.prog fn_laws_markSystem args h k := enter Tryz.func13 rfl IR_laws_markSystem hargs hw

def H_laws_szEdge : Hint := ⟨[(0, false), (1, false), (2, true), (4, false)], []⟩
def K122_1 : C := .seq (.pl <| .st (.ext 4 1) <|
    .st (.act none (.px (some 4) (.mv (.v 1)))) <|
    .st (.act none (.px (some 3) (.mv (.v 4)))) .done) (.ret)
@[simp] def W122_1 := @C.wpe _ _ K122_1.eq_1
def K122_2 : C := .seq (.pl <| .st (.ext 4 0) <|
    .st (.act none (.px (some 3) (.mv (.c (.int .i64 (-1)))))) .done) (.ret)
@[simp] def W122_2 := @C.wpe _ _ K122_2.eq_1
def K122_3 : C := .cond 4 (.v 5) K122_2 (.skip)
@[simp] def W122_3 := @C.wpe _ _ K122_3.eq_1
def K122_4 : C := .seq (.seq (.pl <| .st (.ext 4 2) <|
    .st (.act none (.px (some 4) (.mv (.v 1)))) <|
    .st (.act none (.px (some 5) (.bin .lss (.v 4) (.c (.int .i64 0))))) .done) K122_3) K122_1
@[simp] def W122_4 := @C.wpe _ _ K122_4.eq_1
def K122_5 : Pl := .st (.act none (.px (some 1) (.mv (.v 7)))) .done
@[simp] def W122_5 := @Pl.wpe _ _ K122_5.eq_1
def K122_6 : C := .seq (.pl <| .st (.ext 4 4) <|
    .st (.act none (.als 4 none 2)) <|
    .st (.act none (.pget (some 5) (some 4) 2 6 (some 3))) <|
    .st (.act none (.px (some 6) (.mv (.v 1)))) <|
    .st (.act none (.ex (some 7) (.call fn_laws_szExpr [.v 5, .v 6]))) K122_5) K122_4
@[simp] def W122_6 := @C.wpe _ _ K122_6.eq_1
def K122_7 : C := .seq (.pl <| .st (.ext 4 0) <|
    .st (.act none (.px (some 3) (.mv (.c (.int .i64 (-1)))))) .done) (.ret)
@[simp] def W122_7 := @C.wpe _ _ K122_7.eq_1
def K122_8 : C := .cond 4 (.v 5) K122_7 (.skip)
@[simp] def W122_8 := @C.wpe _ _ K122_8.eq_1
def K122_9 : C := .seq (.seq (.pl <| .st (.ext 4 2) <|
    .st (.act none (.px (some 4) (.mv (.v 1)))) <|
    .st (.act none (.px (some 5) (.bin .lss (.v 4) (.c (.int .i64 0))))) .done) K122_8) K122_6
@[simp] def W122_9 := @C.wpe _ _ K122_9.eq_1
def K122_10 : Pl := .st (.act none (.px (some 1) (.mv (.v 7)))) .done
@[simp] def W122_10 := @Pl.wpe _ _ K122_10.eq_1
def K122_11 : C := .seq (.pl <| .st (.ext 4 4) <|
    .st (.act none (.als 4 none 2)) <|
    .st (.act none (.pget (some 5) (some 4) 2 2 (some 3))) <|
    .st (.act none (.px (some 6) (.mv (.v 1)))) <|
    .st (.act none (.ex (some 7) (.call fn_laws_szExpr [.v 5, .v 6]))) K122_10) K122_9
@[simp] def W122_11 := @C.wpe _ _ K122_11.eq_1
def B_laws_szEdge : C := .seq (.pl <| .st (.ext 4 0) <|
    .st (.act none (.pnew 2 (.v 0) [])) <|
    .st (.act none (.px (some 3) (.mv (.c (.int .i64 0))))) .done) K122_11
@[simp] def WB_laws_szEdge := @C.wpe _ _ B_laws_szEdge.eq_1
def R_laws_szEdge : FIR := ⟨B_laws_szEdge, 4, [(3, none)]⟩
theorem IR_laws_szEdge : cfun Tryz.prog H_laws_szEdge Tryz.f122 = some R_laws_szEdge := by kernel_rfl
theorem EN_laws_szEdge {args : List Value} {h : Heap} {k : Value → Heap → Prop} (hargs : args.length = 2) (hw : B_laws_szEdge.wp Tryz.prog (retQ [(3, none)] k) (env0 args 4) h) : CallE Tryz.prog fn_laws_szEdge args h k := enter Tryz.func122 rfl IR_laws_szEdge hargs hw

def H_laws_szEdgeS : Hint := ⟨[(0, false), (1, false), (4, false), (5, false)], [[2]]⟩
def K104_1 : C := .seq (.pl <| .st (.ext 4 1) <|
    .st (.act none (.px (some 4) (.mv (.v 1)))) <|
    .st (.act none (.px (some 2) (.mv (.v 4)))) .done) (.ret)
@[simp] def W104_1 := @C.wpe _ _ K104_1.eq_1
def K104_2 : C := .pl <| .st (.ext 4 2) <|
    .st (.act none (.px (some 4) (.mv (.v 3)))) <|
    .st (.act none (.px (some 5) (.bin .add (.v 4) (.c (.int .i64 1))))) <|
    .st (.act none (.px (some 3) (.mv (.v 5)))) .done
@[simp] def W104_2 := @C.wpe _ _ K104_2.eq_1
def K104_3 : C := .seq (.pl <| .st (.ext 4 0) <|
    .st (.act none (.px (some 2) (.mv (.c (.int .i64 (-1)))))) .done) (.ret)
@[simp] def W104_3 := @C.wpe _ _ K104_3.eq_1
def K104_4 : C := .cond 4 (.v 5) K104_3 (.skip)
@[simp] def W104_4 := @C.wpe _ _ K104_4.eq_1
def K104_5 : C := .seq (.pl <| .st (.ext 4 2) <|
    .st (.act none (.px (some 4) (.mv (.v 1)))) <|
    .st (.act none (.px (some 5) (.bin .lss (.v 4) (.c (.int .i64 0))))) .done) K104_4
@[simp] def W104_5 := @C.wpe _ _ K104_5.eq_1
def K104_6 : Pl := .st (.act none (.px (some 1) (.mv (.v 9)))) .done
@[simp] def W104_6 := @Pl.wpe _ _ K104_6.eq_1
def K104_7 : C := .seq (.block 1 (.seq (.pl <| .st (.ext 4 6) <|
    .st (.act none (.px (some 4) (.mv (.v 0)))) <|
    .st (.act none (.px (some 5) (.mv (.v 3)))) <|
    .st (.act none (.px (some 6) (.ia 10 (.v 4) (.v 5)))) <|
    .st (.act none (.ld (some 7) (.v 6) (some 10))) <|
    .st (.act none (.px (some 8) (.mv (.v 1)))) <|
    .st (.act none (.ex (some 9) (.call fn_laws_szEdge [.v 7, .v 8]))) K104_6) K104_5)) K104_2
@[simp] def W104_7 := @C.wpe _ _ K104_7.eq_1
def K104_8 : C := .cond 4 (.v 7) (.skip) (.exit 0)
@[simp] def W104_8 := @C.wpe _ _ K104_8.eq_1
def K104_9 : C := .seq (.seq (.pl <| .st (.ext 4 4) <|
    .st (.act none (.px (some 4) (.mv (.v 3)))) <|
    .st (.act none (.px (some 5) (.mv (.v 0)))) <|
    .st (.act none (.px (some 6) (.lenV (.v 5)))) <|
    .st (.act none (.px (some 7) (.bin .lss (.v 4) (.v 6)))) .done) K104_8) K104_7
@[simp] def W104_9 := @C.wpe _ _ K104_9.eq_1
def K104_10 : C := .block 0 (.loop 4 [2] K104_9)
@[simp] def W104_10 := @C.wpe _ _ K104_10.eq_1
def K104_11 : C := .seq (.seq (.pl <| .st (.ext 4 0) <|
    .st (.act none (.px (some 3) (.mv (.c (.int .i64 0))))) .done) K104_10) K104_1
@[simp] def W104_11 := @C.wpe _ _ K104_11.eq_1
def K104_12 : C := .seq (.pl <| .st (.ext 4 0) <|
    .st (.act none (.px (some 2) (.mv (.c (.int .i64 (-1)))))) .done) (.ret)
@[simp] def W104_12 := @C.wpe _ _ K104_12.eq_1
def K104_13 : C := .cond 4 (.v 5) K104_12 (.skip)
@[simp] def W104_13 := @C.wpe _ _ K104_13.eq_1
def K104_14 : C := .seq (.seq (.pl <| .st (.ext 4 2) <|
    .st (.act none (.px (some 4) (.mv (.v 1)))) <|
    .st (.act none (.px (some 5) (.bin .lss (.v 4) (.c (.int .i64 0))))) .done) K104_13) K104_11
@[simp] def W104_14 := @C.wpe _ _ K104_14.eq_1
def K104_15 : C := .seq (.pl <| .st (.ext 4 4) <|
    .st (.act none (.px (some 4) (.mv (.v 1)))) <|
    .st (.act none (.px (some 5) (.mv (.v 0)))) <|
    .st (.act none (.px (some 6) (.lenV (.v 5)))) <|
    .st (.act none (.px (some 7) (.bin .sub (.v 4) (.v 6)))) <|
    .st (.act none (.px (some 1) (.mv (.v 7)))) .done) K104_14
@[simp] def W104_15 := @C.wpe _ _ K104_15.eq_1
def B_laws_szEdgeS : C := .seq (.pl <| .st (.ext 4 0) <|
    .st (.act none (.px (some 2) (.mv (.c (.int .i64 0))))) .done) K104_15
@[simp] def WB_laws_szEdgeS := @C.wpe _ _ B_laws_szEdgeS.eq_1
def R_laws_szEdgeS : FIR := ⟨B_laws_szEdgeS, 4, [(2, none)]⟩
theorem IR_laws_szEdgeS : cfun Tryz.prog H_laws_szEdgeS Tryz.f104 = some R_laws_szEdgeS := by kernel_rfl
theorem EN_laws_szEdgeS {args : List Value} {h : Heap} {k : Value → Heap → Prop} (hargs : args.length = 2) (hw : B_laws_szEdgeS.wp Tryz.prog (retQ [(2, none)] k) (env0 args 4) h) : CallE Tryz.prog fn_laws_szEdgeS args h k := enter Tryz.func104 rfl IR_laws_szEdgeS hargs hw

def H_laws_szExpr : Hint := ⟨[(0, false), (1, false), (2, true), (4, false)], []⟩
def K21_1 : C := .seq (.pl <| .st (.ext 4 1) <|
    .st (.act none (.px (some 4) (.mv (.v 1)))) <|
    .st (.act none (.px (some 3) (.mv (.v 4)))) .done) (.ret)
@[simp] def W21_1 := @C.wpe _ _ K21_1.eq_1
def K21_2 : C := .seq (.pl <| .st (.ext 4 0) <|
    .st (.act none (.px (some 3) (.mv (.c (.int .i64 (-1)))))) .done) (.ret)
@[simp] def W21_2 := @C.wpe _ _ K21_2.eq_1
def K21_3 : C := .cond 4 (.v 5) K21_2 (.skip)
@[simp] def W21_3 := @C.wpe _ _ K21_3.eq_1
def K21_4 : C := .seq (.seq (.pl <| .st (.ext 4 2) <|
    .st (.act none (.px (some 4) (.mv (.v 1)))) <|
    .st (.act none (.px (some 5) (.bin .lss (.v 4) (.c (.int .i64 0))))) .done) K21_3) K21_1
@[simp] def W21_4 := @C.wpe _ _ K21_4.eq_1
def K21_5 : Pl := .st (.act none (.px (some 1) (.mv (.v 7)))) .done
@[simp] def W21_5 := @Pl.wpe _ _ K21_5.eq_1
def K21_6 : C := .seq (.pl <| .st (.ext 4 4) <|
    .st (.act none (.als 4 none 2)) <|
    .st (.act none (.pget (some 5) (some 4) 2 2 none)) <|
    .st (.act none (.px (some 6) (.mv (.v 1)))) <|
    .st (.act none (.ex (some 7) (.call fn_laws_szExprS [.v 5, .v 6]))) K21_5) K21_4
@[simp] def W21_6 := @C.wpe _ _ K21_6.eq_1
def B_laws_szExpr : C := .seq (.pl <| .st (.ext 4 0) <|
    .st (.act none (.pnew 2 (.v 0) [])) <|
    .st (.act none (.px (some 3) (.mv (.c (.int .i64 0))))) .done) K21_6
@[simp] def WB_laws_szExpr := @C.wpe _ _ B_laws_szExpr.eq_1
def R_laws_szExpr : FIR := ⟨B_laws_szExpr, 4, [(3, none)]⟩
theorem IR_laws_szExpr : cfun Tryz.prog H_laws_szExpr Tryz.f21 = some R_laws_szExpr := by kernel_rfl
theorem EN_laws_szExpr {args : List Value} {h : Heap} {k : Value → Heap → Prop} (hargs : args.length = 2) (hw : B_laws_szExpr.wp Tryz.prog (retQ [(3, none)] k) (env0 args 4) h) : CallE Tryz.prog fn_laws_szExpr args h k := enter Tryz.func21 rfl IR_laws_szExpr hargs hw

def H_laws_szExprS : Hint := ⟨[(0, false), (1, false), (4, false), (5, false)], [[2]]⟩
def K52_1 : C := .seq (.pl <| .st (.ext 4 1) <|
    .st (.act none (.px (some 4) (.mv (.v 1)))) <|
    .st (.act none (.px (some 2) (.mv (.v 4)))) .done) (.ret)
@[simp] def W52_1 := @C.wpe _ _ K52_1.eq_1
def K52_2 : C := .pl <| .st (.ext 4 2) <|
    .st (.act none (.px (some 4) (.mv (.v 3)))) <|
    .st (.act none (.px (some 5) (.bin .add (.v 4) (.c (.int .i64 1))))) <|
    .st (.act none (.px (some 3) (.mv (.v 5)))) .done
@[simp] def W52_2 := @C.wpe _ _ K52_2.eq_1
def K52_3 : C := .seq (.pl <| .st (.ext 4 0) <|
    .st (.act none (.px (some 2) (.mv (.c (.int .i64 (-1)))))) .done) (.ret)
@[simp] def W52_3 := @C.wpe _ _ K52_3.eq_1
def K52_4 : C := .cond 4 (.v 5) K52_3 (.skip)
@[simp] def W52_4 := @C.wpe _ _ K52_4.eq_1
def K52_5 : C := .seq (.pl <| .st (.ext 4 2) <|
    .st (.act none (.px (some 4) (.mv (.v 1)))) <|
    .st (.act none (.px (some 5) (.bin .lss (.v 4) (.c (.int .i64 0))))) .done) K52_4
@[simp] def W52_5 := @C.wpe _ _ K52_5.eq_1
def K52_6 : Pl := .st (.act none (.px (some 1) (.mv (.v 9)))) .done
@[simp] def W52_6 := @Pl.wpe _ _ K52_6.eq_1
def K52_7 : C := .seq (.block 1 (.seq (.pl <| .st (.ext 4 6) <|
    .st (.act none (.px (some 4) (.mv (.v 0)))) <|
    .st (.act none (.px (some 5) (.mv (.v 3)))) <|
    .st (.act none (.px (some 6) (.ia 3 (.v 4) (.v 5)))) <|
    .st (.act none (.ld (some 7) (.v 6) (some 3))) <|
    .st (.act none (.px (some 8) (.mv (.v 1)))) <|
    .st (.act none (.ex (some 9) (.call fn_laws_szExpr [.v 7, .v 8]))) K52_6) K52_5)) K52_2
@[simp] def W52_7 := @C.wpe _ _ K52_7.eq_1
def K52_8 : C := .cond 4 (.v 7) (.skip) (.exit 0)
@[simp] def W52_8 := @C.wpe _ _ K52_8.eq_1
def K52_9 : C := .seq (.seq (.pl <| .st (.ext 4 4) <|
    .st (.act none (.px (some 4) (.mv (.v 3)))) <|
    .st (.act none (.px (some 5) (.mv (.v 0)))) <|
    .st (.act none (.px (some 6) (.lenV (.v 5)))) <|
    .st (.act none (.px (some 7) (.bin .lss (.v 4) (.v 6)))) .done) K52_8) K52_7
@[simp] def W52_9 := @C.wpe _ _ K52_9.eq_1
def K52_10 : C := .block 0 (.loop 4 [2] K52_9)
@[simp] def W52_10 := @C.wpe _ _ K52_10.eq_1
def K52_11 : C := .seq (.seq (.pl <| .st (.ext 4 0) <|
    .st (.act none (.px (some 3) (.mv (.c (.int .i64 0))))) .done) K52_10) K52_1
@[simp] def W52_11 := @C.wpe _ _ K52_11.eq_1
def K52_12 : C := .seq (.pl <| .st (.ext 4 0) <|
    .st (.act none (.px (some 2) (.mv (.c (.int .i64 (-1)))))) .done) (.ret)
@[simp] def W52_12 := @C.wpe _ _ K52_12.eq_1
def K52_13 : C := .cond 4 (.v 5) K52_12 (.skip)
@[simp] def W52_13 := @C.wpe _ _ K52_13.eq_1
def K52_14 : C := .seq (.seq (.pl <| .st (.ext 4 2) <|
    .st (.act none (.px (some 4) (.mv (.v 1)))) <|
    .st (.act none (.px (some 5) (.bin .lss (.v 4) (.c (.int .i64 0))))) .done) K52_13) K52_11
@[simp] def W52_14 := @C.wpe _ _ K52_14.eq_1
def K52_15 : C := .seq (.pl <| .st (.ext 4 4) <|
    .st (.act none (.px (some 4) (.mv (.v 1)))) <|
    .st (.act none (.px (some 5) (.mv (.v 0)))) <|
    .st (.act none (.px (some 6) (.lenV (.v 5)))) <|
    .st (.act none (.px (some 7) (.bin .sub (.v 4) (.v 6)))) <|
    .st (.act none (.px (some 1) (.mv (.v 7)))) .done) K52_14
@[simp] def W52_15 := @C.wpe _ _ K52_15.eq_1
def B_laws_szExprS : C := .seq (.pl <| .st (.ext 4 0) <|
    .st (.act none (.px (some 2) (.mv (.c (.int .i64 0))))) .done) K52_15
@[simp] def WB_laws_szExprS := @C.wpe _ _ B_laws_szExprS.eq_1
def R_laws_szExprS : FIR := ⟨B_laws_szExprS, 4, [(2, none)]⟩
theorem IR_laws_szExprS : cfun Tryz.prog H_laws_szExprS Tryz.f52 = some R_laws_szExprS := by kernel_rfl
theorem EN_laws_szExprS {args : List Value} {h : Heap} {k : Value → Heap → Prop} (hargs : args.length = 2) (hw : B_laws_szExprS.wp Tryz.prog (retQ [(2, none)] k) (env0 args 4) h) : CallE Tryz.prog fn_laws_szExprS args h k := enter Tryz.func52 rfl IR_laws_szExprS hargs hw

def H_laws_szIntS : Hint := ⟨[(0, false), (1, false), (4, false)], []⟩
def K32_1 : C := .seq (.pl <| .st (.ext 3 1) <|
    .st (.act none (.px (some 3) (.mv (.v 1)))) <|
    .st (.act none (.px (some 2) (.mv (.v 3)))) .done) (.ret)
@[simp] def W32_1 := @C.wpe _ _ K32_1.eq_1
def K32_2 : C := .seq (.pl <| .st (.ext 3 0) <|
    .st (.act none (.px (some 2) (.mv (.c (.int .i64 (-1)))))) .done) (.ret)
@[simp] def W32_2 := @C.wpe _ _ K32_2.eq_1
def K32_3 : C := .cond 3 (.v 4) K32_2 (.skip)
@[simp] def W32_3 := @C.wpe _ _ K32_3.eq_1
def K32_4 : C := .seq (.seq (.pl <| .st (.ext 3 2) <|
    .st (.act none (.px (some 3) (.mv (.v 1)))) <|
    .st (.act none (.px (some 4) (.bin .lss (.v 3) (.c (.int .i64 0))))) .done) K32_3) K32_1
@[simp] def W32_4 := @C.wpe _ _ K32_4.eq_1
def K32_5 : C := .seq (.pl <| .st (.ext 3 4) <|
    .st (.act none (.px (some 3) (.mv (.v 1)))) <|
    .st (.act none (.px (some 4) (.mv (.v 0)))) <|
    .st (.act none (.px (some 5) (.lenV (.v 4)))) <|
    .st (.act none (.px (some 6) (.bin .sub (.v 3) (.v 5)))) <|
    .st (.act none (.px (some 1) (.mv (.v 6)))) .done) K32_4
@[simp] def W32_5 := @C.wpe _ _ K32_5.eq_1
def B_laws_szIntS : C := .seq (.pl <| .st (.ext 3 0) <|
    .st (.act none (.px (some 2) (.mv (.c (.int .i64 0))))) .done) K32_5
@[simp] def WB_laws_szIntS := @C.wpe _ _ B_laws_szIntS.eq_1
def R_laws_szIntS : FIR := ⟨B_laws_szIntS, 3, [(2, none)]⟩
theorem IR_laws_szIntS : cfun Tryz.prog H_laws_szIntS Tryz.f32 = some R_laws_szIntS := by kernel_rfl
theorem EN_laws_szIntS {args : List Value} {h : Heap} {k : Value → Heap → Prop} (hargs : args.length = 2) (hw : B_laws_szIntS.wp Tryz.prog (retQ [(2, none)] k) (env0 args 3) h) : CallE Tryz.prog fn_laws_szIntS args h k := enter Tryz.func32 rfl IR_laws_szIntS hargs hw

def H_laws_szProcess : Hint := ⟨[(0, false), (1, false), (2, true), (4, false)], []⟩
def K68_1 : C := .seq (.pl <| .st (.ext 4 1) <|
    .st (.act none (.px (some 4) (.mv (.v 1)))) <|
    .st (.act none (.px (some 3) (.mv (.v 4)))) .done) (.ret)
@[simp] def W68_1 := @C.wpe _ _ K68_1.eq_1
def K68_2 : C := .seq (.pl <| .st (.ext 4 0) <|
    .st (.act none (.px (some 3) (.mv (.c (.int .i64 (-1)))))) .done) (.ret)
@[simp] def W68_2 := @C.wpe _ _ K68_2.eq_1
def K68_3 : C := .cond 4 (.v 5) K68_2 (.skip)
@[simp] def W68_3 := @C.wpe _ _ K68_3.eq_1
def K68_4 : C := .seq (.seq (.pl <| .st (.ext 4 2) <|
    .st (.act none (.px (some 4) (.mv (.v 1)))) <|
    .st (.act none (.px (some 5) (.bin .lss (.v 4) (.c (.int .i64 0))))) .done) K68_3) K68_1
@[simp] def W68_4 := @C.wpe _ _ K68_4.eq_1
def K68_5 : Pl := .st (.act none (.px (some 1) (.mv (.v 7)))) .done
@[simp] def W68_5 := @Pl.wpe _ _ K68_5.eq_1
def K68_6 : C := .seq (.pl <| .st (.ext 4 4) <|
    .st (.act none (.als 4 none 2)) <|
    .st (.act none (.pget (some 5) (some 4) 2 1 none)) <|
    .st (.act none (.px (some 6) (.mv (.v 1)))) <|
    .st (.act none (.ex (some 7) (.call fn_laws_szEdgeS [.v 5, .v 6]))) K68_5) K68_4
@[simp] def W68_6 := @C.wpe _ _ K68_6.eq_1
def B_laws_szProcess : C := .seq (.pl <| .st (.ext 4 0) <|
    .st (.act none (.pnew 2 (.v 0) [])) <|
    .st (.act none (.px (some 3) (.mv (.c (.int .i64 0))))) .done) K68_6
@[simp] def WB_laws_szProcess := @C.wpe _ _ B_laws_szProcess.eq_1
def R_laws_szProcess : FIR := ⟨B_laws_szProcess, 4, [(3, none)]⟩
theorem IR_laws_szProcess : cfun Tryz.prog H_laws_szProcess Tryz.f68 = some R_laws_szProcess := by kernel_rfl
theorem EN_laws_szProcess {args : List Value} {h : Heap} {k : Value → Heap → Prop} (hargs : args.length = 2) (hw : B_laws_szProcess.wp Tryz.prog (retQ [(3, none)] k) (env0 args 4) h) : CallE Tryz.prog fn_laws_szProcess args h k := enter Tryz.func68 rfl IR_laws_szProcess hargs hw

def H_laws_szProcessS : Hint := ⟨[(0, false), (1, false), (4, false), (5, false)], [[2]]⟩
def K33_1 : C := .seq (.pl <| .st (.ext 4 1) <|
    .st (.act none (.px (some 4) (.mv (.v 1)))) <|
    .st (.act none (.px (some 2) (.mv (.v 4)))) .done) (.ret)
@[simp] def W33_1 := @C.wpe _ _ K33_1.eq_1
def K33_2 : C := .pl <| .st (.ext 4 2) <|
    .st (.act none (.px (some 4) (.mv (.v 3)))) <|
    .st (.act none (.px (some 5) (.bin .add (.v 4) (.c (.int .i64 1))))) <|
    .st (.act none (.px (some 3) (.mv (.v 5)))) .done
@[simp] def W33_2 := @C.wpe _ _ K33_2.eq_1
def K33_3 : C := .seq (.pl <| .st (.ext 4 0) <|
    .st (.act none (.px (some 2) (.mv (.c (.int .i64 (-1)))))) .done) (.ret)
@[simp] def W33_3 := @C.wpe _ _ K33_3.eq_1
def K33_4 : C := .cond 4 (.v 5) K33_3 (.skip)
@[simp] def W33_4 := @C.wpe _ _ K33_4.eq_1
def K33_5 : C := .seq (.pl <| .st (.ext 4 2) <|
    .st (.act none (.px (some 4) (.mv (.v 1)))) <|
    .st (.act none (.px (some 5) (.bin .lss (.v 4) (.c (.int .i64 0))))) .done) K33_4
@[simp] def W33_5 := @C.wpe _ _ K33_5.eq_1
def K33_6 : Pl := .st (.act none (.px (some 1) (.mv (.v 9)))) .done
@[simp] def W33_6 := @Pl.wpe _ _ K33_6.eq_1
def K33_7 : C := .seq (.block 1 (.seq (.pl <| .st (.ext 4 6) <|
    .st (.act none (.px (some 4) (.mv (.v 0)))) <|
    .st (.act none (.px (some 5) (.mv (.v 3)))) <|
    .st (.act none (.px (some 6) (.ia 2 (.v 4) (.v 5)))) <|
    .st (.act none (.ld (some 7) (.v 6) (some 2))) <|
    .st (.act none (.px (some 8) (.mv (.v 1)))) <|
    .st (.act none (.ex (some 9) (.call fn_laws_szProcess [.v 7, .v 8]))) K33_6) K33_5)) K33_2
@[simp] def W33_7 := @C.wpe _ _ K33_7.eq_1
def K33_8 : C := .cond 4 (.v 7) (.skip) (.exit 0)
@[simp] def W33_8 := @C.wpe _ _ K33_8.eq_1
def K33_9 : C := .seq (.seq (.pl <| .st (.ext 4 4) <|
    .st (.act none (.px (some 4) (.mv (.v 3)))) <|
    .st (.act none (.px (some 5) (.mv (.v 0)))) <|
    .st (.act none (.px (some 6) (.lenV (.v 5)))) <|
    .st (.act none (.px (some 7) (.bin .lss (.v 4) (.v 6)))) .done) K33_8) K33_7
@[simp] def W33_9 := @C.wpe _ _ K33_9.eq_1
def K33_10 : C := .block 0 (.loop 4 [2] K33_9)
@[simp] def W33_10 := @C.wpe _ _ K33_10.eq_1
def K33_11 : C := .seq (.seq (.pl <| .st (.ext 4 0) <|
    .st (.act none (.px (some 3) (.mv (.c (.int .i64 0))))) .done) K33_10) K33_1
@[simp] def W33_11 := @C.wpe _ _ K33_11.eq_1
def K33_12 : C := .seq (.pl <| .st (.ext 4 0) <|
    .st (.act none (.px (some 2) (.mv (.c (.int .i64 (-1)))))) .done) (.ret)
@[simp] def W33_12 := @C.wpe _ _ K33_12.eq_1
def K33_13 : C := .cond 4 (.v 5) K33_12 (.skip)
@[simp] def W33_13 := @C.wpe _ _ K33_13.eq_1
def K33_14 : C := .seq (.seq (.pl <| .st (.ext 4 2) <|
    .st (.act none (.px (some 4) (.mv (.v 1)))) <|
    .st (.act none (.px (some 5) (.bin .lss (.v 4) (.c (.int .i64 0))))) .done) K33_13) K33_11
@[simp] def W33_14 := @C.wpe _ _ K33_14.eq_1
def K33_15 : C := .seq (.pl <| .st (.ext 4 4) <|
    .st (.act none (.px (some 4) (.mv (.v 1)))) <|
    .st (.act none (.px (some 5) (.mv (.v 0)))) <|
    .st (.act none (.px (some 6) (.lenV (.v 5)))) <|
    .st (.act none (.px (some 7) (.bin .sub (.v 4) (.v 6)))) <|
    .st (.act none (.px (some 1) (.mv (.v 7)))) .done) K33_14
@[simp] def W33_15 := @C.wpe _ _ K33_15.eq_1
def B_laws_szProcessS : C := .seq (.pl <| .st (.ext 4 0) <|
    .st (.act none (.px (some 2) (.mv (.c (.int .i64 0))))) .done) K33_15
@[simp] def WB_laws_szProcessS := @C.wpe _ _ B_laws_szProcessS.eq_1
def R_laws_szProcessS : FIR := ⟨B_laws_szProcessS, 4, [(2, none)]⟩
theorem IR_laws_szProcessS : cfun Tryz.prog H_laws_szProcessS Tryz.f33 = some R_laws_szProcessS := by kernel_rfl
theorem EN_laws_szProcessS {args : List Value} {h : Heap} {k : Value → Heap → Prop} (hargs : args.length = 2) (hw : B_laws_szProcessS.wp Tryz.prog (retQ [(2, none)] k) (env0 args 4) h) : CallE Tryz.prog fn_laws_szProcessS args h k := enter Tryz.func33 rfl IR_laws_szProcessS hargs hw

def H_laws_szSystem : Hint := ⟨[(0, false), (1, false), (2, true), (4, false)], []⟩
def K7_1 : C := .seq (.pl <| .st (.ext 4 1) <|
    .st (.act none (.px (some 4) (.mv (.v 1)))) <|
    .st (.act none (.px (some 3) (.mv (.v 4)))) .done) (.ret)
@[simp] def W7_1 := @C.wpe _ _ K7_1.eq_1
def K7_2 : C := .seq (.pl <| .st (.ext 4 0) <|
    .st (.act none (.px (some 3) (.mv (.c (.int .i64 (-1)))))) .done) (.ret)
@[simp] def W7_2 := @C.wpe _ _ K7_2.eq_1
def K7_3 : C := .cond 4 (.v 5) K7_2 (.skip)
@[simp] def W7_3 := @C.wpe _ _ K7_3.eq_1
def K7_4 : C := .seq (.seq (.pl <| .st (.ext 4 2) <|
    .st (.act none (.px (some 4) (.mv (.v 1)))) <|
    .st (.act none (.px (some 5) (.bin .lss (.v 4) (.c (.int .i64 0))))) .done) K7_3) K7_1
@[simp] def W7_4 := @C.wpe _ _ K7_4.eq_1
def K7_5 : Pl := .st (.act none (.px (some 1) (.mv (.v 7)))) .done
@[simp] def W7_5 := @Pl.wpe _ _ K7_5.eq_1
def K7_6 : C := .seq (.pl <| .st (.ext 4 4) <|
    .st (.act none (.als 4 none 2)) <|
    .st (.act none (.pget (some 5) (some 4) 2 1 none)) <|
    .st (.act none (.px (some 6) (.mv (.v 1)))) <|
    .st (.act none (.ex (some 7) (.call fn_laws_szProcessS [.v 5, .v 6]))) K7_5) K7_4
@[simp] def W7_6 := @C.wpe _ _ K7_6.eq_1
def K7_7 : C := .seq (.pl <| .st (.ext 4 0) <|
    .st (.act none (.px (some 3) (.mv (.c (.int .i64 (-1)))))) .done) (.ret)
@[simp] def W7_7 := @C.wpe _ _ K7_7.eq_1
def K7_8 : C := .cond 4 (.v 5) K7_7 (.skip)
@[simp] def W7_8 := @C.wpe _ _ K7_8.eq_1
def K7_9 : C := .seq (.seq (.pl <| .st (.ext 4 2) <|
    .st (.act none (.px (some 4) (.mv (.v 1)))) <|
    .st (.act none (.px (some 5) (.bin .lss (.v 4) (.c (.int .i64 0))))) .done) K7_8) K7_6
@[simp] def W7_9 := @C.wpe _ _ K7_9.eq_1
def K7_10 : Pl := .st (.act none (.px (some 1) (.mv (.v 7)))) .done
@[simp] def W7_10 := @Pl.wpe _ _ K7_10.eq_1
def K7_11 : C := .seq (.pl <| .st (.ext 4 4) <|
    .st (.act none (.als 4 none 2)) <|
    .st (.act none (.pget (some 5) (some 4) 2 0 none)) <|
    .st (.act none (.px (some 6) (.mv (.v 1)))) <|
    .st (.act none (.ex (some 7) (.call fn_laws_szIntS [.v 5, .v 6]))) K7_10) K7_9
@[simp] def W7_11 := @C.wpe _ _ K7_11.eq_1
def B_laws_szSystem : C := .seq (.pl <| .st (.ext 4 0) <|
    .st (.act none (.pnew 2 (.v 0) [])) <|
    .st (.act none (.px (some 3) (.mv (.c (.int .i64 0))))) .done) K7_11
@[simp] def WB_laws_szSystem := @C.wpe _ _ B_laws_szSystem.eq_1
def R_laws_szSystem : FIR := ⟨B_laws_szSystem, 4, [(3, none)]⟩
theorem IR_laws_szSystem : cfun Tryz.prog H_laws_szSystem Tryz.f7 = some R_laws_szSystem := by kernel_rfl
theorem EN_laws_szSystem {args : List Value} {h : Heap} {k : Value → Heap → Prop} (hargs : args.length = 2) (hw : B_laws_szSystem.wp Tryz.prog (retQ [(3, none)] k) (env0 args 4) h) : CallE Tryz.prog fn_laws_szSystem args h k := enter Tryz.func7 rfl IR_laws_szSystem hargs hw

def H_laws_toEdge : Hint := ⟨[(0, false), (1, true), (2, true), (3, true)], []⟩
def K123_1 : C := .seq (.pl <| .st (.ext 4 1) <|
    .st (.act none (.pget (some 4) none 3 0 (some 10))) <|
    .st (.act none (.pset none 2 0 10 (.v 4))) .done) (.ret)
@[simp] def W123_1 := @C.wpe _ _ K123_1.eq_1
def K123_2 : C := .seq (.pl <| .st (.ext 4 3) <|
    .st (.act none (.als 4 none 1)) <|
    .st (.act none (.pget (some 5) (some 4) 1 9 none)) <|
    .st (.act none (.als 6 none 3)) <|
    .st (.act none (.pset (some 6) 3 9 1 (.v 5))) .done) K123_1
@[simp] def W123_2 := @C.wpe _ _ K123_2.eq_1
def K123_3 : Pl := .st (.act none (.als 7 none 3)) <|
    .st (.act none (.pset (some 7) 3 6 3 (.v 6))) .done
@[simp] def W123_3 := @Pl.wpe _ _ K123_3.eq_1
def K123_4 : C := .seq (.pl <| .st (.ext 4 4) <|
    .st (.act none (.als 4 none 1)) <|
    .st (.act none (.pget (some 5) (some 4) 1 6 (some 3))) <|
    .st (.act none (.ex (some 6) (.call fn_laws_toExpr [.v 5]))) K123_3) K123_2
@[simp] def W123_4 := @C.wpe _ _ K123_4.eq_1
def K123_5 : C := .seq (.pl <| .st (.ext 4 3) <|
    .st (.act none (.als 4 none 1)) <|
    .st (.act none (.pget (some 5) (some 4) 1 5 none)) <|
    .st (.act none (.als 6 none 3)) <|
    .st (.act none (.pset (some 6) 3 5 1 (.v 5))) .done) K123_4
@[simp] def W123_5 := @C.wpe _ _ K123_5.eq_1
def K123_6 : Pl := .st (.act none (.als 7 none 3)) <|
    .st (.act none (.pset (some 7) 3 2 3 (.v 6))) .done
@[simp] def W123_6 := @Pl.wpe _ _ K123_6.eq_1
def K123_7 : C := .seq (.pl <| .st (.ext 4 4) <|
    .st (.act none (.als 4 none 1)) <|
    .st (.act none (.pget (some 5) (some 4) 1 2 (some 3))) <|
    .st (.act none (.ex (some 6) (.call fn_laws_toExpr [.v 5]))) K123_6) K123_5
@[simp] def W123_7 := @C.wpe _ _ K123_7.eq_1
def K123_8 : C := .seq (.pl <| .st (.ext 4 3) <|
    .st (.act none (.als 4 none 1)) <|
    .st (.act none (.pget (some 5) (some 4) 1 1 none)) <|
    .st (.act none (.als 6 none 3)) <|
    .st (.act none (.pset (some 6) 3 1 1 (.v 5))) .done) K123_7
@[simp] def W123_8 := @C.wpe _ _ K123_8.eq_1
def K123_9 : C := .seq (.pl <| .st (.ext 4 3) <|
    .st (.act none (.als 4 none 1)) <|
    .st (.act none (.pget (some 5) (some 4) 1 0 none)) <|
    .st (.act none (.als 6 none 3)) <|
    .st (.act none (.pset (some 6) 3 0 1 (.v 5))) .done) K123_8
@[simp] def W123_9 := @C.wpe _ _ K123_9.eq_1
def K123_10 : C := .seq (.pl <| .st (.ext 4 0) <|
    .st (.act none (.pnew 3 (.c (.agg #[.int .i64 0, .int .i64 0, .int .i64 0, .int .i64 0, .slice none 0 0, .int .i64 0, .int .i64 0, .int .i64 0, .slice none 0 0, .int .i64 0])) [])) .done) K123_9
@[simp] def W123_10 := @C.wpe _ _ K123_10.eq_1
def B_laws_toEdge : C := .seq (.pl <| .st (.ext 4 0) <|
    .st (.act none (.pnew 1 (.v 0) [])) <|
    .st (.act none (.pnew 2 (.c (.agg #[.int .i64 0, .int .i64 0, .int .i64 0, .int .i64 0, .slice none 0 0, .int .i64 0, .int .i64 0, .int .i64 0, .slice none 0 0, .int .i64 0])) [])) .done) K123_10
@[simp] def WB_laws_toEdge := @C.wpe _ _ B_laws_toEdge.eq_1
def R_laws_toEdge : FIR := ⟨B_laws_toEdge, 4, [(2, some (some 10))]⟩
theorem IR_laws_toEdge : cfun Tryz.prog H_laws_toEdge Tryz.f123 = some R_laws_toEdge := by kernel_rfl
theorem EN_laws_toEdge {args : List Value} {h : Heap} {k : Value → Heap → Prop} (hargs : args.length = 1) (hw : B_laws_toEdge.wp Tryz.prog (retQ [(2, some (some 10))] k) (env0 args 4) h) : CallE Tryz.prog fn_laws_toEdge args h k := enter Tryz.func123 rfl IR_laws_toEdge hargs hw

def H_laws_toEdgeS : Hint := ⟨[(0, false), (2, false), (3, false), (4, false)], [[1]]⟩
def K105_1 : C := .seq (.pl <| .st (.ext 4 1) <|
    .st (.act none (.px (some 4) (.mv (.v 2)))) <|
    .st (.act none (.px (some 1) (.mv (.v 4)))) .done) (.ret)
@[simp] def W105_1 := @C.wpe _ _ K105_1.eq_1
def K105_2 : C := .pl <| .st (.ext 4 2) <|
    .st (.act none (.px (some 4) (.mv (.v 3)))) <|
    .st (.act none (.px (some 5) (.bin .add (.v 4) (.c (.int .i64 1))))) <|
    .st (.act none (.px (some 3) (.mv (.v 5)))) .done
@[simp] def W105_2 := @C.wpe _ _ K105_2.eq_1
def K105_3 : Pl := .st (.act none (.px (some 11) (.ia 10 (.v 4) (.v 5)))) <|
    .st (.act none (.ex none (.store 10 (.v 11) (.v 10)))) .done
@[simp] def W105_3 := @Pl.wpe _ _ K105_3.eq_1
def K105_4 : C := .seq (.block 1 (.pl <| .st (.ext 4 8) <|
    .st (.act none (.px (some 4) (.mv (.v 2)))) <|
    .st (.act none (.px (some 5) (.mv (.v 3)))) <|
    .st (.act none (.px (some 6) (.mv (.v 0)))) <|
    .st (.act none (.px (some 7) (.mv (.v 3)))) <|
    .st (.act none (.px (some 8) (.ia 10 (.v 6) (.v 7)))) <|
    .st (.act none (.ld (some 9) (.v 8) (some 10))) <|
    .st (.act none (.ex (some 10) (.call fn_laws_toEdge [.v 9]))) K105_3)) K105_2
@[simp] def W105_4 := @C.wpe _ _ K105_4.eq_1
def K105_5 : C := .cond 4 (.v 7) (.skip) (.exit 0)
@[simp] def W105_5 := @C.wpe _ _ K105_5.eq_1
def K105_6 : C := .seq (.seq (.pl <| .st (.ext 4 4) <|
    .st (.act none (.px (some 4) (.mv (.v 3)))) <|
    .st (.act none (.px (some 5) (.mv (.v 0)))) <|
    .st (.act none (.px (some 6) (.lenV (.v 5)))) <|
    .st (.act none (.px (some 7) (.bin .lss (.v 4) (.v 6)))) .done) K105_5) K105_4
@[simp] def W105_6 := @C.wpe _ _ K105_6.eq_1
def K105_7 : C := .block 0 (.loop 4 [1] K105_6)
@[simp] def W105_7 := @C.wpe _ _ K105_7.eq_1
def K105_8 : C := .seq (.seq (.pl <| .st (.ext 4 0) <|
    .st (.act none (.px (some 3) (.mv (.c (.int .i64 0))))) .done) K105_7) K105_1
@[simp] def W105_8 := @C.wpe _ _ K105_8.eq_1
def K105_9 : Pl := .st (.act none (.px (some 2) (.mv (.v 6)))) .done
@[simp] def W105_9 := @Pl.wpe _ _ K105_9.eq_1
def K105_10 : C := .seq (.pl <| .st (.ext 4 3) <|
    .st (.act none (.px (some 4) (.mv (.v 0)))) <|
    .st (.act none (.px (some 5) (.lenV (.v 4)))) <|
    .st (.act none (.ex (some 6) (.mks 112 10 [.int .i64 0, .int .i64 0, .int .i64 0, .int .i64 0, .slice none 0 0, .int .i64 0, .int .i64 0, .int .i64 0, .slice none 0 0, .int .i64 0] (.v 5) (.v 5)))) K105_9) K105_8
@[simp] def W105_10 := @C.wpe _ _ K105_10.eq_1
def B_laws_toEdgeS : C := .seq (.pl <| .st (.ext 4 0) <|
    .st (.act none (.px (some 1) (.mv (.c (.slice none 0 0))))) .done) K105_10
@[simp] def WB_laws_toEdgeS := @C.wpe _ _ B_laws_toEdgeS.eq_1
def R_laws_toEdgeS : FIR := ⟨B_laws_toEdgeS, 4, [(1, none)]⟩
theorem IR_laws_toEdgeS : cfun Tryz.prog H_laws_toEdgeS Tryz.f105 = some R_laws_toEdgeS := by kernel_rfl
theorem EN_laws_toEdgeS {args : List Value} {h : Heap} {k : Value → Heap → Prop} (hargs : args.length = 1) (hw : B_laws_toEdgeS.wp Tryz.prog (retQ [(1, none)] k) (env0 args 4) h) : CallE Tryz.prog fn_laws_toEdgeS args h k := enter Tryz.func105 rfl IR_laws_toEdgeS hargs hw

def H_laws_toExpr : Hint := ⟨[(0, false), (1, true), (2, true), (3, true)], []⟩
def K23_1 : C := .seq (.pl <| .st (.ext 4 1) <|
    .st (.act none (.pget (some 4) none 3 0 (some 3))) <|
    .st (.act none (.pset none 2 0 3 (.v 4))) .done) (.ret)
@[simp] def W23_1 := @C.wpe _ _ K23_1.eq_1
def K23_2 : Pl := .st (.act none (.als 7 none 3)) <|
    .st (.act none (.pset (some 7) 3 2 1 (.v 6))) .done
@[simp] def W23_2 := @Pl.wpe _ _ K23_2.eq_1
def K23_3 : C := .seq (.pl <| .st (.ext 4 4) <|
    .st (.act none (.als 4 none 1)) <|
    .st (.act none (.pget (some 5) (some 4) 1 2 none)) <|
    .st (.act none (.ex (some 6) (.call fn_laws_toExprS [.v 5]))) K23_2) K23_1
@[simp] def W23_3 := @C.wpe _ _ K23_3.eq_1
def K23_4 : C := .seq (.pl <| .st (.ext 4 3) <|
    .st (.act none (.als 4 none 1)) <|
    .st (.act none (.pget (some 5) (some 4) 1 1 none)) <|
    .st (.act none (.als 6 none 3)) <|
    .st (.act none (.pset (some 6) 3 1 1 (.v 5))) .done) K23_3
@[simp] def W23_4 := @C.wpe _ _ K23_4.eq_1
def K23_5 : C := .seq (.pl <| .st (.ext 4 3) <|
    .st (.act none (.als 4 none 1)) <|
    .st (.act none (.pget (some 5) (some 4) 1 0 none)) <|
    .st (.act none (.als 6 none 3)) <|
    .st (.act none (.pset (some 6) 3 0 1 (.v 5))) .done) K23_4
@[simp] def W23_5 := @C.wpe _ _ K23_5.eq_1
def K23_6 : C := .seq (.pl <| .st (.ext 4 0) <|
    .st (.act none (.pnew 3 (.c (.agg #[.int .i64 0, .int .i64 0, .slice none 0 0])) [])) .done) K23_5
@[simp] def W23_6 := @C.wpe _ _ K23_6.eq_1
def B_laws_toExpr : C := .seq (.pl <| .st (.ext 4 0) <|
    .st (.act none (.pnew 1 (.v 0) [])) <|
    .st (.act none (.pnew 2 (.c (.agg #[.int .i64 0, .int .i64 0, .slice none 0 0])) [])) .done) K23_6
@[simp] def WB_laws_toExpr := @C.wpe _ _ B_laws_toExpr.eq_1
def R_laws_toExpr : FIR := ⟨B_laws_toExpr, 4, [(2, some (some 3))]⟩
theorem IR_laws_toExpr : cfun Tryz.prog H_laws_toExpr Tryz.f23 = some R_laws_toExpr := by kernel_rfl
theorem EN_laws_toExpr {args : List Value} {h : Heap} {k : Value → Heap → Prop} (hargs : args.length = 1) (hw : B_laws_toExpr.wp Tryz.prog (retQ [(2, some (some 3))] k) (env0 args 4) h) : CallE Tryz.prog fn_laws_toExpr args h k := enter Tryz.func23 rfl IR_laws_toExpr hargs hw

def H_laws_toExprS : Hint := ⟨[(0, false), (2, false), (3, false), (4, false)], [[1]]⟩
def K57_1 : C := .seq (.pl <| .st (.ext 4 1) <|
    .st (.act none (.px (some 4) (.mv (.v 2)))) <|
    .st (.act none (.px (some 1) (.mv (.v 4)))) .done) (.ret)
@[simp] def W57_1 := @C.wpe _ _ K57_1.eq_1
def K57_2 : C := .pl <| .st (.ext 4 2) <|
    .st (.act none (.px (some 4) (.mv (.v 3)))) <|
    .st (.act none (.px (some 5) (.bin .add (.v 4) (.c (.int .i64 1))))) <|
    .st (.act none (.px (some 3) (.mv (.v 5)))) .done
@[simp] def W57_2 := @C.wpe _ _ K57_2.eq_1
def K57_3 : Pl := .st (.act none (.px (some 11) (.ia 3 (.v 4) (.v 5)))) <|
    .st (.act none (.ex none (.store 3 (.v 11) (.v 10)))) .done
@[simp] def W57_3 := @Pl.wpe _ _ K57_3.eq_1
def K57_4 : C := .seq (.block 1 (.pl <| .st (.ext 4 8) <|
    .st (.act none (.px (some 4) (.mv (.v 2)))) <|
    .st (.act none (.px (some 5) (.mv (.v 3)))) <|
    .st (.act none (.px (some 6) (.mv (.v 0)))) <|
    .st (.act none (.px (some 7) (.mv (.v 3)))) <|
    .st (.act none (.px (some 8) (.ia 3 (.v 6) (.v 7)))) <|
    .st (.act none (.ld (some 9) (.v 8) (some 3))) <|
    .st (.act none (.ex (some 10) (.call fn_laws_toExpr [.v 9]))) K57_3)) K57_2
@[simp] def W57_4 := @C.wpe _ _ K57_4.eq_1
def K57_5 : C := .cond 4 (.v 7) (.skip) (.exit 0)
@[simp] def W57_5 := @C.wpe _ _ K57_5.eq_1
def K57_6 : C := .seq (.seq (.pl <| .st (.ext 4 4) <|
    .st (.act none (.px (some 4) (.mv (.v 3)))) <|
    .st (.act none (.px (some 5) (.mv (.v 0)))) <|
    .st (.act none (.px (some 6) (.lenV (.v 5)))) <|
    .st (.act none (.px (some 7) (.bin .lss (.v 4) (.v 6)))) .done) K57_5) K57_4
@[simp] def W57_6 := @C.wpe _ _ K57_6.eq_1
def K57_7 : C := .block 0 (.loop 4 [1] K57_6)
@[simp] def W57_7 := @C.wpe _ _ K57_7.eq_1
def K57_8 : C := .seq (.seq (.pl <| .st (.ext 4 0) <|
    .st (.act none (.px (some 3) (.mv (.c (.int .i64 0))))) .done) K57_7) K57_1
@[simp] def W57_8 := @C.wpe _ _ K57_8.eq_1
def K57_9 : Pl := .st (.act none (.px (some 2) (.mv (.v 6)))) .done
@[simp] def W57_9 := @Pl.wpe _ _ K57_9.eq_1
def K57_10 : C := .seq (.pl <| .st (.ext 4 3) <|
    .st (.act none (.px (some 4) (.mv (.v 0)))) <|
    .st (.act none (.px (some 5) (.lenV (.v 4)))) <|
    .st (.act none (.ex (some 6) (.mks 40 3 [.int .i64 0, .int .i64 0, .slice none 0 0] (.v 5) (.v 5)))) K57_9) K57_8
@[simp] def W57_10 := @C.wpe _ _ K57_10.eq_1
def B_laws_toExprS : C := .seq (.pl <| .st (.ext 4 0) <|
    .st (.act none (.px (some 1) (.mv (.c (.slice none 0 0))))) .done) K57_10
@[simp] def WB_laws_toExprS := @C.wpe _ _ B_laws_toExprS.eq_1
def R_laws_toExprS : FIR := ⟨B_laws_toExprS, 4, [(1, none)]⟩
theorem IR_laws_toExprS : cfun Tryz.prog H_laws_toExprS Tryz.f57 = some R_laws_toExprS := by kernel_rfl
theorem EN_laws_toExprS {args : List Value} {h : Heap} {k : Value → Heap → Prop} (hargs : args.length = 1) (hw : B_laws_toExprS.wp Tryz.prog (retQ [(1, none)] k) (env0 args 4) h) : CallE Tryz.prog fn_laws_toExprS args h k := enter Tryz.func57 rfl IR_laws_toExprS hargs hw

def H_laws_toIntS : Hint := ⟨[(0, false), (2, false), (3, false), (4, false)], [[1]]⟩
def K35_1 : C := .seq (.pl <| .st (.ext 4 1) <|
    .st (.act none (.px (some 4) (.mv (.v 2)))) <|
    .st (.act none (.px (some 1) (.mv (.v 4)))) .done) (.ret)
@[simp] def W35_1 := @C.wpe _ _ K35_1.eq_1
def K35_2 : C := .pl <| .st (.ext 4 2) <|
    .st (.act none (.px (some 4) (.mv (.v 3)))) <|
    .st (.act none (.px (some 5) (.bin .add (.v 4) (.c (.int .i64 1))))) <|
    .st (.act none (.px (some 3) (.mv (.v 5)))) .done
@[simp] def W35_2 := @C.wpe _ _ K35_2.eq_1
def K35_3 : C := .seq (.block 1 (.pl <| .st (.ext 4 7) <|
    .st (.act none (.px (some 4) (.mv (.v 2)))) <|
    .st (.act none (.px (some 5) (.mv (.v 3)))) <|
    .st (.act none (.px (some 6) (.mv (.v 0)))) <|
    .st (.act none (.px (some 7) (.mv (.v 3)))) <|
    .st (.act none (.px (some 8) (.ia 1 (.v 6) (.v 7)))) <|
    .st (.act none (.ld (some 9) (.v 8) none)) <|
    .st (.act none (.px (some 10) (.ia 1 (.v 4) (.v 5)))) <|
    .st (.act none (.ex none (.store 1 (.v 10) (.v 9)))) .done)) K35_2
@[simp] def W35_3 := @C.wpe _ _ K35_3.eq_1
def K35_4 : C := .cond 4 (.v 7) (.skip) (.exit 0)
@[simp] def W35_4 := @C.wpe _ _ K35_4.eq_1
def K35_5 : C := .seq (.seq (.pl <| .st (.ext 4 4) <|
    .st (.act none (.px (some 4) (.mv (.v 3)))) <|
    .st (.act none (.px (some 5) (.mv (.v 0)))) <|
    .st (.act none (.px (some 6) (.lenV (.v 5)))) <|
    .st (.act none (.px (some 7) (.bin .lss (.v 4) (.v 6)))) .done) K35_4) K35_3
@[simp] def W35_5 := @C.wpe _ _ K35_5.eq_1
def K35_6 : C := .block 0 (.loop 4 [1] K35_5)
@[simp] def W35_6 := @C.wpe _ _ K35_6.eq_1
def K35_7 : C := .seq (.seq (.pl <| .st (.ext 4 0) <|
    .st (.act none (.px (some 3) (.mv (.c (.int .i64 0))))) .done) K35_6) K35_1
@[simp] def W35_7 := @C.wpe _ _ K35_7.eq_1
def K35_8 : Pl := .st (.act none (.px (some 2) (.mv (.v 6)))) .done
@[simp] def W35_8 := @Pl.wpe _ _ K35_8.eq_1
def K35_9 : C := .seq (.pl <| .st (.ext 4 3) <|
    .st (.act none (.px (some 4) (.mv (.v 0)))) <|
    .st (.act none (.px (some 5) (.lenV (.v 4)))) <|
    .st (.act none (.ex (some 6) (.mks 8 1 [.int .i64 0] (.v 5) (.v 5)))) K35_8) K35_7
@[simp] def W35_9 := @C.wpe _ _ K35_9.eq_1
def B_laws_toIntS : C := .seq (.pl <| .st (.ext 4 0) <|
    .st (.act none (.px (some 1) (.mv (.c (.slice none 0 0))))) .done) K35_9
@[simp] def WB_laws_toIntS := @C.wpe _ _ B_laws_toIntS.eq_1
def R_laws_toIntS : FIR := ⟨B_laws_toIntS, 4, [(1, none)]⟩
theorem IR_laws_toIntS : cfun Tryz.prog H_laws_toIntS Tryz.f35 = some R_laws_toIntS := by kernel_rfl
theorem EN_laws_toIntS {args : List Value} {h : Heap} {k : Value → Heap → Prop} (hargs : args.length = 1) (hw : B_laws_toIntS.wp Tryz.prog (retQ [(1, none)] k) (env0 args 4) h) : CallE Tryz.prog fn_laws_toIntS args h k := enter Tryz.func35 rfl IR_laws_toIntS hargs hw

def H_laws_toProcess : Hint := ⟨[(0, false), (1, true), (2, true), (3, true)], []⟩
def K71_1 : C := .seq (.pl <| .st (.ext 4 1) <|
    .st (.act none (.pget (some 4) none 3 0 (some 2))) <|
    .st (.act none (.pset none 2 0 2 (.v 4))) .done) (.ret)
@[simp] def W71_1 := @C.wpe _ _ K71_1.eq_1
def K71_2 : Pl := .st (.act none (.als 7 none 3)) <|
    .st (.act none (.pset (some 7) 3 1 1 (.v 6))) .done
@[simp] def W71_2 := @Pl.wpe _ _ K71_2.eq_1
def K71_3 : C := .seq (.pl <| .st (.ext 4 4) <|
    .st (.act none (.als 4 none 1)) <|
    .st (.act none (.pget (some 5) (some 4) 1 1 none)) <|
    .st (.act none (.ex (some 6) (.call fn_laws_toEdgeS [.v 5]))) K71_2) K71_1
@[simp] def W71_3 := @C.wpe _ _ K71_3.eq_1
def K71_4 : C := .seq (.pl <| .st (.ext 4 3) <|
    .st (.act none (.als 4 none 1)) <|
    .st (.act none (.pget (some 5) (some 4) 1 0 none)) <|
    .st (.act none (.als 6 none 3)) <|
    .st (.act none (.pset (some 6) 3 0 1 (.v 5))) .done) K71_3
@[simp] def W71_4 := @C.wpe _ _ K71_4.eq_1
def K71_5 : C := .seq (.pl <| .st (.ext 4 0) <|
    .st (.act none (.pnew 3 (.c (.agg #[.int .i64 0, .slice none 0 0])) [])) .done) K71_4
@[simp] def W71_5 := @C.wpe _ _ K71_5.eq_1
def B_laws_toProcess : C := .seq (.pl <| .st (.ext 4 0) <|
    .st (.act none (.pnew 1 (.v 0) [])) <|
    .st (.act none (.pnew 2 (.c (.agg #[.int .i64 0, .slice none 0 0])) [])) .done) K71_5
@[simp] def WB_laws_toProcess := @C.wpe _ _ B_laws_toProcess.eq_1
def R_laws_toProcess : FIR := ⟨B_laws_toProcess, 4, [(2, some (some 2))]⟩
theorem IR_laws_toProcess : cfun Tryz.prog H_laws_toProcess Tryz.f71 = some R_laws_toProcess := by kernel_rfl
theorem EN_laws_toProcess {args : List Value} {h : Heap} {k : Value → Heap → Prop} (hargs : args.length = 1) (hw : B_laws_toProcess.wp Tryz.prog (retQ [(2, some (some 2))] k) (env0 args 4) h) : CallE Tryz.prog fn_laws_toProcess args h k := enter Tryz.func71 rfl IR_laws_toProcess hargs hw

def H_laws_toProcessS : Hint := ⟨[(0, false), (2, false), (3, false), (4, false)], [[1]]⟩
def K36_1 : C := .seq (.pl <| .st (.ext 4 1) <|
    .st (.act none (.px (some 4) (.mv (.v 2)))) <|
    .st (.act none (.px (some 1) (.mv (.v 4)))) .done) (.ret)
@[simp] def W36_1 := @C.wpe _ _ K36_1.eq_1
def K36_2 : C := .pl <| .st (.ext 4 2) <|
    .st (.act none (.px (some 4) (.mv (.v 3)))) <|
    .st (.act none (.px (some 5) (.bin .add (.v 4) (.c (.int .i64 1))))) <|
    .st (.act none (.px (some 3) (.mv (.v 5)))) .done
@[simp] def W36_2 := @C.wpe _ _ K36_2.eq_1
def K36_3 : Pl := .st (.act none (.px (some 11) (.ia 2 (.v 4) (.v 5)))) <|
    .st (.act none (.ex none (.store 2 (.v 11) (.v 10)))) .done
@[simp] def W36_3 := @Pl.wpe _ _ K36_3.eq_1
def K36_4 : C := .seq (.block 1 (.pl <| .st (.ext 4 8) <|
    .st (.act none (.px (some 4) (.mv (.v 2)))) <|
    .st (.act none (.px (some 5) (.mv (.v 3)))) <|
    .st (.act none (.px (some 6) (.mv (.v 0)))) <|
    .st (.act none (.px (some 7) (.mv (.v 3)))) <|
    .st (.act none (.px (some 8) (.ia 2 (.v 6) (.v 7)))) <|
    .st (.act none (.ld (some 9) (.v 8) (some 2))) <|
    .st (.act none (.ex (some 10) (.call fn_laws_toProcess [.v 9]))) K36_3)) K36_2
@[simp] def W36_4 := @C.wpe _ _ K36_4.eq_1
def K36_5 : C := .cond 4 (.v 7) (.skip) (.exit 0)
@[simp] def W36_5 := @C.wpe _ _ K36_5.eq_1
def K36_6 : C := .seq (.seq (.pl <| .st (.ext 4 4) <|
    .st (.act none (.px (some 4) (.mv (.v 3)))) <|
    .st (.act none (.px (some 5) (.mv (.v 0)))) <|
    .st (.act none (.px (some 6) (.lenV (.v 5)))) <|
    .st (.act none (.px (some 7) (.bin .lss (.v 4) (.v 6)))) .done) K36_5) K36_4
@[simp] def W36_6 := @C.wpe _ _ K36_6.eq_1
def K36_7 : C := .block 0 (.loop 4 [1] K36_6)
@[simp] def W36_7 := @C.wpe _ _ K36_7.eq_1
def K36_8 : C := .seq (.seq (.pl <| .st (.ext 4 0) <|
    .st (.act none (.px (some 3) (.mv (.c (.int .i64 0))))) .done) K36_7) K36_1
@[simp] def W36_8 := @C.wpe _ _ K36_8.eq_1
def K36_9 : Pl := .st (.act none (.px (some 2) (.mv (.v 6)))) .done
@[simp] def W36_9 := @Pl.wpe _ _ K36_9.eq_1
def K36_10 : C := .seq (.pl <| .st (.ext 4 3) <|
    .st (.act none (.px (some 4) (.mv (.v 0)))) <|
    .st (.act none (.px (some 5) (.lenV (.v 4)))) <|
    .st (.act none (.ex (some 6) (.mks 32 2 [.int .i64 0, .slice none 0 0] (.v 5) (.v 5)))) K36_9) K36_8
@[simp] def W36_10 := @C.wpe _ _ K36_10.eq_1
def B_laws_toProcessS : C := .seq (.pl <| .st (.ext 4 0) <|
    .st (.act none (.px (some 1) (.mv (.c (.slice none 0 0))))) .done) K36_10
@[simp] def WB_laws_toProcessS := @C.wpe _ _ B_laws_toProcessS.eq_1
def R_laws_toProcessS : FIR := ⟨B_laws_toProcessS, 4, [(1, none)]⟩
theorem IR_laws_toProcessS : cfun Tryz.prog H_laws_toProcessS Tryz.f36 = some R_laws_toProcessS := by kernel_rfl
theorem EN_laws_toProcessS {args : List Value} {h : Heap} {k : Value → Heap → Prop} (hargs : args.length = 1) (hw : B_laws_toProcessS.wp Tryz.prog (retQ [(1, none)] k) (env0 args 4) h) : CallE Tryz.prog fn_laws_toProcessS args h k := enter Tryz.func36 rfl IR_laws_toProcessS hargs hw

def H_laws_toSystem : Hint := ⟨[(0, false), (1, true), (2, true), (3, true)], []⟩
def K9_1 : C := .seq (.pl <| .st (.ext 4 1) <|
    .st (.act none (.pget (some 4) none 3 0 (some 2))) <|
    .st (.act none (.pset none 2 0 2 (.v 4))) .done) (.ret)
@[simp] def W9_1 := @C.wpe _ _ K9_1.eq_1
def K9_2 : Pl := .st (.act none (.als 7 none 3)) <|
    .st (.act none (.pset (some 7) 3 1 1 (.v 6))) .done
@[simp] def W9_2 := @Pl.wpe _ _ K9_2.eq_1
def K9_3 : C := .seq (.pl <| .st (.ext 4 4) <|
    .st (.act none (.als 4 none 1)) <|
    .st (.act none (.pget (some 5) (some 4) 1 1 none)) <|
    .st (.act none (.ex (some 6) (.call fn_laws_toProcessS [.v 5]))) K9_2) K9_1
@[simp] def W9_3 := @C.wpe _ _ K9_3.eq_1
def K9_4 : Pl := .st (.act none (.als 7 none 3)) <|
    .st (.act none (.pset (some 7) 3 0 1 (.v 6))) .done
@[simp] def W9_4 := @Pl.wpe _ _ K9_4.eq_1
def K9_5 : C := .seq (.pl <| .st (.ext 4 4) <|
    .st (.act none (.als 4 none 1)) <|
    .st (.act none (.pget (some 5) (some 4) 1 0 none)) <|
    .st (.act none (.ex (some 6) (.call fn_laws_toIntS [.v 5]))) K9_4) K9_3
@[simp] def W9_5 := @C.wpe _ _ K9_5.eq_1
def K9_6 : C := .seq (.pl <| .st (.ext 4 0) <|
    .st (.act none (.pnew 3 (.c (.agg #[.slice none 0 0, .slice none 0 0])) [])) .done) K9_5
@[simp] def W9_6 := @C.wpe _ _ K9_6.eq_1
def B_laws_toSystem : C := .seq (.pl <| .st (.ext 4 0) <|
    .st (.act none (.pnew 1 (.v 0) [])) <|
    .st (.act none (.pnew 2 (.c (.agg #[.slice none 0 0, .slice none 0 0])) [])) .done) K9_6
@[simp] def WB_laws_toSystem := @C.wpe _ _ B_laws_toSystem.eq_1
def R_laws_toSystem : FIR := ⟨B_laws_toSystem, 4, [(2, some (some 2))]⟩
theorem IR_laws_toSystem : cfun Tryz.prog H_laws_toSystem Tryz.f9 = some R_laws_toSystem := by kernel_rfl
theorem EN_laws_toSystem {args : List Value} {h : Heap} {k : Value → Heap → Prop} (hargs : args.length = 1) (hw : B_laws_toSystem.wp Tryz.prog (retQ [(2, some (some 2))] k) (env0 args 4) h) : CallE Tryz.prog fn_laws_toSystem args h k := enter Tryz.func9 rfl IR_laws_toSystem hargs hw

def H_slices_Clip_S_S_int_S_int : Hint := ⟨[(0, false), (2, false)], []⟩
def K90_1 : C := .seq (.pl <| .st (.ext 2 6) <|
    .st (.act none (.px (some 2) (.mv (.v 0)))) <|
    .st (.act none (.px (some 3) (.mv (.v 0)))) <|
    .st (.act none (.px (some 4) (.lenV (.v 3)))) <|
    .st (.act none (.px (some 5) (.mv (.v 0)))) <|
    .st (.act none (.px (some 6) (.lenV (.v 5)))) <|
    .st (.act none (.px (some 7) (.sliceV 1 (.v 2) none (some (.v 4)) (some (.v 6))))) <|
    .st (.act none (.px (some 1) (.mv (.v 7)))) .done) (.ret)
@[simp] def W90_1 := @C.wpe _ _ K90_1.eq_1
def B_slices_Clip_S_S_int_S_int : C := .seq (.pl <| .st (.ext 2 0) <|
    .st (.act none (.px (some 1) (.mv (.c (.slice none 0 0))))) .done) K90_1
@[simp] def WB_slices_Clip_S_S_int_S_int := @C.wpe _ _ B_slices_Clip_S_S_int_S_int.eq_1
def R_slices_Clip_S_S_int_S_int : FIR := ⟨B_slices_Clip_S_S_int_S_int, 2, [(1, none)]⟩
theorem IR_slices_Clip_S_S_int_S_int : cfun Tryz.prog H_slices_Clip_S_S_int_S_int Tryz.f90 = some R_slices_Clip_S_S_int_S_int := by kernel_rfl
theorem EN_slices_Clip_S_S_int_S_int {args : List Value} {h : Heap} {k : Value → Heap → Prop} (hargs : args.length = 1) (hw : B_slices_Clip_S_S_int_S_int.wp Tryz.prog (retQ [(1, none)] k) (env0 args 2) h) : CallE Tryz.prog fn_slices_Clip_S_S_int_S_int args h k := enter Tryz.func90 rfl IR_slices_Clip_S_S_int_S_int hargs hw

def H_slices_Clip_S_impl_State_impl_State : Hint := ⟨[(0, false), (2, false)], []⟩
def K89_1 : C := .seq (.pl <| .st (.ext 2 6) <|
    .st (.act none (.px (some 2) (.mv (.v 0)))) <|
    .st (.act none (.px (some 3) (.mv (.v 0)))) <|
    .st (.act none (.px (some 4) (.lenV (.v 3)))) <|
    .st (.act none (.px (some 5) (.mv (.v 0)))) <|
    .st (.act none (.px (some 6) (.lenV (.v 5)))) <|
    .st (.act none (.px (some 7) (.sliceV 2 (.v 2) none (some (.v 4)) (some (.v 6))))) <|
    .st (.act none (.px (some 1) (.mv (.v 7)))) .done) (.ret)
@[simp] def W89_1 := @C.wpe _ _ K89_1.eq_1
def B_slices_Clip_S_impl_State_impl_State : C := .seq (.pl <| .st (.ext 2 0) <|
    .st (.act none (.px (some 1) (.mv (.c (.slice none 0 0))))) .done) K89_1
@[simp] def WB_slices_Clip_S_impl_State_impl_State := @C.wpe _ _ B_slices_Clip_S_impl_State_impl_State.eq_1
def R_slices_Clip_S_impl_State_impl_State : FIR := ⟨B_slices_Clip_S_impl_State_impl_State, 2, [(1, none)]⟩
theorem IR_slices_Clip_S_impl_State_impl_State : cfun Tryz.prog H_slices_Clip_S_impl_State_impl_State Tryz.f89 = some R_slices_Clip_S_impl_State_impl_State := by kernel_rfl
theorem EN_slices_Clip_S_impl_State_impl_State {args : List Value} {h : Heap} {k : Value → Heap → Prop} (hargs : args.length = 1) (hw : B_slices_Clip_S_impl_State_impl_State.wp Tryz.prog (retQ [(1, none)] k) (env0 args 2) h) : CallE Tryz.prog fn_slices_Clip_S_impl_State_impl_State args h k := enter Tryz.func89 rfl IR_slices_Clip_S_impl_State_impl_State hargs hw

def H_slices_Clip_S_impl_Step_impl_Step : Hint := ⟨[(0, false), (2, false)], []⟩
def K73_1 : C := .seq (.pl <| .st (.ext 2 6) <|
    .st (.act none (.px (some 2) (.mv (.v 0)))) <|
    .st (.act none (.px (some 3) (.mv (.v 0)))) <|
    .st (.act none (.px (some 4) (.lenV (.v 3)))) <|
    .st (.act none (.px (some 5) (.mv (.v 0)))) <|
    .st (.act none (.px (some 6) (.lenV (.v 5)))) <|
    .st (.act none (.px (some 7) (.sliceV 4 (.v 2) none (some (.v 4)) (some (.v 6))))) <|
    .st (.act none (.px (some 1) (.mv (.v 7)))) .done) (.ret)
@[simp] def W73_1 := @C.wpe _ _ K73_1.eq_1
def B_slices_Clip_S_impl_Step_impl_Step : C := .seq (.pl <| .st (.ext 2 0) <|
    .st (.act none (.px (some 1) (.mv (.c (.slice none 0 0))))) .done) K73_1
@[simp] def WB_slices_Clip_S_impl_Step_impl_Step := @C.wpe _ _ B_slices_Clip_S_impl_Step_impl_Step.eq_1
def R_slices_Clip_S_impl_Step_impl_Step : FIR := ⟨B_slices_Clip_S_impl_Step_impl_Step, 2, [(1, none)]⟩
theorem IR_slices_Clip_S_impl_Step_impl_Step : cfun Tryz.prog H_slices_Clip_S_impl_Step_impl_Step Tryz.f73 = some R_slices_Clip_S_impl_Step_impl_Step := by kernel_rfl
theorem EN_slices_Clip_S_impl_Step_impl_Step {args : List Value} {h : Heap} {k : Value → Heap → Prop} (hargs : args.length = 1) (hw : B_slices_Clip_S_impl_Step_impl_Step.wp Tryz.prog (retQ [(1, none)] k) (env0 args 2) h) : CallE Tryz.prog fn_slices_Clip_S_impl_Step_impl_Step args h k := enter Tryz.func73 rfl IR_slices_Clip_S_impl_Step_impl_Step hargs hw

def H_slices_Clip_S_int_int : Hint := ⟨[(0, false), (2, false)], []⟩
def K88_1 : C := .seq (.pl <| .st (.ext 2 6) <|
    .st (.act none (.px (some 2) (.mv (.v 0)))) <|
    .st (.act none (.px (some 3) (.mv (.v 0)))) <|
    .st (.act none (.px (some 4) (.lenV (.v 3)))) <|
    .st (.act none (.px (some 5) (.mv (.v 0)))) <|
    .st (.act none (.px (some 6) (.lenV (.v 5)))) <|
    .st (.act none (.px (some 7) (.sliceV 1 (.v 2) none (some (.v 4)) (some (.v 6))))) <|
    .st (.act none (.px (some 1) (.mv (.v 7)))) .done) (.ret)
@[simp] def W88_1 := @C.wpe _ _ K88_1.eq_1
def B_slices_Clip_S_int_int : C := .seq (.pl <| .st (.ext 2 0) <|
    .st (.act none (.px (some 1) (.mv (.c (.slice none 0 0))))) .done) K88_1
@[simp] def WB_slices_Clip_S_int_int := @C.wpe _ _ B_slices_Clip_S_int_int.eq_1
def R_slices_Clip_S_int_int : FIR := ⟨B_slices_Clip_S_int_int, 2, [(1, none)]⟩
theorem IR_slices_Clip_S_int_int : cfun Tryz.prog H_slices_Clip_S_int_int Tryz.f88 = some R_slices_Clip_S_int_int := by kernel_rfl
theorem EN_slices_Clip_S_int_int {args : List Value} {h : Heap} {k : Value → Heap → Prop} (hargs : args.length = 1) (hw : B_slices_Clip_S_int_int.wp Tryz.prog (retQ [(1, none)] k) (env0 args 2) h) : CallE Tryz.prog fn_slices_Clip_S_int_int args h k := enter Tryz.func88 rfl IR_slices_Clip_S_int_int hargs hw

def H_slices_Clone_S_int_int : Hint := ⟨[(0, false), (2, false)], []⟩
def K127_1 : Pl := .st (.act none (.px (some 1) (.mv (.v 4)))) .done
@[simp] def W127_1 := @Pl.wpe _ _ K127_1.eq_1
def K127_2 : C := .seq (.pl <| .st (.ext 2 3) <|
    .st (.act none (.psl 2 [] [])) <|
    .st (.act none (.px (some 3) (.mv (.v 0)))) <|
    .st (.act none (.ex (some 4) (.app 8 1 [.int .i64 0] (.p 0 2) (.o (.v 3))))) K127_1) (.ret)
@[simp] def W127_2 := @C.wpe _ _ K127_2.eq_1
def K127_3 : C := .seq (.pl <| .st (.ext 2 0) <|
    .st (.act none (.px (some 1) (.mv (.c (.slice none 0 0))))) .done) (.ret)
@[simp] def W127_3 := @C.wpe _ _ K127_3.eq_1
def K127_4 : C := .cond 2 (.v 3) K127_3 (.skip)
@[simp] def W127_4 := @C.wpe _ _ K127_4.eq_1
def K127_5 : C := .seq (.seq (.pl <| .st (.ext 2 2) <|
    .st (.act none (.px (some 2) (.mv (.v 0)))) <|
    .st (.act none (.px (some 3) (.isNil false (.v 2)))) .done) K127_4) K127_2
@[simp] def W127_5 := @C.wpe _ _ K127_5.eq_1
def B_slices_Clone_S_int_int : C := .seq (.pl <| .st (.ext 2 0) <|
    .st (.act none (.px (some 1) (.mv (.c (.slice none 0 0))))) .done) K127_5
@[simp] def WB_slices_Clone_S_int_int := @C.wpe _ _ B_slices_Clone_S_int_int.eq_1
def R_slices_Clone_S_int_int : FIR := ⟨B_slices_Clone_S_int_int, 2, [(1, none)]⟩
theorem IR_slices_Clone_S_int_int : cfun Tryz.prog H_slices_Clone_S_int_int Tryz.f127 = some R_slices_Clone_S_int_int := by kernel_rfl
theorem EN_slices_Clone_S_int_int {args : List Value} {h : Heap} {k : Value → Heap → Prop} (hargs : args.length = 1) (hw : B_slices_Clone_S_int_int.wp Tryz.prog (retQ [(1, none)] k) (env0 args 2) h) : CallE Tryz.prog fn_slices_Clone_S_int_int args h k := enter Tryz.func127 rfl IR_slices_Clone_S_int_int hargs hw

def H_slices_ContainsFunc_S_impl_Edge_impl_Edge : Hint := ⟨[(0, false), (1, false), (4, false)], []⟩
def K79_1 : Pl := .st (.act none (.px (some 6) (.bin .geq (.v 5) (.c (.int .i64 0))))) <|
    .st (.act none (.px (some 2) (.mv (.v 6)))) .done
@[simp] def W79_1 := @Pl.wpe _ _ K79_1.eq_1
def K79_2 : C := .seq (.pl <| .st (.ext 3 4) <|
    .st (.act none (.px (some 3) (.mv (.v 0)))) <|
    .st (.act none (.px (some 4) (.mv (.v 1)))) <|
    .st (.act none (.ex (some 5) (.call fn_slices_IndexFunc_S_impl_Edge_impl_Edge [.v 3, .v 4]))) K79_1) (.ret)
@[simp] def W79_2 := @C.wpe _ _ K79_2.eq_1
def B_slices_ContainsFunc_S_impl_Edge_impl_Edge : C := .seq (.pl <| .st (.ext 3 0) <|
    .st (.act none (.px (some 2) (.mv (.c (.bool false))))) .done) K79_2
@[simp] def WB_slices_ContainsFunc_S_impl_Edge_impl_Edge := @C.wpe _ _ B_slices_ContainsFunc_S_impl_Edge_impl_Edge.eq_1
def R_slices_ContainsFunc_S_impl_Edge_impl_Edge : FIR := ⟨B_slices_ContainsFunc_S_impl_Edge_impl_Edge, 3, [(2, none)]⟩
theorem IR_slices_ContainsFunc_S_impl_Edge_impl_Edge : cfun Tryz.prog H_slices_ContainsFunc_S_impl_Edge_impl_Edge Tryz.f79 = some R_slices_ContainsFunc_S_impl_Edge_impl_Edge := by kernel_rfl
theorem EN_slices_ContainsFunc_S_impl_Edge_impl_Edge {args : List Value} {h : Heap} {k : Value → Heap → Prop} (hargs : args.length = 2) (hw : B_slices_ContainsFunc_S_impl_Edge_impl_Edge.wp Tryz.prog (retQ [(2, none)] k) (env0 args 3) h) : CallE Tryz.prog fn_slices_ContainsFunc_S_impl_Edge_impl_Edge args h k := enter Tryz.func79 rfl IR_slices_ContainsFunc_S_impl_Edge_impl_Edge hargs hw

def H_slices_ContainsFunc_S_impl_Expr_impl_Expr : Hint := ⟨[(0, false), (1, false), (4, false)], []⟩
def K130_1 : Pl := .st (.act none (.px (some 6) (.bin .geq (.v 5) (.c (.int .i64 0))))) <|
    .st (.act none (.px (some 2) (.mv (.v 6)))) .done
@[simp] def W130_1 := @Pl.wpe _ _ K130_1.eq_1
def K130_2 : C := .seq (.pl <| .st (.ext 3 4) <|
    .st (.act none (.px (some 3) (.mv (.v 0)))) <|
    .st (.act none (.px (some 4) (.mv (.v 1)))) <|
    .st (.act none (.ex (some 5) (.call fn_slices_IndexFunc_S_impl_Expr_impl_Expr [.v 3, .v 4]))) K130_1) (.ret)
@[simp] def W130_2 := @C.wpe _ _ K130_2.eq_1
def B_slices_ContainsFunc_S_impl_Expr_impl_Expr : C := .seq (.pl <| .st (.ext 3 0) <|
    .st (.act none (.px (some 2) (.mv (.c (.bool false))))) .done) K130_2
@[simp] def WB_slices_ContainsFunc_S_impl_Expr_impl_Expr := @C.wpe _ _ B_slices_ContainsFunc_S_impl_Expr_impl_Expr.eq_1
def R_slices_ContainsFunc_S_impl_Expr_impl_Expr : FIR := ⟨B_slices_ContainsFunc_S_impl_Expr_impl_Expr, 3, [(2, none)]⟩
theorem IR_slices_ContainsFunc_S_impl_Expr_impl_Expr : cfun Tryz.prog H_slices_ContainsFunc_S_impl_Expr_impl_Expr Tryz.f130 = some R_slices_ContainsFunc_S_impl_Expr_impl_Expr := by kernel_rfl
theorem EN_slices_ContainsFunc_S_impl_Expr_impl_Expr {args : List Value} {h : Heap} {k : Value → Heap → Prop} (hargs : args.length = 2) (hw : B_slices_ContainsFunc_S_impl_Expr_impl_Expr.wp Tryz.prog (retQ [(2, none)] k) (env0 args 3) h) : CallE Tryz.prog fn_slices_ContainsFunc_S_impl_Expr_impl_Expr args h k := enter Tryz.func130 rfl IR_slices_ContainsFunc_S_impl_Expr_impl_Expr hargs hw

def H_slices_ContainsFunc_S_int_int : Hint := ⟨[(0, false), (1, false), (4, false)], []⟩
def K108_1 : Pl := .st (.act none (.px (some 6) (.bin .geq (.v 5) (.c (.int .i64 0))))) <|
    .st (.act none (.px (some 2) (.mv (.v 6)))) .done
@[simp] def W108_1 := @Pl.wpe _ _ K108_1.eq_1
def K108_2 : C := .seq (.pl <| .st (.ext 3 4) <|
    .st (.act none (.px (some 3) (.mv (.v 0)))) <|
    .st (.act none (.px (some 4) (.mv (.v 1)))) <|
    .st (.act none (.ex (some 5) (.call fn_slices_IndexFunc_S_int_int [.v 3, .v 4]))) K108_1) (.ret)
@[simp] def W108_2 := @C.wpe _ _ K108_2.eq_1
def B_slices_ContainsFunc_S_int_int : C := .seq (.pl <| .st (.ext 3 0) <|
    .st (.act none (.px (some 2) (.mv (.c (.bool false))))) .done) K108_2
@[simp] def WB_slices_ContainsFunc_S_int_int := @C.wpe _ _ B_slices_ContainsFunc_S_int_int.eq_1
def R_slices_ContainsFunc_S_int_int : FIR := ⟨B_slices_ContainsFunc_S_int_int, 3, [(2, none)]⟩
theorem IR_slices_ContainsFunc_S_int_int : cfun Tryz.prog H_slices_ContainsFunc_S_int_int Tryz.f108 = some R_slices_ContainsFunc_S_int_int := by kernel_rfl
theorem EN_slices_ContainsFunc_S_int_int {args : List Value} {h : Heap} {k : Value → Heap → Prop} (hargs : args.length = 2) (hw : B_slices_ContainsFunc_S_int_int.wp Tryz.prog (retQ [(2, none)] k) (env0 args 3) h) : CallE Tryz.prog fn_slices_ContainsFunc_S_int_int args h k := enter Tryz.func108 rfl IR_slices_ContainsFunc_S_int_int hargs hw

def H_slices_Contains_S_int_int : Hint := ⟨[(0, false), (1, false), (4, false)], []⟩
def K87_1 : Pl := .st (.act none (.px (some 6) (.bin .geq (.v 5) (.c (.int .i64 0))))) <|
    .st (.act none (.px (some 2) (.mv (.v 6)))) .done
@[simp] def W87_1 := @Pl.wpe _ _ K87_1.eq_1
def K87_2 : C := .seq (.pl <| .st (.ext 3 4) <|
    .st (.act none (.px (some 3) (.mv (.v 0)))) <|
    .st (.act none (.px (some 4) (.mv (.v 1)))) <|
    .st (.act none (.ex (some 5) (.call fn_slices_Index_S_int_int [.v 3, .v 4]))) K87_1) (.ret)
@[simp] def W87_2 := @C.wpe _ _ K87_2.eq_1
def B_slices_Contains_S_int_int : C := .seq (.pl <| .st (.ext 3 0) <|
    .st (.act none (.px (some 2) (.mv (.c (.bool false))))) .done) K87_2
@[simp] def WB_slices_Contains_S_int_int := @C.wpe _ _ B_slices_Contains_S_int_int.eq_1
def R_slices_Contains_S_int_int : FIR := ⟨B_slices_Contains_S_int_int, 3, [(2, none)]⟩
theorem IR_slices_Contains_S_int_int : cfun Tryz.prog H_slices_Contains_S_int_int Tryz.f87 = some R_slices_Contains_S_int_int := by kernel_rfl
theorem EN_slices_Contains_S_int_int {args : List Value} {h : Heap} {k : Value → Heap → Prop} (hargs : args.length = 2) (hw : B_slices_Contains_S_int_int.wp Tryz.prog (retQ [(2, none)] k) (env0 args 3) h) : CallE Tryz.prog fn_slices_Contains_S_int_int args h k := enter Tryz.func87 rfl IR_slices_Contains_S_int_int hargs hw

def H_slices_EqualFunc_S_impl_Expr_S_impl_Expr_impl_Expr_impl_Expr : Hint := ⟨[(0, false), (1, false), (2, false), (6, false), (7, false), (8, true), (9, true), (15, false), (16, false), (17, false)], [[0, 3, 4, 5, 6]]⟩
def K126_1 : C := .seq (.pl <| .st (.ext 10 0) <|
    .st (.act none (.px (some 3) (.mv (.c (.bool true))))) .done) (.ret)
@[simp] def W126_1 := @C.wpe _ _ K126_1.eq_1
def K126_2 : C := .pl <| .st (.ext 10 1) <|
    .st (.act none (.px (some 10) (.bin .add (.v 9) (.c (.int .i64 1))))) <|
    .st (.act none (.px (some 9) (.mv (.v 10)))) .done
@[simp] def W126_2 := @C.wpe _ _ K126_2.eq_1
def K126_3 : C := .seq (.pl <| .st (.ext 10 0) <|
    .st (.act none (.px (some 3) (.mv (.c (.bool false))))) .done) (.ret)
@[simp] def W126_3 := @C.wpe _ _ K126_3.eq_1
def K126_4 : C := .cond 10 (.v 14) K126_3 (.skip)
@[simp] def W126_4 := @C.wpe _ _ K126_4.eq_1
def K126_5 : Pl := .st (.act none (.px (some 14) (.un .not (.v 13)))) .done
@[simp] def W126_5 := @Pl.wpe _ _ K126_5.eq_1
def K126_6 : C := .seq (.pl <| .st (.ext 10 5) <|
    .st (.act none (.px (some 10) (.mv (.v 2)))) <|
    .st (.act none (.pget (some 11) none 5 0 (some 3))) <|
    .st (.act none (.pget (some 12) none 6 0 (some 3))) <|
    .st (.act none (.ex (some 13) (.callv (.v 10) [.v 11, .v 12]))) K126_5) K126_4
@[simp] def W126_6 := @C.wpe _ _ K126_6.eq_1
def K126_7 : C := .seq (.pl <| .st (.ext 10 4) <|
    .st (.act none (.px (some 10) (.mv (.v 1)))) <|
    .st (.act none (.px (some 11) (.mv (.v 4)))) <|
    .st (.act none (.px (some 12) (.ia 3 (.v 10) (.v 11)))) <|
    .st (.act none (.ld (some 13) (.v 12) (some 3))) <|
    .st (.act none (.pnew 6 (.c (.agg #[.int .i64 0, .int .i64 0, .slice none 0 0])) [])) <|
    .st (.act none (.pset none 6 0 3 (.v 13))) .done) K126_6
@[simp] def W126_7 := @C.wpe _ _ K126_7.eq_1
def K126_8 : C := .seq (.block 1 (.seq (.pl <| .st (.ext 10 3) <|
    .st (.act none (.px (some 10) (.mv (.v 9)))) <|
    .st (.act none (.px (some 11) (.ia 3 (.v 7) (.v 9)))) <|
    .st (.act none (.ld (some 12) (.v 11) (some 3))) <|
    .st (.act none (.pnew 5 (.c (.agg #[.int .i64 0, .int .i64 0, .slice none 0 0])) [])) <|
    .st (.act none (.px (some 4) (.mv (.v 10)))) <|
    .st (.act none (.pset none 5 0 3 (.v 12))) .done) K126_7)) K126_2
@[simp] def W126_8 := @C.wpe _ _ K126_8.eq_1
def K126_9 : C := .seq (.cond 10 (.v 10) (.skip) (.exit 0)) K126_8
@[simp] def W126_9 := @C.wpe _ _ K126_9.eq_1
def K126_10 : C := .seq (.pl <| .st (.ext 10 1) <|
    .st (.act none (.px (some 10) (.bin .lss (.v 9) (.v 8)))) .done) K126_9
@[simp] def W126_10 := @C.wpe _ _ K126_10.eq_1
def K126_11 : C := .block 0 (.loop 10 [0, 3, 4, 5, 6] K126_10)
@[simp] def W126_11 := @C.wpe _ _ K126_11.eq_1
def K126_12 : C := .seq (.seq (.pl <| .st (.ext 10 0) <|
    .st (.act none (.px (some 7) (.mv (.v 0)))) <|
    .st (.act none (.px (some 8) (.lenV (.v 7)))) <|
    .st (.act none (.px (some 9) (.mv (.c (.int .i64 0))))) .done) K126_11) K126_1
@[simp] def W126_12 := @C.wpe _ _ K126_12.eq_1
def K126_13 : C := .seq (.pl <| .st (.ext 10 0) <|
    .st (.act none (.px (some 3) (.mv (.c (.bool false))))) .done) (.ret)
@[simp] def W126_13 := @C.wpe _ _ K126_13.eq_1
def K126_14 : C := .cond 10 (.v 14) K126_13 (.skip)
@[simp] def W126_14 := @C.wpe _ _ K126_14.eq_1
def K126_15 : C := .seq (.seq (.pl <| .st (.ext 10 5) <|
    .st (.act none (.px (some 10) (.mv (.v 0)))) <|
    .st (.act none (.px (some 11) (.lenV (.v 10)))) <|
    .st (.act none (.px (some 12) (.mv (.v 1)))) <|
    .st (.act none (.px (some 13) (.lenV (.v 12)))) <|
    .st (.act none (.px (some 14) (.bin .neq (.v 11) (.v 13)))) .done) K126_14) K126_12
@[simp] def W126_15 := @C.wpe _ _ K126_15.eq_1
def B_slices_EqualFunc_S_impl_Expr_S_impl_Expr_impl_Expr_impl_Expr : C := .seq (.pl <| .st (.ext 10 0) <|
    .st (.act none (.px (some 3) (.mv (.c (.bool false))))) .done) K126_15
@[simp] def WB_slices_EqualFunc_S_impl_Expr_S_impl_Expr_impl_Expr_impl_Expr := @C.wpe _ _ B_slices_EqualFunc_S_impl_Expr_S_impl_Expr_impl_Expr_impl_Expr.eq_1
def R_slices_EqualFunc_S_impl_Expr_S_impl_Expr_impl_Expr_impl_Expr : FIR := ⟨B_slices_EqualFunc_S_impl_Expr_S_impl_Expr_impl_Expr_impl_Expr, 10, [(3, none)]⟩
theorem IR_slices_EqualFunc_S_impl_Expr_S_impl_Expr_impl_Expr_impl_Expr : cfun Tryz.prog H_slices_EqualFunc_S_impl_Expr_S_impl_Expr_impl_Expr_impl_Expr Tryz.f126 = some R_slices_EqualFunc_S_impl_Expr_S_impl_Expr_impl_Expr_impl_Expr := by kernel_rfl
theorem EN_slices_EqualFunc_S_impl_Expr_S_impl_Expr_impl_Expr_impl_Expr {args : List Value} {h : Heap} {k : Value → Heap → Prop} (hargs : args.length = 3) (hw : B_slices_EqualFunc_S_impl_Expr_S_impl_Expr_impl_Expr_impl_Expr.wp Tryz.prog (retQ [(3, none)] k) (env0 args 10) h) : CallE Tryz.prog fn_slices_EqualFunc_S_impl_Expr_S_impl_Expr_impl_Expr_impl_Expr args h k := enter Tryz.func126 rfl IR_slices_EqualFunc_S_impl_Expr_S_impl_Expr_impl_Expr_impl_Expr hargs hw

def H_slices_Equal_S_int_int : Hint := ⟨[(0, false), (1, false), (4, false), (5, false), (12, false), (13, false)], [[2, 3]]⟩
def K115_1 : C := .seq (.pl <| .st (.ext 6 0) <|
    .st (.act none (.px (some 2) (.mv (.c (.bool true))))) .done) (.ret)
@[simp] def W115_1 := @C.wpe _ _ K115_1.eq_1
def K115_2 : C := .pl <| .st (.ext 6 1) <|
    .st (.act none (.px (some 6) (.bin .add (.v 5) (.c (.int .i64 1))))) <|
    .st (.act none (.px (some 5) (.mv (.v 6)))) .done
@[simp] def W115_2 := @C.wpe _ _ K115_2.eq_1
def K115_3 : C := .seq (.pl <| .st (.ext 6 0) <|
    .st (.act none (.px (some 2) (.mv (.c (.bool false))))) .done) (.ret)
@[simp] def W115_3 := @C.wpe _ _ K115_3.eq_1
def K115_4 : C := .cond 6 (.v 14) K115_3 (.skip)
@[simp] def W115_4 := @C.wpe _ _ K115_4.eq_1
def K115_5 : C := .seq (.pl <| .st (.ext 6 9) <|
    .st (.act none (.px (some 6) (.mv (.v 0)))) <|
    .st (.act none (.px (some 7) (.mv (.v 3)))) <|
    .st (.act none (.px (some 8) (.ia 1 (.v 6) (.v 7)))) <|
    .st (.act none (.ld (some 9) (.v 8) none)) <|
    .st (.act none (.px (some 10) (.mv (.v 1)))) <|
    .st (.act none (.px (some 11) (.mv (.v 3)))) <|
    .st (.act none (.px (some 12) (.ia 1 (.v 10) (.v 11)))) <|
    .st (.act none (.ld (some 13) (.v 12) none)) <|
    .st (.act none (.px (some 14) (.bin .neq (.v 9) (.v 13)))) .done) K115_4
@[simp] def W115_5 := @C.wpe _ _ K115_5.eq_1
def K115_6 : C := .seq (.block 1 (.seq (.pl <| .st (.ext 6 1) <|
    .st (.act none (.px (some 6) (.mv (.v 5)))) <|
    .st (.act none (.px (some 3) (.mv (.v 6)))) .done) K115_5)) K115_2
@[simp] def W115_6 := @C.wpe _ _ K115_6.eq_1
def K115_7 : C := .seq (.cond 6 (.v 6) (.skip) (.exit 0)) K115_6
@[simp] def W115_7 := @C.wpe _ _ K115_7.eq_1
def K115_8 : C := .seq (.pl <| .st (.ext 6 1) <|
    .st (.act none (.px (some 6) (.bin .lss (.v 5) (.v 4)))) .done) K115_7
@[simp] def W115_8 := @C.wpe _ _ K115_8.eq_1
def K115_9 : C := .block 0 (.loop 6 [2, 3] K115_8)
@[simp] def W115_9 := @C.wpe _ _ K115_9.eq_1
def K115_10 : C := .seq (.seq (.pl <| .st (.ext 6 1) <|
    .st (.act none (.px (some 6) (.mv (.v 0)))) <|
    .st (.act none (.px (some 4) (.lenV (.v 6)))) <|
    .st (.act none (.px (some 5) (.mv (.c (.int .i64 0))))) .done) K115_9) K115_1
@[simp] def W115_10 := @C.wpe _ _ K115_10.eq_1
def K115_11 : C := .seq (.pl <| .st (.ext 6 0) <|
    .st (.act none (.px (some 2) (.mv (.c (.bool false))))) .done) (.ret)
@[simp] def W115_11 := @C.wpe _ _ K115_11.eq_1
def K115_12 : C := .cond 6 (.v 10) K115_11 (.skip)
@[simp] def W115_12 := @C.wpe _ _ K115_12.eq_1
def K115_13 : C := .seq (.seq (.pl <| .st (.ext 6 5) <|
    .st (.act none (.px (some 6) (.mv (.v 0)))) <|
    .st (.act none (.px (some 7) (.lenV (.v 6)))) <|
    .st (.act none (.px (some 8) (.mv (.v 1)))) <|
    .st (.act none (.px (some 9) (.lenV (.v 8)))) <|
    .st (.act none (.px (some 10) (.bin .neq (.v 7) (.v 9)))) .done) K115_12) K115_10
@[simp] def W115_13 := @C.wpe _ _ K115_13.eq_1
def B_slices_Equal_S_int_int : C := .seq (.pl <| .st (.ext 6 0) <|
    .st (.act none (.px (some 2) (.mv (.c (.bool false))))) .done) K115_13
@[simp] def WB_slices_Equal_S_int_int := @C.wpe _ _ B_slices_Equal_S_int_int.eq_1
def R_slices_Equal_S_int_int : FIR := ⟨B_slices_Equal_S_int_int, 6, [(2, none)]⟩
theorem IR_slices_Equal_S_int_int : cfun Tryz.prog H_slices_Equal_S_int_int Tryz.f115 = some R_slices_Equal_S_int_int := by kernel_rfl
theorem EN_slices_Equal_S_int_int {args : List Value} {h : Heap} {k : Value → Heap → Prop} (hargs : args.length = 2) (hw : B_slices_Equal_S_int_int.wp Tryz.prog (retQ [(2, none)] k) (env0 args 6) h) : CallE Tryz.prog fn_slices_Equal_S_int_int args h k := enter Tryz.func115 rfl IR_slices_Equal_S_int_int hargs hw


end Go.Proofs.YthgimpheeemooaaGreat
