/-
  Bodies of functions in the small language, as a program printed them, and that each is what the translation gives.
-/
import Derived.Test.YthgimpheeemooaaGreatI1
namespace Go.Proofs.YthgimpheeemooaaGreat
open Go
set_option linter.all false
set_option linter.defProp false
set_option maxRecDepth 1000000

def H_laws_eqState : Hint := ⟨[(0, false), (1, false), (2, true), (3, true), (4, false)], []⟩
def K62_1 : C := .seq (.pl <| .st (.ext 5 0) <|
    .st (.act none (.px (some 4) (.mv (.c (.bool true))))) .done) (.ret)
@[simp] def W62_1 := @C.wpe _ _ K62_1.eq_1
def K62_2 : C := .seq (.pl <| .st (.ext 5 0) <|
    .st (.act none (.px (some 4) (.mv (.c (.bool false))))) .done) (.ret)
@[simp] def W62_2 := @C.wpe _ _ K62_2.eq_1
def K62_3 : C := .cond 5 (.v 10) K62_2 (.skip)
@[simp] def W62_3 := @C.wpe _ _ K62_3.eq_1
def K62_4 : Pl := .st (.act none (.px (some 10) (.un .not (.v 9)))) .done
@[simp] def W62_4 := @Pl.wpe _ _ K62_4.eq_1
def K62_5 : C := .seq (.seq (.pl <| .st (.ext 5 6) <|
    .st (.act none (.als 5 none 2)) <|
    .st (.act none (.pget (some 6) (some 5) 2 1 none)) <|
    .st (.act none (.als 7 none 3)) <|
    .st (.act none (.pget (some 8) (some 7) 3 1 none)) <|
    .st (.act none (.ex (some 9) (.call fn_laws_eqIntS [.v 6, .v 8]))) K62_4) K62_3) K62_1
@[simp] def W62_5 := @C.wpe _ _ K62_5.eq_1
def K62_6 : C := .seq (.pl <| .st (.ext 5 0) <|
    .st (.act none (.px (some 4) (.mv (.c (.bool false))))) .done) (.ret)
@[simp] def W62_6 := @C.wpe _ _ K62_6.eq_1
def K62_7 : C := .cond 5 (.v 10) K62_6 (.skip)
@[simp] def W62_7 := @C.wpe _ _ K62_7.eq_1
def K62_8 : Pl := .st (.act none (.px (some 10) (.un .not (.v 9)))) .done
@[simp] def W62_8 := @Pl.wpe _ _ K62_8.eq_1
def K62_9 : C := .seq (.seq (.pl <| .st (.ext 5 6) <|
    .st (.act none (.als 5 none 2)) <|
    .st (.act none (.pget (some 6) (some 5) 2 0 none)) <|
    .st (.act none (.als 7 none 3)) <|
    .st (.act none (.pget (some 8) (some 7) 3 0 none)) <|
    .st (.act none (.ex (some 9) (.call fn_laws_eqIntS [.v 6, .v 8]))) K62_8) K62_7) K62_5
@[simp] def W62_9 := @C.wpe _ _ K62_9.eq_1
def B_laws_eqState : C := .seq (.pl <| .st (.ext 5 0) <|
    .st (.act none (.pnew 2 (.v 0) [])) <|
    .st (.act none (.pnew 3 (.v 1) [])) <|
    .st (.act none (.px (some 4) (.mv (.c (.bool false))))) .done) K62_9
@[simp] def WB_laws_eqState := @C.wpe _ _ B_laws_eqState.eq_1
def R_laws_eqState : FIR := ⟨B_laws_eqState, 5, [(4, none)]⟩
theorem IR_laws_eqState : cfun Tryz.prog H_laws_eqState Tryz.f62 = some R_laws_eqState := by kernel_rfl
theorem EN_laws_eqState {args : List Value} {h : Heap} {k : Value → Heap → Prop} (hargs : args.length = 2) (hw : B_laws_eqState.wp Tryz.prog (retQ [(4, none)] k) (env0 args 5) h) : CallE Tryz.prog fn_laws_eqState args h k := enter Tryz.func62 rfl IR_laws_eqState hargs hw

def H_laws_eqStateS : Hint := ⟨[(0, false), (1, false), (4, false), (5, false)], [[2]]⟩
def K25_1 : C := .seq (.pl <| .st (.ext 4 0) <|
    .st (.act none (.px (some 2) (.mv (.c (.bool true))))) .done) (.ret)
@[simp] def W25_1 := @C.wpe _ _ K25_1.eq_1
def K25_2 : C := .pl <| .st (.ext 4 2) <|
    .st (.act none (.px (some 4) (.mv (.v 3)))) <|
    .st (.act none (.px (some 5) (.bin .add (.v 4) (.c (.int .i64 1))))) <|
    .st (.act none (.px (some 3) (.mv (.v 5)))) .done
@[simp] def W25_2 := @C.wpe _ _ K25_2.eq_1
def K25_3 : C := .seq (.pl <| .st (.ext 4 0) <|
    .st (.act none (.px (some 2) (.mv (.c (.bool false))))) .done) (.ret)
@[simp] def W25_3 := @C.wpe _ _ K25_3.eq_1
def K25_4 : C := .cond 4 (.v 13) K25_3 (.skip)
@[simp] def W25_4 := @C.wpe _ _ K25_4.eq_1
def K25_5 : Pl := .st (.act none (.px (some 13) (.un .not (.v 12)))) .done
@[simp] def W25_5 := @Pl.wpe _ _ K25_5.eq_1
def K25_6 : C := .seq (.block 1 (.seq (.pl <| .st (.ext 4 10) <|
    .st (.act none (.px (some 4) (.mv (.v 0)))) <|
    .st (.act none (.px (some 5) (.mv (.v 3)))) <|
    .st (.act none (.px (some 6) (.ia 2 (.v 4) (.v 5)))) <|
    .st (.act none (.ld (some 7) (.v 6) (some 2))) <|
    .st (.act none (.px (some 8) (.mv (.v 1)))) <|
    .st (.act none (.px (some 9) (.mv (.v 3)))) <|
    .st (.act none (.px (some 10) (.ia 2 (.v 8) (.v 9)))) <|
    .st (.act none (.ld (some 11) (.v 10) (some 2))) <|
    .st (.act none (.ex (some 12) (.call fn_laws_eqState [.v 7, .v 11]))) K25_5) K25_4)) K25_2
@[simp] def W25_6 := @C.wpe _ _ K25_6.eq_1
def K25_7 : C := .cond 4 (.v 7) (.skip) (.exit 0)
@[simp] def W25_7 := @C.wpe _ _ K25_7.eq_1
def K25_8 : C := .seq (.seq (.pl <| .st (.ext 4 4) <|
    .st (.act none (.px (some 4) (.mv (.v 3)))) <|
    .st (.act none (.px (some 5) (.mv (.v 0)))) <|
    .st (.act none (.px (some 6) (.lenV (.v 5)))) <|
    .st (.act none (.px (some 7) (.bin .lss (.v 4) (.v 6)))) .done) K25_7) K25_6
@[simp] def W25_8 := @C.wpe _ _ K25_8.eq_1
def K25_9 : C := .block 0 (.loop 4 [2] K25_8)
@[simp] def W25_9 := @C.wpe _ _ K25_9.eq_1
def K25_10 : C := .seq (.seq (.pl <| .st (.ext 4 0) <|
    .st (.act none (.px (some 3) (.mv (.c (.int .i64 0))))) .done) K25_9) K25_1
@[simp] def W25_10 := @C.wpe _ _ K25_10.eq_1
def K25_11 : C := .seq (.pl <| .st (.ext 4 0) <|
    .st (.act none (.px (some 2) (.mv (.c (.bool false))))) .done) (.ret)
@[simp] def W25_11 := @C.wpe _ _ K25_11.eq_1
def K25_12 : C := .cond 4 (.v 8) K25_11 (.skip)
@[simp] def W25_12 := @C.wpe _ _ K25_12.eq_1
def K25_13 : C := .seq (.seq (.pl <| .st (.ext 4 5) <|
    .st (.act none (.px (some 4) (.mv (.v 0)))) <|
    .st (.act none (.px (some 5) (.lenV (.v 4)))) <|
    .st (.act none (.px (some 6) (.mv (.v 1)))) <|
    .st (.act none (.px (some 7) (.lenV (.v 6)))) <|
    .st (.act none (.px (some 8) (.bin .neq (.v 5) (.v 7)))) .done) K25_12) K25_10
@[simp] def W25_13 := @C.wpe _ _ K25_13.eq_1
def B_laws_eqStateS : C := .seq (.pl <| .st (.ext 4 0) <|
    .st (.act none (.px (some 2) (.mv (.c (.bool false))))) .done) K25_13
@[simp] def WB_laws_eqStateS := @C.wpe _ _ B_laws_eqStateS.eq_1
def R_laws_eqStateS : FIR := ⟨B_laws_eqStateS, 4, [(2, none)]⟩
theorem IR_laws_eqStateS : cfun Tryz.prog H_laws_eqStateS Tryz.f25 = some R_laws_eqStateS := by kernel_rfl
theorem EN_laws_eqStateS {args : List Value} {h : Heap} {k : Value → Heap → Prop} (hargs : args.length = 2) (hw : B_laws_eqStateS.wp Tryz.prog (retQ [(2, none)] k) (env0 args 4) h) : CallE Tryz.prog fn_laws_eqStateS args h k := enter Tryz.func25 rfl IR_laws_eqStateS hargs hw

def H_laws_heldIntS : Hint := ⟨[(0, false), (1, false), (4, false), (5, false)], [[2]]⟩
def K65_1 : C := .seq (.pl <| .st (.ext 4 1) <|
    .st (.act none (.px (some 4) (.mv (.v 1)))) <|
    .st (.act none (.px (some 2) (.mv (.v 4)))) .done) (.ret)
@[simp] def W65_1 := @C.wpe _ _ K65_1.eq_1
def K65_2 : C := .pl <| .st (.ext 4 2) <|
    .st (.act none (.px (some 4) (.mv (.v 3)))) <|
    .st (.act none (.px (some 5) (.bin .add (.v 4) (.c (.int .i64 1))))) <|
    .st (.act none (.px (some 3) (.mv (.v 5)))) .done
@[simp] def W65_2 := @C.wpe _ _ K65_2.eq_1
def K65_3 : C := .pl <| .st (.ext 4 2) <|
    .st (.act none (.px (some 4) (.mv (.v 1)))) <|
    .st (.act none (.px (some 5) (.bin .add (.v 4) (.c (.int .i64 1))))) <|
    .st (.act none (.px (some 1) (.mv (.v 5)))) .done
@[simp] def W65_3 := @C.wpe _ _ K65_3.eq_1
def K65_4 : C := .seq (.pl <| .st (.ext 4 0) <|
    .st (.act none (.px (some 2) (.mv (.c (.int .i64 (-1)))))) .done) (.ret)
@[simp] def W65_4 := @C.wpe _ _ K65_4.eq_1
def K65_5 : C := .cond 4 (.v 9) K65_4 (.skip)
@[simp] def W65_5 := @C.wpe _ _ K65_5.eq_1
def K65_6 : C := .seq (.block 1 (.seq (.seq (.pl <| .st (.ext 4 6) <|
    .st (.act none (.px (some 4) (.mv (.v 0)))) <|
    .st (.act none (.px (some 5) (.mv (.v 3)))) <|
    .st (.act none (.px (some 6) (.ia 1 (.v 4) (.v 5)))) <|
    .st (.act none (.ld (some 7) (.v 6) none)) <|
    .st (.act none (.px (some 8) (.mv (.v 1)))) <|
    .st (.act none (.px (some 9) (.bin .neq (.v 7) (.v 8)))) .done) K65_5) K65_3)) K65_2
@[simp] def W65_6 := @C.wpe _ _ K65_6.eq_1
def K65_7 : C := .cond 4 (.v 7) (.skip) (.exit 0)
@[simp] def W65_7 := @C.wpe _ _ K65_7.eq_1
def K65_8 : C := .seq (.seq (.pl <| .st (.ext 4 4) <|
    .st (.act none (.px (some 4) (.mv (.v 3)))) <|
    .st (.act none (.px (some 5) (.mv (.v 0)))) <|
    .st (.act none (.px (some 6) (.lenV (.v 5)))) <|
    .st (.act none (.px (some 7) (.bin .lss (.v 4) (.v 6)))) .done) K65_7) K65_6
@[simp] def W65_8 := @C.wpe _ _ K65_8.eq_1
def K65_9 : C := .block 0 (.loop 4 [2] K65_8)
@[simp] def W65_9 := @C.wpe _ _ K65_9.eq_1
def K65_10 : C := .seq (.seq (.pl <| .st (.ext 4 0) <|
    .st (.act none (.px (some 3) (.mv (.c (.int .i64 0))))) .done) K65_9) K65_1
@[simp] def W65_10 := @C.wpe _ _ K65_10.eq_1
def B_laws_heldIntS : C := .seq (.pl <| .st (.ext 4 0) <|
    .st (.act none (.px (some 2) (.mv (.c (.int .i64 0))))) .done) K65_10
@[simp] def WB_laws_heldIntS := @C.wpe _ _ B_laws_heldIntS.eq_1
def R_laws_heldIntS : FIR := ⟨B_laws_heldIntS, 4, [(2, none)]⟩
theorem IR_laws_heldIntS : cfun Tryz.prog H_laws_heldIntS Tryz.f65 = some R_laws_heldIntS := by kernel_rfl
theorem EN_laws_heldIntS {args : List Value} {h : Heap} {k : Value → Heap → Prop} (hargs : args.length = 2) (hw : B_laws_heldIntS.wp Tryz.prog (retQ [(2, none)] k) (env0 args 4) h) : CallE Tryz.prog fn_laws_heldIntS args h k := enter Tryz.func65 rfl IR_laws_heldIntS hargs hw

def H_laws_heldStateS : Hint := ⟨[(0, false), (1, false), (4, false), (5, false)], [[2]]⟩
def K29_1 : C := .seq (.pl <| .st (.ext 4 1) <|
    .st (.act none (.px (some 4) (.mv (.v 1)))) <|
    .st (.act none (.px (some 2) (.mv (.v 4)))) .done) (.ret)
@[simp] def W29_1 := @C.wpe _ _ K29_1.eq_1
def K29_2 : C := .pl <| .st (.ext 4 2) <|
    .st (.act none (.px (some 4) (.mv (.v 3)))) <|
    .st (.act none (.px (some 5) (.bin .add (.v 4) (.c (.int .i64 1))))) <|
    .st (.act none (.px (some 3) (.mv (.v 5)))) .done
@[simp] def W29_2 := @C.wpe _ _ K29_2.eq_1
def K29_3 : C := .seq (.pl <| .st (.ext 4 0) <|
    .st (.act none (.px (some 2) (.mv (.c (.int .i64 (-1)))))) .done) (.ret)
@[simp] def W29_3 := @C.wpe _ _ K29_3.eq_1
def K29_4 : C := .cond 4 (.v 5) K29_3 (.skip)
@[simp] def W29_4 := @C.wpe _ _ K29_4.eq_1
def K29_5 : C := .seq (.pl <| .st (.ext 4 2) <|
    .st (.act none (.px (some 4) (.mv (.v 1)))) <|
    .st (.act none (.px (some 5) (.bin .lss (.v 4) (.c (.int .i64 0))))) .done) K29_4
@[simp] def W29_5 := @C.wpe _ _ K29_5.eq_1
def K29_6 : Pl := .st (.act none (.px (some 1) (.mv (.v 10)))) .done
@[simp] def W29_6 := @Pl.wpe _ _ K29_6.eq_1
def K29_7 : C := .seq (.pl <| .st (.ext 4 7) <|
    .st (.act none (.px (some 4) (.mv (.v 0)))) <|
    .st (.act none (.px (some 5) (.mv (.v 3)))) <|
    .st (.act none (.px (some 6) (.ia 2 (.v 4) (.v 5)))) <|
    .st (.act none (.px (some 7) (.fa 1 (.v 6)))) <|
    .st (.act none (.ld (some 8) (.v 7) none)) <|
    .st (.act none (.px (some 9) (.mv (.v 1)))) <|
    .st (.act none (.ex (some 10) (.call fn_laws_heldIntS [.v 8, .v 9]))) K29_6) K29_5
@[simp] def W29_7 := @C.wpe _ _ K29_7.eq_1
def K29_8 : C := .seq (.pl <| .st (.ext 4 0) <|
    .st (.act none (.px (some 2) (.mv (.c (.int .i64 (-1)))))) .done) (.ret)
@[simp] def W29_8 := @C.wpe _ _ K29_8.eq_1
def K29_9 : C := .cond 4 (.v 5) K29_8 (.skip)
@[simp] def W29_9 := @C.wpe _ _ K29_9.eq_1
def K29_10 : C := .seq (.seq (.pl <| .st (.ext 4 2) <|
    .st (.act none (.px (some 4) (.mv (.v 1)))) <|
    .st (.act none (.px (some 5) (.bin .lss (.v 4) (.c (.int .i64 0))))) .done) K29_9) K29_7
@[simp] def W29_10 := @C.wpe _ _ K29_10.eq_1
def K29_11 : Pl := .st (.act none (.px (some 1) (.mv (.v 10)))) .done
@[simp] def W29_11 := @Pl.wpe _ _ K29_11.eq_1
def K29_12 : C := .seq (.block 1 (.seq (.pl <| .st (.ext 4 7) <|
    .st (.act none (.px (some 4) (.mv (.v 0)))) <|
    .st (.act none (.px (some 5) (.mv (.v 3)))) <|
    .st (.act none (.px (some 6) (.ia 2 (.v 4) (.v 5)))) <|
    .st (.act none (.px (some 7) (.fa 0 (.v 6)))) <|
    .st (.act none (.ld (some 8) (.v 7) none)) <|
    .st (.act none (.px (some 9) (.mv (.v 1)))) <|
    .st (.act none (.ex (some 10) (.call fn_laws_heldIntS [.v 8, .v 9]))) K29_11) K29_10)) K29_2
@[simp] def W29_12 := @C.wpe _ _ K29_12.eq_1
def K29_13 : C := .cond 4 (.v 7) (.skip) (.exit 0)
@[simp] def W29_13 := @C.wpe _ _ K29_13.eq_1
def K29_14 : C := .seq (.seq (.pl <| .st (.ext 4 4) <|
    .st (.act none (.px (some 4) (.mv (.v 3)))) <|
    .st (.act none (.px (some 5) (.mv (.v 0)))) <|
    .st (.act none (.px (some 6) (.lenV (.v 5)))) <|
    .st (.act none (.px (some 7) (.bin .lss (.v 4) (.v 6)))) .done) K29_13) K29_12
@[simp] def W29_14 := @C.wpe _ _ K29_14.eq_1
def K29_15 : C := .block 0 (.loop 4 [2] K29_14)
@[simp] def W29_15 := @C.wpe _ _ K29_15.eq_1
def K29_16 : C := .seq (.seq (.pl <| .st (.ext 4 0) <|
    .st (.act none (.px (some 3) (.mv (.c (.int .i64 0))))) .done) K29_15) K29_1
@[simp] def W29_16 := @C.wpe _ _ K29_16.eq_1
def B_laws_heldStateS : C := .seq (.pl <| .st (.ext 4 0) <|
    .st (.act none (.px (some 2) (.mv (.c (.int .i64 0))))) .done) K29_16
@[simp] def WB_laws_heldStateS := @C.wpe _ _ B_laws_heldStateS.eq_1
def R_laws_heldStateS : FIR := ⟨B_laws_heldStateS, 4, [(2, none)]⟩
theorem IR_laws_heldStateS : cfun Tryz.prog H_laws_heldStateS Tryz.f29 = some R_laws_heldStateS := by kernel_rfl
theorem EN_laws_heldStateS {args : List Value} {h : Heap} {k : Value → Heap → Prop} (hargs : args.length = 2) (hw : B_laws_heldStateS.wp Tryz.prog (retQ [(2, none)] k) (env0 args 4) h) : CallE Tryz.prog fn_laws_heldStateS args h k := enter Tryz.func29 rfl IR_laws_heldStateS hargs hw

def H_laws_markStateS : Hint := ⟨[(0, false), (1, false), (4, false), (5, false)], [[2]]⟩
def K28_1 : C := .seq (.pl <| .st (.ext 4 1) <|
    .st (.act none (.px (some 4) (.mv (.v 1)))) <|
    .st (.act none (.px (some 2) (.mv (.v 4)))) .done) (.ret)
@[simp] def W28_1 := @C.wpe _ _ K28_1.eq_1
def K28_2 : C := .pl <| .st (.ext 4 2) <|
    .st (.act none (.px (some 4) (.mv (.v 3)))) <|
    .st (.act none (.px (some 5) (.bin .add (.v 4) (.c (.int .i64 1))))) <|
    .st (.act none (.px (some 3) (.mv (.v 5)))) .done
@[simp] def W28_2 := @C.wpe _ _ K28_2.eq_1
def K28_3 : Pl := .st (.act none (.px (some 1) (.mv (.v 10)))) .done
@[simp] def W28_3 := @Pl.wpe _ _ K28_3.eq_1
def K28_4 : C := .pl <| .st (.ext 4 7) <|
    .st (.act none (.px (some 4) (.mv (.v 0)))) <|
    .st (.act none (.px (some 5) (.mv (.v 3)))) <|
    .st (.act none (.px (some 6) (.ia 2 (.v 4) (.v 5)))) <|
    .st (.act none (.px (some 7) (.fa 1 (.v 6)))) <|
    .st (.act none (.ld (some 8) (.v 7) none)) <|
    .st (.act none (.px (some 9) (.mv (.v 1)))) <|
    .st (.act none (.ex (some 10) (.call fn_laws_markIntS [.v 8, .v 9]))) K28_3
@[simp] def W28_4 := @C.wpe _ _ K28_4.eq_1
def K28_5 : Pl := .st (.act none (.px (some 1) (.mv (.v 10)))) .done
@[simp] def W28_5 := @Pl.wpe _ _ K28_5.eq_1
def K28_6 : C := .seq (.block 1 (.seq (.pl <| .st (.ext 4 7) <|
    .st (.act none (.px (some 4) (.mv (.v 0)))) <|
    .st (.act none (.px (some 5) (.mv (.v 3)))) <|
    .st (.act none (.px (some 6) (.ia 2 (.v 4) (.v 5)))) <|
    .st (.act none (.px (some 7) (.fa 0 (.v 6)))) <|
    .st (.act none (.ld (some 8) (.v 7) none)) <|
    .st (.act none (.px (some 9) (.mv (.v 1)))) <|
    .st (.act none (.ex (some 10) (.call fn_laws_markIntS [.v 8, .v 9]))) K28_5) K28_4)) K28_2
@[simp] def W28_6 := @C.wpe _ _ K28_6.eq_1
def K28_7 : C := .cond 4 (.v 7) (.skip) (.exit 0)
@[simp] def W28_7 := @C.wpe _ _ K28_7.eq_1
def K28_8 : C := .seq (.seq (.pl <| .st (.ext 4 4) <|
    .st (.act none (.px (some 4) (.mv (.v 3)))) <|
    .st (.act none (.px (some 5) (.mv (.v 0)))) <|
    .st (.act none (.px (some 6) (.lenV (.v 5)))) <|
    .st (.act none (.px (some 7) (.bin .lss (.v 4) (.v 6)))) .done) K28_7) K28_6
@[simp] def W28_8 := @C.wpe _ _ K28_8.eq_1
def K28_9 : C := .block 0 (.loop 4 [2] K28_8)
@[simp] def W28_9 := @C.wpe _ _ K28_9.eq_1
def K28_10 : C := .seq (.seq (.pl <| .st (.ext 4 0) <|
    .st (.act none (.px (some 3) (.mv (.c (.int .i64 0))))) .done) K28_9) K28_1
@[simp] def W28_10 := @C.wpe _ _ K28_10.eq_1
def B_laws_markStateS : C := .seq (.pl <| .st (.ext 4 0) <|
    .st (.act none (.px (some 2) (.mv (.c (.int .i64 0))))) .done) K28_10
@[simp] def WB_laws_markStateS := @C.wpe _ _ B_laws_markStateS.eq_1
def R_laws_markStateS : FIR := ⟨B_laws_markStateS, 4, [(2, none)]⟩
theorem IR_laws_markStateS : cfun Tryz.prog H_laws_markStateS Tryz.f28 = some R_laws_markStateS := by kernel_rfl
theorem EN_laws_markStateS {args : List Value} {h : Heap} {k : Value → Heap → Prop} (hargs : args.length = 2) (hw : B_laws_markStateS.wp Tryz.prog (retQ [(2, none)] k) (env0 args 4) h) : CallE Tryz.prog fn_laws_markStateS args h k := enter Tryz.func28 rfl IR_laws_markStateS hargs hw


end Go.Proofs.YthgimpheeemooaaGreat
