/-
  Texts of this proof, one behind the other.
-/
import Derived.Test.YtonjglbachhdcaaGreatM3
/-
  Bodies of functions in the small language, as a program printed them, and that each is what the translation gives.
-/
namespace Go.Proofs.YtonjglbachhdcaaGreat
open Go
set_option linter.all false
set_option linter.defProp false
set_option maxRecDepth 1000000

def H_spec_l16Rd_pick : Hint := ⟨[(0, false), (1, false), (4, false), (5, false), (6, false)], []⟩
def K59_1 : C := .seq (.pl <| .st (.ext 5 3) <|
    .st (.act none (.px (some 5) (.mv (.v 4)))) <|
    .st (.act none (.px (some 6) (.mv (.v 1)))) <|
    .st (.act none (.px (some 7) (.bin .rem (.v 5) (.v 6)))) <|
    .st (.act none (.px (some 2) (.mv (.v 7)))) .done) (.ret)
@[simp] def W59_1 := @C.wpe _ _ K59_1.eq_1
def K59_2 : C := .seq (.pl <| .st (.ext 5 4) <|
    .st (.act none (.px (some 5) (.mv (.v 4)))) <|
    .st (.act none (.px (some 6) (.mv (.v 4)))) <|
    .st (.act none (.px (some 7) (.bin .quo (.v 6) (.c (.int .i64 64))))) <|
    .st (.act none (.px (some 8) (.bin .xor (.v 5) (.v 7)))) <|
    .st (.act none (.px (some 4) (.mv (.v 8)))) .done) K59_1
@[simp] def W59_2 := @C.wpe _ _ K59_2.eq_1
def K59_3 : C := .seq (.pl <| .st (.ext 5 45) <|
    .st (.act none (.px (some 5) (.mv (.v 0)))) <|
    .st (.act none (.px (some 6) (.nilc (.v 5)))) <|
    .st (.act none (.px (some 7) (.fa 0 (.v 6)))) <|
    .st (.act none (.ld (some 8) (.v 7) none)) <|
    .st (.act none (.px (some 9) (.mv (.v 3)))) <|
    .st (.act none (.px (some 10) (.mv (.v 0)))) <|
    .st (.act none (.px (some 11) (.nilc (.v 10)))) <|
    .st (.act none (.px (some 12) (.fa 0 (.v 11)))) <|
    .st (.act none (.ld (some 13) (.v 12) none)) <|
    .st (.act none (.px (some 14) (.lenV (.v 13)))) <|
    .st (.act none (.px (some 15) (.bin .rem (.v 9) (.v 14)))) <|
    .st (.act none (.px (some 16) (.ia 1 (.v 8) (.v 15)))) <|
    .st (.act none (.ld (some 17) (.v 16) none)) <|
    .st (.act none (.px (some 18) (.conv .i64 (.v 17)))) <|
    .st (.act none (.px (some 19) (.bin .mul (.v 18) (.c (.int .i64 131))))) <|
    .st (.act none (.px (some 20) (.mv (.v 0)))) <|
    .st (.act none (.px (some 21) (.nilc (.v 20)))) <|
    .st (.act none (.px (some 22) (.fa 0 (.v 21)))) <|
    .st (.act none (.ld (some 23) (.v 22) none)) <|
    .st (.act none (.px (some 24) (.mv (.v 3)))) <|
    .st (.act none (.px (some 25) (.bin .mul (.v 24) (.c (.int .i64 7))))) <|
    .st (.act none (.px (some 26) (.bin .add (.v 25) (.c (.int .i64 3))))) <|
    .st (.act none (.px (some 27) (.mv (.v 0)))) <|
    .st (.act none (.px (some 28) (.nilc (.v 27)))) <|
    .st (.act none (.px (some 29) (.fa 0 (.v 28)))) <|
    .st (.act none (.ld (some 30) (.v 29) none)) <|
    .st (.act none (.px (some 31) (.lenV (.v 30)))) <|
    .st (.act none (.px (some 32) (.bin .rem (.v 26) (.v 31)))) <|
    .st (.act none (.px (some 33) (.ia 1 (.v 23) (.v 32)))) <|
    .st (.act none (.ld (some 34) (.v 33) none)) <|
    .st (.act none (.px (some 35) (.conv .i64 (.v 34)))) <|
    .st (.act none (.px (some 36) (.bin .mul (.v 35) (.c (.int .i64 1117))))) <|
    .st (.act none (.px (some 37) (.bin .add (.v 19) (.v 36)))) <|
    .st (.act none (.px (some 38) (.mv (.v 3)))) <|
    .st (.act none (.px (some 39) (.bin .mul (.v 38) (.c (.int .i64 29))))) <|
    .st (.act none (.px (some 40) (.bin .add (.v 37) (.v 39)))) <|
    .st (.act none (.px (some 41) (.mv (.v 3)))) <|
    .st (.act none (.px (some 42) (.mv (.v 0)))) <|
    .st (.act none (.px (some 43) (.nilc (.v 42)))) <|
    .st (.act none (.px (some 44) (.fa 0 (.v 43)))) <|
    .st (.act none (.ld (some 45) (.v 44) none)) <|
    .st (.act none (.px (some 46) (.lenV (.v 45)))) <|
    .st (.act none (.px (some 47) (.bin .quo (.v 41) (.v 46)))) <|
    .st (.act none (.px (some 48) (.bin .mul (.v 47) (.c (.int .i64 53))))) <|
    .st (.act none (.px (some 49) (.bin .add (.v 40) (.v 48)))) <|
    .st (.act none (.px (some 4) (.mv (.v 49)))) .done) K59_2
@[simp] def W59_3 := @C.wpe _ _ K59_3.eq_1
def K59_4 : C := .seq (.pl <| .st (.ext 5 10) <|
    .st (.act none (.px (some 5) (.mv (.v 0)))) <|
    .st (.act none (.px (some 6) (.nilc (.v 5)))) <|
    .st (.act none (.px (some 7) (.fa 0 (.v 6)))) <|
    .st (.act none (.ld (some 8) (.v 7) none)) <|
    .st (.act none (.px (some 9) (.mv (.v 3)))) <|
    .st (.act none (.px (some 10) (.ia 1 (.v 8) (.v 9)))) <|
    .st (.act none (.ld (some 11) (.v 10) none)) <|
    .st (.act none (.px (some 12) (.conv .i64 (.v 11)))) <|
    .st (.act none (.px (some 13) (.mv (.v 1)))) <|
    .st (.act none (.px (some 14) (.bin .rem (.v 12) (.v 13)))) <|
    .st (.act none (.px (some 2) (.mv (.v 14)))) .done) (.ret)
@[simp] def W59_4 := @C.wpe _ _ K59_4.eq_1
def K59_5 : C := .cond 5 (.v 11) K59_4 (.skip)
@[simp] def W59_5 := @C.wpe _ _ K59_5.eq_1
def K59_6 : C := .seq (.seq (.pl <| .st (.ext 5 7) <|
    .st (.act none (.px (some 5) (.mv (.v 3)))) <|
    .st (.act none (.px (some 6) (.mv (.v 0)))) <|
    .st (.act none (.px (some 7) (.nilc (.v 6)))) <|
    .st (.act none (.px (some 8) (.fa 0 (.v 7)))) <|
    .st (.act none (.ld (some 9) (.v 8) none)) <|
    .st (.act none (.px (some 10) (.lenV (.v 9)))) <|
    .st (.act none (.px (some 11) (.bin .lss (.v 5) (.v 10)))) .done) K59_5) K59_3
@[simp] def W59_6 := @C.wpe _ _ K59_6.eq_1
def K59_7 : C := .seq (.pl <| .st (.ext 5 5) <|
    .st (.act none (.px (some 5) (.mv (.v 0)))) <|
    .st (.act none (.px (some 6) (.nilc (.v 5)))) <|
    .st (.act none (.px (some 7) (.fa 1 (.v 6)))) <|
    .st (.act none (.ld (some 8) (.v 7) none)) <|
    .st (.act none (.px (some 9) (.bin .sub (.v 8) (.c (.int .i64 1))))) <|
    .st (.act none (.px (some 3) (.mv (.v 9)))) .done) K59_6
@[simp] def W59_7 := @C.wpe _ _ K59_7.eq_1
def K59_8 : C := .seq (.pl <| .st (.ext 5 0) <|
    .st (.act none (.px (some 2) (.mv (.c (.int .i64 0))))) .done) (.ret)
@[simp] def W59_8 := @C.wpe _ _ K59_8.eq_1
def K59_9 : C := .cond 5 (.v 14) K59_8 (.skip)
@[simp] def W59_9 := @C.wpe _ _ K59_9.eq_1
def K59_10 : C := .seq (.seq (.pl <| .st (.ext 5 10) <|
    .st (.act none (.px (some 5) (.mv (.v 1)))) <|
    .st (.act none (.px (some 6) (.bin .lss (.v 5) (.c (.int .i64 1))))) <|
    .st (.act none (.px (some 7) (.mv (.v 6)))) <|
    .st (.act (some (.v 7, false)) (.px (some 8) (.mv (.v 0)))) <|
    .st (.act (some (.v 7, false)) (.px (some 9) (.nilc (.v 8)))) <|
    .st (.act (some (.v 7, false)) (.px (some 10) (.fa 0 (.v 9)))) <|
    .st (.act (some (.v 7, false)) (.ld (some 11) (.v 10) none)) <|
    .st (.act (some (.v 7, false)) (.px (some 12) (.lenV (.v 11)))) <|
    .st (.act (some (.v 7, false)) (.px (some 13) (.bin .eql (.v 12) (.c (.int .i64 0))))) <|
    .st (.act none (.px (some 14) (.pick (.v 7) (.c (.bool true)) (.v 13)))) .done) K59_9) K59_7
@[simp] def W59_10 := @C.wpe _ _ K59_10.eq_1
def K59_11 : C := .seq (.pl <| .st (.ext 5 8) <|
    .st (.act none (.px (some 5) (.mv (.v 0)))) <|
    .st (.act none (.px (some 6) (.mv (.v 0)))) <|
    .st (.act none (.px (some 7) (.nilc (.v 6)))) <|
    .st (.act none (.px (some 8) (.fa 1 (.v 7)))) <|
    .st (.act none (.ld (some 9) (.v 8) none)) <|
    .st (.act none (.px (some 10) (.bin .add (.v 9) (.c (.int .i64 1))))) <|
    .st (.act none (.px (some 11) (.nilc (.v 5)))) <|
    .st (.act none (.px (some 12) (.fa 1 (.v 11)))) <|
    .st (.act none (.ex none (.store 1 (.v 12) (.v 10)))) .done) K59_10
@[simp] def W59_11 := @C.wpe _ _ K59_11.eq_1
def B_spec_l16Rd_pick : C := .seq (.pl <| .st (.ext 5 0) <|
    .st (.act none (.px (some 2) (.mv (.c (.int .i64 0))))) .done) K59_11
@[simp] def WB_spec_l16Rd_pick := @C.wpe _ _ B_spec_l16Rd_pick.eq_1
def R_spec_l16Rd_pick : FIR := ⟨B_spec_l16Rd_pick, 5, [(2, none)]⟩
theorem IR_spec_l16Rd_pick : cfun Tryz.prog H_spec_l16Rd_pick Tryz.f59 = some R_spec_l16Rd_pick := by kernel_rfl
theorem EN_spec_l16Rd_pick {args : List Value} {h : Heap} {k : Value → Heap → Prop} (hargs : args.length = 2) (hw : B_spec_l16Rd_pick.wp Tryz.prog (retQ [(2, none)] k) (env0 args 5) h) : CallE Tryz.prog fn_spec_l16Rd_pick args h k := enter Tryz.func59 rfl IR_spec_l16Rd_pick hargs hw

def H_spec_l1Arity : Hint := ⟨[(0, false), (2, false), (3, false), (4, false)], []⟩
def K118_1 : C := .seq (.pl <| .st (.ext 4 0) <|
    .st (.act none (.px (some 1) (.mv (.c (.int .i64 (-1)))))) .done) (.ret)
@[simp] def W118_1 := @C.wpe _ _ K118_1.eq_1
def K118_2 : C := .seq (.pl <| .st (.ext 4 0) <|
    .st (.act none (.px (some 1) (.mv (.c (.int .i64 2))))) .done) (.ret)
@[simp] def W118_2 := @C.wpe _ _ K118_2.eq_1
def K118_3 : C := .cond 4 (.v 9) K118_2 (.skip)
@[simp] def W118_3 := @C.wpe _ _ K118_3.eq_1
def K118_4 : C := .seq (.seq (.pl <| .st (.ext 4 6) <|
    .st (.act none (.px (some 4) (.mv (.v 0)))) <|
    .st (.act none (.px (some 5) (.bin .geq (.v 4) (.c (.int .i64 4))))) <|
    .st (.act none (.px (some 6) (.mv (.v 5)))) <|
    .st (.act (some (.v 6, true)) (.px (some 7) (.mv (.v 0)))) <|
    .st (.act (some (.v 6, true)) (.px (some 8) (.bin .leq (.v 7) (.c (.int .i64 9))))) <|
    .st (.act none (.px (some 9) (.pick (.v 6) (.v 8) (.c (.bool false))))) .done) K118_3) K118_1
@[simp] def W118_4 := @C.wpe _ _ K118_4.eq_1
def K118_5 : C := .seq (.pl <| .st (.ext 4 0) <|
    .st (.act none (.px (some 1) (.mv (.c (.int .i64 0))))) .done) (.ret)
@[simp] def W118_5 := @C.wpe _ _ K118_5.eq_1
def K118_6 : C := .seq (.pl <| .st (.ext 4 0) <|
    .st (.act none (.px (some 1) (.mv (.c (.int .i64 1))))) .done) (.ret)
@[simp] def W118_6 := @C.wpe _ _ K118_6.eq_1
def K118_7 : C := .cond 4 (.v 5) K118_6 (.skip)
@[simp] def W118_7 := @C.wpe _ _ K118_7.eq_1
def K118_8 : C := .seq (.pl <| .st (.ext 4 2) <|
    .st (.act none (.px (some 4) (.bin .eql (.v 2) (.c (.int .i64 3))))) <|
    .st (.act none (.px (some 5) (.mv (.v 4)))) .done) K118_7
@[simp] def W118_8 := @C.wpe _ _ K118_8.eq_1
def K118_9 : C := .cond 4 (.v 3) K118_5 K118_8
@[simp] def W118_9 := @C.wpe _ _ K118_9.eq_1
def K118_10 : C := .pl <| .st (.ext 4 1) <|
    .st (.act none (.px (some 4) (.bin .eql (.v 2) (.c (.int .i64 2))))) <|
    .st (.act none (.px (some 3) (.mv (.v 4)))) .done
@[simp] def W118_10 := @C.wpe _ _ K118_10.eq_1
def K118_11 : C := .cond 4 (.v 3) (.skip) K118_10
@[simp] def W118_11 := @C.wpe _ _ K118_11.eq_1
def K118_12 : C := .block 0 (.seq (.seq (.pl <| .st (.ext 4 1) <|
    .st (.act none (.px (some 4) (.bin .eql (.v 2) (.c (.int .i64 1))))) <|
    .st (.act none (.px (some 3) (.mv (.v 4)))) .done) K118_11) K118_9)
@[simp] def W118_12 := @C.wpe _ _ K118_12.eq_1
def K118_13 : C := .seq (.seq (.pl <| .st (.ext 4 0) <|
    .st (.act none (.px (some 2) (.mv (.v 0)))) .done) K118_12) K118_4
@[simp] def W118_13 := @C.wpe _ _ K118_13.eq_1
def B_spec_l1Arity : C := .seq (.pl <| .st (.ext 4 0) <|
    .st (.act none (.px (some 1) (.mv (.c (.int .i64 0))))) .done) K118_13
@[simp] def WB_spec_l1Arity := @C.wpe _ _ B_spec_l1Arity.eq_1
def R_spec_l1Arity : FIR := ⟨B_spec_l1Arity, 4, [(1, none)]⟩
theorem IR_spec_l1Arity : cfun Tryz.prog H_spec_l1Arity Tryz.f118 = some R_spec_l1Arity := by kernel_rfl
theorem EN_spec_l1Arity {args : List Value} {h : Heap} {k : Value → Heap → Prop} (hargs : args.length = 1) (hw : B_spec_l1Arity.wp Tryz.prog (retQ [(1, none)] k) (env0 args 4) h) : CallE Tryz.prog fn_spec_l1Arity args h k := enter Tryz.func118 rfl IR_spec_l1Arity hargs hw

def H_spec_l1Bool : Hint := ⟨[(0, false), (2, false)], []⟩
def K109_1 : C := .seq (.pl <| .st (.ext 2 0) <|
    .st (.act none (.px (some 1) (.mv (.c (.int .i64 0))))) .done) (.ret)
@[simp] def W109_1 := @C.wpe _ _ K109_1.eq_1
def K109_2 : C := .seq (.pl <| .st (.ext 2 0) <|
    .st (.act none (.px (some 1) (.mv (.c (.int .i64 1))))) .done) (.ret)
@[simp] def W109_2 := @C.wpe _ _ K109_2.eq_1
def K109_3 : C := .cond 2 (.v 2) K109_2 (.skip)
@[simp] def W109_3 := @C.wpe _ _ K109_3.eq_1
def K109_4 : C := .seq (.seq (.pl <| .st (.ext 2 1) <|
    .st (.act none (.px (some 2) (.mv (.v 0)))) .done) K109_3) K109_1
@[simp] def W109_4 := @C.wpe _ _ K109_4.eq_1
def B_spec_l1Bool : C := .seq (.pl <| .st (.ext 2 0) <|
    .st (.act none (.px (some 1) (.mv (.c (.int .i64 0))))) .done) K109_4
@[simp] def WB_spec_l1Bool := @C.wpe _ _ B_spec_l1Bool.eq_1
def R_spec_l1Bool : FIR := ⟨B_spec_l1Bool, 2, [(1, none)]⟩
theorem IR_spec_l1Bool : cfun Tryz.prog H_spec_l1Bool Tryz.f109 = some R_spec_l1Bool := by kernel_rfl
theorem EN_spec_l1Bool {args : List Value} {h : Heap} {k : Value → Heap → Prop} (hargs : args.length = 1) (hw : B_spec_l1Bool.wp Tryz.prog (retQ [(1, none)] k) (env0 args 2) h) : CallE Tryz.prog fn_spec_l1Bool args h k := enter Tryz.func109 rfl IR_spec_l1Bool hargs hw

def H_spec_l1Count : Hint := ⟨[(0, false), (1, false), (2, true), (4, false), (5, false), (6, false)], [[0, 3]]⟩
def K108_1 : C := .seq (.pl <| .st (.ext 6 1) <|
    .st (.act none (.px (some 6) (.mv (.v 4)))) <|
    .st (.act none (.px (some 3) (.mv (.v 6)))) .done) (.ret)
@[simp] def W108_1 := @C.wpe _ _ K108_1.eq_1
def K108_2 : C := .pl <| .st (.ext 6 2) <|
    .st (.act none (.px (some 6) (.mv (.v 5)))) <|
    .st (.act none (.px (some 7) (.bin .add (.v 6) (.c (.int .i64 1))))) <|
    .st (.act none (.px (some 5) (.mv (.v 7)))) .done
@[simp] def W108_2 := @C.wpe _ _ K108_2.eq_1
def K108_3 : Pl := .st (.act none (.px (some 15) (.bin .add (.v 6) (.v 14)))) <|
    .st (.act none (.px (some 4) (.mv (.v 15)))) .done
@[simp] def W108_3 := @Pl.wpe _ _ K108_3.eq_1
def K108_4 : C := .seq (.block 1 (.pl <| .st (.ext 6 10) <|
    .st (.act none (.px (some 6) (.mv (.v 4)))) <|
    .st (.act none (.als 7 none 2)) <|
    .st (.act none (.pget (some 8) (some 7) 2 2 none)) <|
    .st (.act none (.px (some 9) (.mv (.v 5)))) <|
    .st (.act none (.px (some 10) (.ia 3 (.v 8) (.v 9)))) <|
    .st (.act none (.ld (some 11) (.v 10) (some 3))) <|
    .st (.act none (.px (some 12) (.mv (.v 1)))) <|
    .st (.act none (.px (some 13) (.bin .sub (.v 12) (.c (.int .i64 1))))) <|
    .st (.act none (.ex (some 14) (.call fn_spec_l1Count [.v 11, .v 13]))) K108_3)) K108_2
@[simp] def W108_4 := @C.wpe _ _ K108_4.eq_1
def K108_5 : C := .cond 6 (.v 14) (.skip) (.exit 0)
@[simp] def W108_5 := @C.wpe _ _ K108_5.eq_1
def K108_6 : C := .seq (.seq (.pl <| .st (.ext 6 9) <|
    .st (.act none (.px (some 6) (.mv (.v 5)))) <|
    .st (.act none (.als 7 none 2)) <|
    .st (.act none (.pget (some 8) (some 7) 2 2 none)) <|
    .st (.act none (.px (some 9) (.lenV (.v 8)))) <|
    .st (.act none (.px (some 10) (.bin .lss (.v 6) (.v 9)))) <|
    .st (.act none (.px (some 11) (.mv (.v 10)))) <|
    .st (.act (some (.v 11, true)) (.px (some 12) (.mv (.v 1)))) <|
    .st (.act (some (.v 11, true)) (.px (some 13) (.bin .gtr (.v 12) (.c (.int .i64 0))))) <|
    .st (.act none (.px (some 14) (.pick (.v 11) (.v 13) (.c (.bool false))))) .done) K108_5) K108_4
@[simp] def W108_6 := @C.wpe _ _ K108_6.eq_1
def K108_7 : C := .block 0 (.loop 6 [0, 3] K108_6)
@[simp] def W108_7 := @C.wpe _ _ K108_7.eq_1
def K108_8 : C := .seq (.seq (.pl <| .st (.ext 6 0) <|
    .st (.act none (.px (some 5) (.mv (.c (.int .i64 0))))) .done) K108_7) K108_1
@[simp] def W108_8 := @C.wpe _ _ K108_8.eq_1
def K108_9 : C := .seq (.pl <| .st (.ext 6 0) <|
    .st (.act none (.px (some 4) (.mv (.c (.int .i64 1))))) .done) K108_8
@[simp] def W108_9 := @C.wpe _ _ K108_9.eq_1
def B_spec_l1Count : C := .seq (.pl <| .st (.ext 6 0) <|
    .st (.act none (.pnew 2 (.v 0) [])) <|
    .st (.act none (.px (some 3) (.mv (.c (.int .i64 0))))) .done) K108_9
@[simp] def WB_spec_l1Count := @C.wpe _ _ B_spec_l1Count.eq_1
def R_spec_l1Count : FIR := ⟨B_spec_l1Count, 6, [(3, none)]⟩
theorem IR_spec_l1Count : cfun Tryz.prog H_spec_l1Count Tryz.f108 = some R_spec_l1Count := by kernel_rfl
theorem EN_spec_l1Count {args : List Value} {h : Heap} {k : Value → Heap → Prop} (hargs : args.length = 2) (hw : B_spec_l1Count.wp Tryz.prog (retQ [(3, none)] k) (env0 args 6) h) : CallE Tryz.prog fn_spec_l1Count args h k := enter Tryz.func108 rfl IR_spec_l1Count hargs hw

def H_spec_l1Eval : Hint := ⟨[(0, false), (1, false), (2, true), (4, false), (5, false), (6, false), (8, false), (43, false)], []⟩
def K67_1 : C := .seq (.pl <| .st (.ext 8 6) <|
    .st (.act none (.px (some 8) (.mv (.v 4)))) <|
    .st (.act none (.px (some 9) (.mv (.v 5)))) <|
    .st (.act none (.px (some 10) (.bin .sub (.v 8) (.v 9)))) <|
    .st (.act none (.px (some 11) (.bin .add (.v 10) (.c (.int .i64 3))))) <|
    .st (.act none (.px (some 12) (.bin .add (.v 11) (.c (.int .i64 1))))) <|
    .st (.act none (.px (some 13) (.bin .rem (.v 12) (.c (.int .i64 4))))) <|
    .st (.act none (.px (some 3) (.mv (.v 13)))) .done) (.ret)
@[simp] def W67_1 := @C.wpe _ _ K67_1.eq_1
def K67_2 : Pl := .st (.act none (.px (some 3) (.mv (.v 14)))) .done
@[simp] def W67_2 := @Pl.wpe _ _ K67_2.eq_1
def K67_3 : C := .seq (.pl <| .st (.ext 8 7) <|
    .st (.act none (.px (some 8) (.mv (.v 4)))) <|
    .st (.act none (.px (some 9) (.bin .neq (.v 8) (.c (.int .i64 0))))) <|
    .st (.act none (.px (some 10) (.mv (.v 9)))) <|
    .st (.act (some (.v 10, true)) (.px (some 11) (.mv (.v 5)))) <|
    .st (.act (some (.v 10, true)) (.px (some 12) (.bin .neq (.v 11) (.c (.int .i64 0))))) <|
    .st (.act none (.px (some 13) (.pick (.v 10) (.v 12) (.c (.bool false))))) <|
    .st (.act none (.ex (some 14) (.call fn_spec_l1Bool [.v 13]))) K67_2) (.ret)
@[simp] def W67_3 := @C.wpe _ _ K67_3.eq_1
def K67_4 : Pl := .st (.act none (.px (some 3) (.mv (.v 14)))) .done
@[simp] def W67_4 := @Pl.wpe _ _ K67_4.eq_1
def K67_5 : C := .seq (.pl <| .st (.ext 8 7) <|
    .st (.act none (.px (some 8) (.mv (.v 4)))) <|
    .st (.act none (.px (some 9) (.bin .neq (.v 8) (.c (.int .i64 0))))) <|
    .st (.act none (.px (some 10) (.mv (.v 9)))) <|
    .st (.act (some (.v 10, false)) (.px (some 11) (.mv (.v 5)))) <|
    .st (.act (some (.v 10, false)) (.px (some 12) (.bin .neq (.v 11) (.c (.int .i64 0))))) <|
    .st (.act none (.px (some 13) (.pick (.v 10) (.c (.bool true)) (.v 12)))) <|
    .st (.act none (.ex (some 14) (.call fn_spec_l1Bool [.v 13]))) K67_4) (.ret)
@[simp] def W67_5 := @C.wpe _ _ K67_5.eq_1
def K67_6 : Pl := .st (.act none (.px (some 3) (.mv (.v 11)))) .done
@[simp] def W67_6 := @Pl.wpe _ _ K67_6.eq_1
def K67_7 : C := .seq (.pl <| .st (.ext 8 4) <|
    .st (.act none (.px (some 8) (.mv (.v 4)))) <|
    .st (.act none (.px (some 9) (.mv (.v 5)))) <|
    .st (.act none (.px (some 10) (.bin .eql (.v 8) (.v 9)))) <|
    .st (.act none (.ex (some 11) (.call fn_spec_l1Bool [.v 10]))) K67_6) (.ret)
@[simp] def W67_7 := @C.wpe _ _ K67_7.eq_1
def K67_8 : Pl := .st (.act none (.px (some 3) (.mv (.v 11)))) .done
@[simp] def W67_8 := @Pl.wpe _ _ K67_8.eq_1
def K67_9 : C := .seq (.pl <| .st (.ext 8 4) <|
    .st (.act none (.px (some 8) (.mv (.v 4)))) <|
    .st (.act none (.px (some 9) (.mv (.v 5)))) <|
    .st (.act none (.px (some 10) (.bin .lss (.v 8) (.v 9)))) <|
    .st (.act none (.ex (some 11) (.call fn_spec_l1Bool [.v 10]))) K67_8) (.ret)
@[simp] def W67_9 := @C.wpe _ _ K67_9.eq_1
def K67_10 : C := .seq (.pl <| .st (.ext 8 4) <|
    .st (.act none (.px (some 8) (.mv (.v 4)))) <|
    .st (.act none (.px (some 9) (.mv (.v 5)))) <|
    .st (.act none (.px (some 10) (.bin .add (.v 8) (.v 9)))) <|
    .st (.act none (.px (some 11) (.bin .rem (.v 10) (.c (.int .i64 4))))) <|
    .st (.act none (.px (some 3) (.mv (.v 11)))) .done) (.ret)
@[simp] def W67_10 := @C.wpe _ _ K67_10.eq_1
def K67_11 : C := .cond 8 (.v 9) K67_10 (.skip)
@[simp] def W67_11 := @C.wpe _ _ K67_11.eq_1
def K67_12 : C := .seq (.pl <| .st (.ext 8 2) <|
    .st (.act none (.px (some 8) (.bin .eql (.v 7) (.c (.int .i64 8))))) <|
    .st (.act none (.px (some 9) (.mv (.v 8)))) .done) K67_11
@[simp] def W67_12 := @C.wpe _ _ K67_12.eq_1
def K67_13 : C := .cond 8 (.v 9) K67_9 K67_12
@[simp] def W67_13 := @C.wpe _ _ K67_13.eq_1
def K67_14 : C := .seq (.pl <| .st (.ext 8 2) <|
    .st (.act none (.px (some 8) (.bin .eql (.v 7) (.c (.int .i64 7))))) <|
    .st (.act none (.px (some 9) (.mv (.v 8)))) .done) K67_13
@[simp] def W67_14 := @C.wpe _ _ K67_14.eq_1
def K67_15 : C := .cond 8 (.v 9) K67_7 K67_14
@[simp] def W67_15 := @C.wpe _ _ K67_15.eq_1
def K67_16 : C := .seq (.pl <| .st (.ext 8 2) <|
    .st (.act none (.px (some 8) (.bin .eql (.v 7) (.c (.int .i64 6))))) <|
    .st (.act none (.px (some 9) (.mv (.v 8)))) .done) K67_15
@[simp] def W67_16 := @C.wpe _ _ K67_16.eq_1
def K67_17 : C := .cond 8 (.v 9) K67_5 K67_16
@[simp] def W67_17 := @C.wpe _ _ K67_17.eq_1
def K67_18 : C := .seq (.pl <| .st (.ext 8 2) <|
    .st (.act none (.px (some 8) (.bin .eql (.v 7) (.c (.int .i64 5))))) <|
    .st (.act none (.px (some 9) (.mv (.v 8)))) .done) K67_17
@[simp] def W67_18 := @C.wpe _ _ K67_18.eq_1
def K67_19 : C := .cond 8 (.v 9) K67_3 K67_18
@[simp] def W67_19 := @C.wpe _ _ K67_19.eq_1
def K67_20 : C := .block 1 (.seq (.pl <| .st (.ext 8 2) <|
    .st (.act none (.px (some 8) (.bin .eql (.v 7) (.c (.int .i64 4))))) <|
    .st (.act none (.px (some 9) (.mv (.v 8)))) .done) K67_19)
@[simp] def W67_20 := @C.wpe _ _ K67_20.eq_1
def K67_21 : C := .seq (.seq (.pl <| .st (.ext 8 1) <|
    .st (.act none (.als 8 none 2)) <|
    .st (.act none (.pget (some 7) (some 8) 2 0 none)) .done) K67_20) K67_1
@[simp] def W67_21 := @C.wpe _ _ K67_21.eq_1
def K67_22 : Pl := .st (.act none (.px (some 5) (.mv (.v 13)))) .done
@[simp] def W67_22 := @Pl.wpe _ _ K67_22.eq_1
def K67_23 : C := .seq (.pl <| .st (.ext 8 6) <|
    .st (.act none (.als 8 none 2)) <|
    .st (.act none (.pget (some 9) (some 8) 2 2 none)) <|
    .st (.act none (.px (some 10) (.ia 3 (.v 9) (.c (.int .i64 1))))) <|
    .st (.act none (.ld (some 11) (.v 10) (some 3))) <|
    .st (.act none (.px (some 12) (.mv (.v 1)))) <|
    .st (.act none (.ex (some 13) (.call fn_spec_l1Eval [.v 11, .v 12]))) K67_22) K67_21
@[simp] def W67_23 := @C.wpe _ _ K67_23.eq_1
def K67_24 : Pl := .st (.act none (.px (some 4) (.mv (.v 13)))) .done
@[simp] def W67_24 := @Pl.wpe _ _ K67_24.eq_1
def K67_25 : C := .seq (.pl <| .st (.ext 8 6) <|
    .st (.act none (.als 8 none 2)) <|
    .st (.act none (.pget (some 9) (some 8) 2 2 none)) <|
    .st (.act none (.px (some 10) (.ia 3 (.v 9) (.c (.int .i64 0))))) <|
    .st (.act none (.ld (some 11) (.v 10) (some 3))) <|
    .st (.act none (.px (some 12) (.mv (.v 1)))) <|
    .st (.act none (.ex (some 13) (.call fn_spec_l1Eval [.v 11, .v 12]))) K67_24) K67_23
@[simp] def W67_25 := @C.wpe _ _ K67_25.eq_1
def K67_26 : C := .seq (.pl <| .st (.ext 8 2) <|
    .st (.act none (.als 8 none 2)) <|
    .st (.act none (.pget (some 9) (some 8) 2 1 none)) <|
    .st (.act none (.px (some 3) (.mv (.v 9)))) .done) (.ret)
@[simp] def W67_26 := @C.wpe _ _ K67_26.eq_1
def K67_27 : C := .seq (.pl <| .st (.ext 8 5) <|
    .st (.act none (.px (some 8) (.mv (.v 1)))) <|
    .st (.act none (.als 9 none 2)) <|
    .st (.act none (.pget (some 10) (some 9) 2 1 none)) <|
    .st (.act none (.px (some 11) (.ia 1 (.v 8) (.v 10)))) <|
    .st (.act none (.ld (some 12) (.v 11) none)) <|
    .st (.act none (.px (some 3) (.mv (.v 12)))) .done) (.ret)
@[simp] def W67_27 := @C.wpe _ _ K67_27.eq_1
def K67_28 : Pl := .st (.act none (.px (some 3) (.mv (.v 15)))) .done
@[simp] def W67_28 := @Pl.wpe _ _ K67_28.eq_1
def K67_29 : Pl := .st (.act none (.px (some 14) (.bin .eql (.v 13) (.c (.int .i64 0))))) <|
    .st (.act none (.ex (some 15) (.call fn_spec_l1Bool [.v 14]))) K67_28
@[simp] def W67_29 := @Pl.wpe _ _ K67_29.eq_1
def K67_30 : C := .seq (.pl <| .st (.ext 8 8) <|
    .st (.act none (.als 8 none 2)) <|
    .st (.act none (.pget (some 9) (some 8) 2 2 none)) <|
    .st (.act none (.px (some 10) (.ia 3 (.v 9) (.c (.int .i64 0))))) <|
    .st (.act none (.ld (some 11) (.v 10) (some 3))) <|
    .st (.act none (.px (some 12) (.mv (.v 1)))) <|
    .st (.act none (.ex (some 13) (.call fn_spec_l1Eval [.v 11, .v 12]))) K67_29) (.ret)
@[simp] def W67_30 := @C.wpe _ _ K67_30.eq_1
def K67_31 : C := .cond 8 (.v 9) K67_30 (.skip)
@[simp] def W67_31 := @C.wpe _ _ K67_31.eq_1
def K67_32 : C := .seq (.pl <| .st (.ext 8 2) <|
    .st (.act none (.px (some 8) (.bin .eql (.v 6) (.c (.int .i64 3))))) <|
    .st (.act none (.px (some 9) (.mv (.v 8)))) .done) K67_31
@[simp] def W67_32 := @C.wpe _ _ K67_32.eq_1
def K67_33 : C := .cond 8 (.v 9) K67_27 K67_32
@[simp] def W67_33 := @C.wpe _ _ K67_33.eq_1
def K67_34 : C := .seq (.pl <| .st (.ext 8 2) <|
    .st (.act none (.px (some 8) (.bin .eql (.v 6) (.c (.int .i64 2))))) <|
    .st (.act none (.px (some 9) (.mv (.v 8)))) .done) K67_33
@[simp] def W67_34 := @C.wpe _ _ K67_34.eq_1
def K67_35 : C := .cond 8 (.v 9) K67_26 K67_34
@[simp] def W67_35 := @C.wpe _ _ K67_35.eq_1
def K67_36 : C := .block 0 (.seq (.pl <| .st (.ext 8 2) <|
    .st (.act none (.px (some 8) (.bin .eql (.v 6) (.c (.int .i64 1))))) <|
    .st (.act none (.px (some 9) (.mv (.v 8)))) .done) K67_35)
@[simp] def W67_36 := @C.wpe _ _ K67_36.eq_1
def K67_37 : C := .seq (.seq (.pl <| .st (.ext 8 1) <|
    .st (.act none (.als 8 none 2)) <|
    .st (.act none (.pget (some 6) (some 8) 2 0 none)) .done) K67_36) K67_25
@[simp] def W67_37 := @C.wpe _ _ K67_37.eq_1
def B_spec_l1Eval : C := .seq (.pl <| .st (.ext 8 0) <|
    .st (.act none (.pnew 2 (.v 0) [])) <|
    .st (.act none (.px (some 3) (.mv (.c (.int .i64 0))))) .done) K67_37
@[simp] def WB_spec_l1Eval := @C.wpe _ _ B_spec_l1Eval.eq_1
def R_spec_l1Eval : FIR := ⟨B_spec_l1Eval, 8, [(3, none)]⟩
theorem IR_spec_l1Eval : cfun Tryz.prog H_spec_l1Eval Tryz.f67 = some R_spec_l1Eval := by kernel_rfl
theorem EN_spec_l1Eval {args : List Value} {h : Heap} {k : Value → Heap → Prop} (hargs : args.length = 2) (hw : B_spec_l1Eval.wp Tryz.prog (retQ [(3, none)] k) (env0 args 8) h) : CallE Tryz.prog fn_spec_l1Eval args h k := enter Tryz.func67 rfl IR_spec_l1Eval hargs hw

def H_spec_l1Expr : Hint := ⟨[(0, false), (2, true), (3, true)], []⟩
def K62_1 : Pl := .st (.act none (.px (some 5) (.build [.int .i64 0, .int .i64 0, .slice none 0 0] [(0, 1, .c (.int .i64 2)), (1, 1, .v 4)]))) <|
    .st (.act none (.pset none 1 0 3 (.v 5))) .done
@[simp] def W62_1 := @Pl.wpe _ _ K62_1.eq_1
def K62_2 : C := .seq (.pl <| .st (.ext 3 3) <|
    .st (.act none (.px (some 3) (.mv (.v 0)))) <|
    .st (.act none (.ex (some 4) (.call fn_spec_l16Rd_pick [.v 3, .c (.int .i64 3)]))) K62_1) (.ret)
@[simp] def W62_2 := @C.wpe _ _ K62_2.eq_1
def K62_3 : C := .seq (.pl <| .st (.ext 3 1) <|
    .st (.act none (.pget (some 3) none 2 0 (some 3))) <|
    .st (.act none (.pset none 1 0 3 (.v 3))) .done) (.ret)
@[simp] def W62_3 := @C.wpe _ _ K62_3.eq_1
def K62_4 : C := .cond 3 (.v 4) K62_3 (.skip)
@[simp] def W62_4 := @C.wpe _ _ K62_4.eq_1
def K62_5 : C := .seq (.seq (.pl <| .st (.ext 3 2) <|
    .st (.act none (.pget (some 3) none 2 0 (some 3))) <|
    .st (.act none (.ex (some 4) (.call fn_spec_ExprValid [.v 3]))) .done) K62_4) K62_2
@[simp] def W62_5 := @C.wpe _ _ K62_5.eq_1
def K62_6 : Pl := .st (.act none (.pnew 2 (.c (.agg #[.int .i64 0, .int .i64 0, .slice none 0 0])) [])) <|
    .st (.act none (.pset none 2 0 3 (.v 7))) .done
@[simp] def W62_6 := @Pl.wpe _ _ K62_6.eq_1
def K62_7 : Pl := .st (.act none (.ex (some 7) (.call fn_spec_l1Random [.v 3, .v 6]))) K62_6
@[simp] def W62_7 := @Pl.wpe _ _ K62_7.eq_1
def K62_8 : Pl := .st (.act none (.ex (some 6) (.call fn_spec_l16Rd_num [.v 4, .v 5]))) K62_7
@[simp] def W62_8 := @Pl.wpe _ _ K62_8.eq_1
def K62_9 : C := .seq (.pl <| .st (.ext 3 5) <|
    .st (.act none (.px (some 3) (.mv (.v 0)))) <|
    .st (.act none (.px (some 4) (.mv (.v 0)))) <|
    .st (.act none (.ex (some 5) (.bls 1 4 [.int .i64 0] [(0, 1, .c (.int .i64 3)), (1, 1, .c (.int .i64 2)), (2, 1, .c (.int .i64 3)), (3, 1, .c (.int .i64 4))]))) K62_8) K62_5
@[simp] def W62_9 := @C.wpe _ _ K62_9.eq_1
def B_spec_l1Expr : C := .seq (.pl <| .st (.ext 3 0) <|
    .st (.act none (.pnew 1 (.c (.agg #[.int .i64 0, .int .i64 0, .slice none 0 0])) [])) .done) K62_9
@[simp] def WB_spec_l1Expr := @C.wpe _ _ B_spec_l1Expr.eq_1
def R_spec_l1Expr : FIR := ⟨B_spec_l1Expr, 3, [(1, some (some 3))]⟩
theorem IR_spec_l1Expr : cfun Tryz.prog H_spec_l1Expr Tryz.f62 = some R_spec_l1Expr := by kernel_rfl
theorem EN_spec_l1Expr {args : List Value} {h : Heap} {k : Value → Heap → Prop} (hargs : args.length = 1) (hw : B_spec_l1Expr.wp Tryz.prog (retQ [(1, some (some 3))] k) (env0 args 3) h) : CallE Tryz.prog fn_spec_l1Expr args h k := enter Tryz.func62 rfl IR_spec_l1Expr hargs hw

def H_spec_l1Mutate : Hint := ⟨[(0, false), (1, false), (3, true), (4, true), (5, true), (10, false)], []⟩
def K60_1 : C := .seq (.pl <| .st (.ext 6 1) <|
    .st (.act none (.pget (some 6) none 4 0 (some 3))) <|
    .st (.act none (.pset none 3 0 3 (.v 6))) .done) (.ret)
@[simp] def W60_1 := @C.wpe _ _ K60_1.eq_1
def K60_2 : Pl := .st (.act none (.als 9 none 4)) <|
    .st (.act none (.pset (some 9) 4 0 1 (.v 8))) .done
@[simp] def W60_2 := @Pl.wpe _ _ K60_2.eq_1
def K60_3 : Pl := .st (.act none (.ex (some 8) (.call fn_spec_l16Rd_num [.v 6, .v 7]))) K60_2
@[simp] def W60_3 := @Pl.wpe _ _ K60_3.eq_1
def K60_4 : C := .pl <| .st (.ext 6 4) <|
    .st (.act none (.px (some 6) (.mv (.v 0)))) <|
    .st (.act none (.ex (some 7) (.bls 1 7 [.int .i64 0] [(0, 1, .c (.int .i64 0)), (1, 1, .c (.int .i64 10)), (2, 1, .c (.int .i64 (-1))), (3, 1, .c (.int .i64 1)), (4, 1, .c (.int .i64 2)), (5, 1, .c (.int .i64 3)), (6, 1, .c (.int .i64 4))]))) K60_3
@[simp] def W60_4 := @C.wpe _ _ K60_4.eq_1
def K60_5 : Pl := .st (.act none (.als 9 none 4)) <|
    .st (.act none (.pset (some 9) 4 1 1 (.v 8))) .done
@[simp] def W60_5 := @Pl.wpe _ _ K60_5.eq_1
def K60_6 : Pl := .st (.act none (.ex (some 8) (.call fn_spec_l16Rd_num [.v 6, .v 7]))) K60_5
@[simp] def W60_6 := @Pl.wpe _ _ K60_6.eq_1
def K60_7 : C := .pl <| .st (.ext 6 4) <|
    .st (.act none (.px (some 6) (.mv (.v 0)))) <|
    .st (.act none (.ex (some 7) (.bls 1 4 [.int .i64 0] [(0, 1, .c (.int .i64 (-1))), (1, 1, .c (.int .i64 4)), (2, 1, .c (.int .i64 3)), (3, 1, .c (.int .i64 9223372036854775807))]))) K60_6
@[simp] def W60_7 := @C.wpe _ _ K60_7.eq_1
def K60_8 : Pl := .st (.act none (.als 11 none 4)) <|
    .st (.act none (.pset (some 11) 4 2 1 (.v 10))) .done
@[simp] def W60_8 := @Pl.wpe _ _ K60_8.eq_1
def K60_9 : C := .pl <| .st (.ext 6 6) <|
    .st (.act none (.als 6 none 4)) <|
    .st (.act none (.pget (some 7) (some 6) 4 2 none)) <|
    .st (.act none (.px (some 8) (.build [.int .i64 0, .int .i64 0, .slice none 0 0] [(0, 1, .c (.int .i64 1))]))) <|
    .st (.act none (.psl 9 [.int .i64 0, .int .i64 0, .slice none 0 0] [(0, 3, .v 8)])) <|
    .st (.act none (.ex (some 10) (.app 40 3 [.int .i64 0, .int .i64 0, .slice none 0 0] (.o (.v 7)) (.p 1 9)))) K60_8
@[simp] def W60_9 := @C.wpe _ _ K60_9.eq_1
def K60_10 : C := .seq (.pl <| .st (.ext 6 1) <|
    .st (.act none (.px (some 6) (.build [.int .i64 0, .int .i64 0, .slice none 0 0] []))) <|
    .st (.act none (.pset none 3 0 3 (.v 6))) .done) (.ret)
@[simp] def W60_10 := @C.wpe _ _ K60_10.eq_1
def K60_11 : C := .cond 6 (.v 7) K60_10 (.skip)
@[simp] def W60_11 := @C.wpe _ _ K60_11.eq_1
def K60_12 : C := .seq (.pl <| .st (.ext 6 2) <|
    .st (.act none (.px (some 6) (.bin .eql (.v 5) (.c (.int .i64 3))))) <|
    .st (.act none (.px (some 7) (.mv (.v 6)))) .done) K60_11
@[simp] def W60_12 := @C.wpe _ _ K60_12.eq_1
def K60_13 : C := .cond 6 (.v 7) K60_9 K60_12
@[simp] def W60_13 := @C.wpe _ _ K60_13.eq_1
def K60_14 : C := .seq (.pl <| .st (.ext 6 2) <|
    .st (.act none (.px (some 6) (.bin .eql (.v 5) (.c (.int .i64 2))))) <|
    .st (.act none (.px (some 7) (.mv (.v 6)))) .done) K60_13
@[simp] def W60_14 := @C.wpe _ _ K60_14.eq_1
def K60_15 : C := .cond 6 (.v 7) K60_7 K60_14
@[simp] def W60_15 := @C.wpe _ _ K60_15.eq_1
def K60_16 : C := .seq (.pl <| .st (.ext 6 2) <|
    .st (.act none (.px (some 6) (.bin .eql (.v 5) (.c (.int .i64 1))))) <|
    .st (.act none (.px (some 7) (.mv (.v 6)))) .done) K60_15
@[simp] def W60_16 := @C.wpe _ _ K60_16.eq_1
def K60_17 : C := .cond 6 (.v 7) K60_4 K60_16
@[simp] def W60_17 := @C.wpe _ _ K60_17.eq_1
def K60_18 : C := .block 0 (.seq (.pl <| .st (.ext 6 2) <|
    .st (.act none (.px (some 6) (.bin .eql (.v 5) (.c (.int .i64 0))))) <|
    .st (.act none (.px (some 7) (.mv (.v 6)))) .done) K60_17)
@[simp] def W60_18 := @C.wpe _ _ K60_18.eq_1
def K60_19 : C := .seq (.seq (.pl <| .st (.ext 6 1) <|
    .st (.act none (.px (some 6) (.mv (.v 0)))) <|
    .st (.act none (.ex (some 5) (.call fn_spec_l16Rd_pick [.v 6, .c (.int .i64 40)]))) .done) K60_18) K60_1
@[simp] def W60_19 := @C.wpe _ _ K60_19.eq_1
def K60_20 : Pl := .st (.act none (.pnew 4 (.c (.agg #[.int .i64 0, .int .i64 0, .slice none 0 0])) [])) <|
    .st (.act none (.pset none 4 0 3 (.v 8))) .done
@[simp] def W60_20 := @Pl.wpe _ _ K60_20.eq_1
def K60_21 : C := .seq (.pl <| .st (.ext 6 3) <|
    .st (.act none (.pget (some 6) none 2 0 (some 3))) <|
    .st (.act none (.px (some 7) (.build [.int .i64 0, .int .i64 0, .slice none 0 0] []))) <|
    .st (.act none (.ex (some 8) (.call fn_spec_l1Subst [.v 6, .c (.int .i64 (-1)), .v 7]))) K60_20) K60_19
@[simp] def W60_21 := @C.wpe _ _ K60_21.eq_1
def B_spec_l1Mutate : C := .seq (.pl <| .st (.ext 6 0) <|
    .st (.act none (.pnew 2 (.v 1) [])) <|
    .st (.act none (.pnew 3 (.c (.agg #[.int .i64 0, .int .i64 0, .slice none 0 0])) [])) .done) K60_21
@[simp] def WB_spec_l1Mutate := @C.wpe _ _ B_spec_l1Mutate.eq_1
def R_spec_l1Mutate : FIR := ⟨B_spec_l1Mutate, 6, [(3, some (some 3))]⟩
theorem IR_spec_l1Mutate : cfun Tryz.prog H_spec_l1Mutate Tryz.f60 = some R_spec_l1Mutate := by kernel_rfl
theorem EN_spec_l1Mutate {args : List Value} {h : Heap} {k : Value → Heap → Prop} (hargs : args.length = 2) (hw : B_spec_l1Mutate.wp Tryz.prog (retQ [(3, some (some 3))] k) (env0 args 6) h) : CallE Tryz.prog fn_spec_l1Mutate args h k := enter Tryz.func60 rfl IR_spec_l1Mutate hargs hw

def H_spec_l1Random : Hint := ⟨[(0, false), (1, false), (4, true), (5, false), (6, true), (7, false)], [[3]]⟩
def K104_1 : C := .seq (.pl <| .st (.ext 6 1) <|
    .st (.act none (.pget (some 6) none 4 0 (some 3))) <|
    .st (.act none (.pset none 2 0 3 (.v 6))) .done) (.ret)
@[simp] def W104_1 := @C.wpe _ _ K104_1.eq_1
def K104_2 : C := .pl <| .st (.ext 6 2) <|
    .st (.act none (.px (some 6) (.mv (.v 5)))) <|
    .st (.act none (.px (some 7) (.bin .sub (.v 6) (.c (.int .i64 1))))) <|
    .st (.act none (.px (some 5) (.mv (.v 7)))) .done
@[simp] def W104_2 := @C.wpe _ _ K104_2.eq_1
def K104_3 : Pl := .st (.act none (.als 14 none 4)) <|
    .st (.act none (.pset (some 14) 4 2 1 (.v 13))) .done
@[simp] def W104_3 := @Pl.wpe _ _ K104_3.eq_1
def K104_4 : Pl := .st (.act none (.psl 12 [.int .i64 0, .int .i64 0, .slice none 0 0] [(0, 3, .v 11)])) <|
    .st (.act none (.ex (some 13) (.app 40 3 [.int .i64 0, .int .i64 0, .slice none 0 0] (.o (.v 7)) (.p 1 12)))) K104_3
@[simp] def W104_4 := @Pl.wpe _ _ K104_4.eq_1
def K104_5 : C := .seq (.block 1 (.pl <| .st (.ext 6 9) <|
    .st (.act none (.als 6 none 4)) <|
    .st (.act none (.pget (some 7) (some 6) 4 2 none)) <|
    .st (.act none (.px (some 8) (.mv (.v 0)))) <|
    .st (.act none (.px (some 9) (.mv (.v 1)))) <|
    .st (.act none (.px (some 10) (.bin .sub (.v 9) (.c (.int .i64 1))))) <|
    .st (.act none (.ex (some 11) (.call fn_spec_l1Random [.v 8, .v 10]))) K104_4)) K104_2
@[simp] def W104_5 := @C.wpe _ _ K104_5.eq_1
def K104_6 : C := .cond 6 (.v 7) (.skip) (.exit 0)
@[simp] def W104_6 := @C.wpe _ _ K104_6.eq_1
def K104_7 : C := .seq (.seq (.pl <| .st (.ext 6 2) <|
    .st (.act none (.px (some 6) (.mv (.v 5)))) <|
    .st (.act none (.px (some 7) (.bin .gtr (.v 6) (.c (.int .i64 0))))) .done) K104_6) K104_5
@[simp] def W104_7 := @C.wpe _ _ K104_7.eq_1
def K104_8 : C := .block 0 (.loop 6 [3] K104_7)
@[simp] def W104_8 := @C.wpe _ _ K104_8.eq_1
def K104_9 : Pl := .st (.act none (.px (some 5) (.mv (.v 7)))) .done
@[simp] def W104_9 := @Pl.wpe _ _ K104_9.eq_1
def K104_10 : C := .seq (.seq (.pl <| .st (.ext 6 2) <|
    .st (.act none (.px (some 6) (.mv (.v 3)))) <|
    .st (.act none (.ex (some 7) (.call fn_spec_l1Arity [.v 6]))) K104_9) K104_8) K104_1
@[simp] def W104_10 := @C.wpe _ _ K104_10.eq_1
def K104_11 : C := .seq (.pl <| .st (.ext 6 2) <|
    .st (.act none (.px (some 6) (.mv (.v 3)))) <|
    .st (.act none (.px (some 7) (.build [.int .i64 0, .int .i64 0, .slice none 0 0] [(0, 1, .v 6)]))) <|
    .st (.act none (.pnew 4 (.c (.agg #[.int .i64 0, .int .i64 0, .slice none 0 0])) [])) <|
    .st (.act none (.pset none 4 0 3 (.v 7))) .done) K104_10
@[simp] def W104_11 := @C.wpe _ _ K104_11.eq_1
def K104_12 : Pl := .st (.act none (.px (some 3) (.mv (.v 8)))) .done
@[simp] def W104_12 := @Pl.wpe _ _ K104_12.eq_1
def K104_13 : Pl := .st (.act none (.ex (some 8) (.call fn_spec_l16Rd_num [.v 6, .v 7]))) K104_12
@[simp] def W104_13 := @Pl.wpe _ _ K104_13.eq_1
def K104_14 : C := .seq (.pl <| .st (.ext 6 3) <|
    .st (.act none (.px (some 6) (.mv (.v 0)))) <|
    .st (.act none (.ex (some 7) (.bls 1 7 [.int .i64 0] [(0, 1, .c (.int .i64 6)), (1, 1, .c (.int .i64 8)), (2, 1, .c (.int .i64 7)), (3, 1, .c (.int .i64 4)), (4, 1, .c (.int .i64 3)), (5, 1, .c (.int .i64 5)), (6, 1, .c (.int .i64 9))]))) K104_13) K104_11
@[simp] def W104_14 := @C.wpe _ _ K104_14.eq_1
def K104_15 : Pl := .st (.act none (.px (some 9) (.build [.int .i64 0, .int .i64 0, .slice none 0 0] [(0, 1, .c (.int .i64 2)), (1, 1, .v 8)]))) <|
    .st (.act none (.pset none 2 0 3 (.v 9))) .done
@[simp] def W104_15 := @Pl.wpe _ _ K104_15.eq_1
def K104_16 : Pl := .st (.act none (.ex (some 8) (.call fn_spec_l16Rd_num [.v 6, .v 7]))) K104_15
@[simp] def W104_16 := @Pl.wpe _ _ K104_16.eq_1
def K104_17 : C := .seq (.pl <| .st (.ext 6 4) <|
    .st (.act none (.px (some 6) (.mv (.v 0)))) <|
    .st (.act none (.ex (some 7) (.bls 1 4 [.int .i64 0] [(0, 1, .c (.int .i64 0)), (1, 1, .c (.int .i64 1)), (2, 1, .c (.int .i64 0)), (3, 1, .c (.int .i64 2))]))) K104_16) (.ret)
@[simp] def W104_17 := @C.wpe _ _ K104_17.eq_1
def K104_18 : Pl := .st (.act none (.px (some 8) (.build [.int .i64 0, .int .i64 0, .slice none 0 0] [(0, 1, .c (.int .i64 1)), (1, 1, .v 7)]))) <|
    .st (.act none (.pset none 2 0 3 (.v 8))) .done
@[simp] def W104_18 := @Pl.wpe _ _ K104_18.eq_1
def K104_19 : C := .seq (.pl <| .st (.ext 6 3) <|
    .st (.act none (.px (some 6) (.mv (.v 0)))) <|
    .st (.act none (.ex (some 7) (.call fn_spec_l16Rd_pick [.v 6, .c (.int .i64 4)]))) K104_18) (.ret)
@[simp] def W104_19 := @C.wpe _ _ K104_19.eq_1
def K104_20 : C := .cond 6 (.v 8) K104_19 (.skip)
@[simp] def W104_20 := @C.wpe _ _ K104_20.eq_1
def K104_21 : Pl := .st (.act none (.px (some 8) (.bin .eql (.v 7) (.c (.int .i64 0))))) .done
@[simp] def W104_21 := @Pl.wpe _ _ K104_21.eq_1
def K104_22 : C := .seq (.seq (.pl <| .st (.ext 6 3) <|
    .st (.act none (.px (some 6) (.mv (.v 0)))) <|
    .st (.act none (.ex (some 7) (.call fn_spec_l16Rd_pick [.v 6, .c (.int .i64 3)]))) K104_21) K104_20) K104_17
@[simp] def W104_22 := @C.wpe _ _ K104_22.eq_1
def K104_23 : C := .cond 6 (.v 12) K104_22 (.skip)
@[simp] def W104_23 := @C.wpe _ _ K104_23.eq_1
def K104_24 : Pl := .st (.act (some (.v 8, false)) (.px (some 11) (.bin .eql (.v 10) (.c (.int .i64 0))))) <|
    .st (.act none (.px (some 12) (.pick (.v 8) (.c (.bool true)) (.v 11)))) .done
@[simp] def W104_24 := @Pl.wpe _ _ K104_24.eq_1
def K104_25 : C := .seq (.seq (.pl <| .st (.ext 6 7) <|
    .st (.act none (.px (some 6) (.mv (.v 1)))) <|
    .st (.act none (.px (some 7) (.bin .lss (.v 6) (.c (.int .i64 2))))) <|
    .st (.act none (.px (some 8) (.mv (.v 7)))) <|
    .st (.act (some (.v 8, false)) (.px (some 9) (.mv (.v 0)))) <|
    .st (.act (some (.v 8, false)) (.ex (some 10) (.call fn_spec_l16Rd_pick [.v 9, .c (.int .i64 5)]))) K104_24) K104_23) K104_14
@[simp] def W104_25 := @C.wpe _ _ K104_25.eq_1
def B_spec_l1Random : C := .seq (.pl <| .st (.ext 6 0) <|
    .st (.act none (.pnew 2 (.c (.agg #[.int .i64 0, .int .i64 0, .slice none 0 0])) [])) .done) K104_25
@[simp] def WB_spec_l1Random := @C.wpe _ _ B_spec_l1Random.eq_1
def R_spec_l1Random : FIR := ⟨B_spec_l1Random, 6, [(2, some (some 3))]⟩
theorem IR_spec_l1Random : cfun Tryz.prog H_spec_l1Random Tryz.f104 = some R_spec_l1Random := by kernel_rfl
theorem EN_spec_l1Random {args : List Value} {h : Heap} {k : Value → Heap → Prop} (hargs : args.length = 2) (hw : B_spec_l1Random.wp Tryz.prog (retQ [(2, some (some 3))] k) (env0 args 6) h) : CallE Tryz.prog fn_spec_l1Random args h k := enter Tryz.func104 rfl IR_spec_l1Random hargs hw

def H_spec_l1Shape : Hint := ⟨[(0, false), (1, false), (2, true), (4, false), (5, false), (6, false), (19, false)], [[0, 3, 4, 6]]⟩
def K107_1 : C := .seq (.pl <| .st (.ext 7 0) <|
    .st (.act none (.px (some 3) (.mv (.c (.bool true))))) .done) (.ret)
@[simp] def W107_1 := @C.wpe _ _ K107_1.eq_1
def K107_2 : C := .pl <| .st (.ext 7 2) <|
    .st (.act none (.px (some 7) (.mv (.v 5)))) <|
    .st (.act none (.px (some 8) (.bin .add (.v 7) (.c (.int .i64 1))))) <|
    .st (.act none (.px (some 5) (.mv (.v 8)))) .done
@[simp] def W107_2 := @C.wpe _ _ K107_2.eq_1
def K107_3 : C := .seq (.pl <| .st (.ext 7 0) <|
    .st (.act none (.px (some 3) (.mv (.c (.bool false))))) .done) (.ret)
@[simp] def W107_3 := @C.wpe _ _ K107_3.eq_1
def K107_4 : C := .cond 7 (.v 15) K107_3 (.skip)
@[simp] def W107_4 := @C.wpe _ _ K107_4.eq_1
def K107_5 : Pl := .st (.act none (.px (some 15) (.un .not (.v 14)))) .done
@[simp] def W107_5 := @Pl.wpe _ _ K107_5.eq_1
def K107_6 : C := .seq (.block 2 (.seq (.pl <| .st (.ext 7 9) <|
    .st (.act none (.als 7 none 2)) <|
    .st (.act none (.pget (some 8) (some 7) 2 2 none)) <|
    .st (.act none (.px (some 9) (.mv (.v 5)))) <|
    .st (.act none (.px (some 10) (.ia 3 (.v 8) (.v 9)))) <|
    .st (.act none (.ld (some 11) (.v 10) (some 3))) <|
    .st (.act none (.px (some 12) (.mv (.v 1)))) <|
    .st (.act none (.px (some 13) (.bin .sub (.v 12) (.c (.int .i64 1))))) <|
    .st (.act none (.ex (some 14) (.call fn_spec_l1Shape [.v 11, .v 13]))) K107_5) K107_4)) K107_2
@[simp] def W107_6 := @C.wpe _ _ K107_6.eq_1
def K107_7 : C := .cond 7 (.v 11) (.skip) (.exit 1)
@[simp] def W107_7 := @C.wpe _ _ K107_7.eq_1
def K107_8 : C := .seq (.seq (.pl <| .st (.ext 7 5) <|
    .st (.act none (.px (some 7) (.mv (.v 5)))) <|
    .st (.act none (.als 8 none 2)) <|
    .st (.act none (.pget (some 9) (some 8) 2 2 none)) <|
    .st (.act none (.px (some 10) (.lenV (.v 9)))) <|
    .st (.act none (.px (some 11) (.bin .lss (.v 7) (.v 10)))) .done) K107_7) K107_6
@[simp] def W107_8 := @C.wpe _ _ K107_8.eq_1
def K107_9 : C := .block 1 (.loop 7 [0, 3, 4, 6] K107_8)
@[simp] def W107_9 := @C.wpe _ _ K107_9.eq_1
def K107_10 : C := .seq (.seq (.pl <| .st (.ext 7 0) <|
    .st (.act none (.px (some 5) (.mv (.c (.int .i64 0))))) .done) K107_9) K107_1
@[simp] def W107_10 := @C.wpe _ _ K107_10.eq_1
def K107_11 : C := .seq (.pl <| .st (.ext 7 0) <|
    .st (.act none (.px (some 3) (.mv (.c (.bool false))))) .done) (.ret)
@[simp] def W107_11 := @C.wpe _ _ K107_11.eq_1
def K107_12 : C := .cond 7 (.v 15) K107_11 (.skip)
@[simp] def W107_12 := @C.wpe _ _ K107_12.eq_1
def K107_13 : C := .seq (.seq (.pl <| .st (.ext 7 9) <|
    .st (.act none (.als 7 none 2)) <|
    .st (.act none (.pget (some 8) (some 7) 2 1 none)) <|
    .st (.act none (.px (some 9) (.bin .lss (.v 8) (.c (.int .i64 0))))) <|
    .st (.act none (.px (some 10) (.mv (.v 9)))) <|
    .st (.act (some (.v 10, false)) (.als 11 none 2)) <|
    .st (.act (some (.v 10, false)) (.pget (some 12) (some 11) 2 1 none)) <|
    .st (.act (some (.v 10, false)) (.px (some 13) (.mv (.v 4)))) <|
    .st (.act (some (.v 10, false)) (.px (some 14) (.bin .gtr (.v 12) (.v 13)))) <|
    .st (.act none (.px (some 15) (.pick (.v 10) (.c (.bool true)) (.v 14)))) .done) K107_12) K107_10
@[simp] def W107_13 := @C.wpe _ _ K107_13.eq_1
def K107_14 : C := .pl <| .st (.ext 7 0) <|
    .st (.act none (.px (some 4) (.mv (.c (.int .i64 3))))) .done
@[simp] def W107_14 := @C.wpe _ _ K107_14.eq_1
def K107_15 : C := .pl <| .st (.ext 7 0) <|
    .st (.act none (.px (some 4) (.mv (.c (.int .i64 2))))) .done
@[simp] def W107_15 := @C.wpe _ _ K107_15.eq_1
def K107_16 : C := .cond 7 (.v 8) K107_15 (.skip)
@[simp] def W107_16 := @C.wpe _ _ K107_16.eq_1
def K107_17 : C := .seq (.pl <| .st (.ext 7 2) <|
    .st (.act none (.px (some 7) (.bin .eql (.v 6) (.c (.int .i64 2))))) <|
    .st (.act none (.px (some 8) (.mv (.v 7)))) .done) K107_16
@[simp] def W107_17 := @C.wpe _ _ K107_17.eq_1
def K107_18 : C := .cond 7 (.v 8) K107_14 K107_17
@[simp] def W107_18 := @C.wpe _ _ K107_18.eq_1
def K107_19 : C := .block 0 (.seq (.pl <| .st (.ext 7 2) <|
    .st (.act none (.px (some 7) (.bin .eql (.v 6) (.c (.int .i64 1))))) <|
    .st (.act none (.px (some 8) (.mv (.v 7)))) .done) K107_18)
@[simp] def W107_19 := @C.wpe _ _ K107_19.eq_1
def K107_20 : C := .seq (.seq (.pl <| .st (.ext 7 1) <|
    .st (.act none (.als 7 none 2)) <|
    .st (.act none (.pget (some 6) (some 7) 2 0 none)) .done) K107_19) K107_13
@[simp] def W107_20 := @C.wpe _ _ K107_20.eq_1
def K107_21 : C := .seq (.pl <| .st (.ext 7 0) <|
    .st (.act none (.px (some 4) (.mv (.c (.int .i64 0))))) .done) K107_20
@[simp] def W107_21 := @C.wpe _ _ K107_21.eq_1
def K107_22 : C := .seq (.pl <| .st (.ext 7 0) <|
    .st (.act none (.px (some 3) (.mv (.c (.bool false))))) .done) (.ret)
@[simp] def W107_22 := @C.wpe _ _ K107_22.eq_1
def K107_23 : C := .cond 7 (.v 17) K107_22 (.skip)
@[simp] def W107_23 := @C.wpe _ _ K107_23.eq_1
def K107_24 : Pl := .st (.act (some (.v 9, false)) (.px (some 16) (.bin .neq (.v 12) (.v 15)))) <|
    .st (.act none (.px (some 17) (.pick (.v 9) (.c (.bool true)) (.v 16)))) .done
@[simp] def W107_24 := @Pl.wpe _ _ K107_24.eq_1
def K107_25 : C := .seq (.seq (.pl <| .st (.ext 7 11) <|
    .st (.act none (.px (some 7) (.mv (.v 1)))) <|
    .st (.act none (.px (some 8) (.bin .lss (.v 7) (.c (.int .i64 1))))) <|
    .st (.act none (.px (some 9) (.mv (.v 8)))) <|
    .st (.act (some (.v 9, false)) (.als 10 none 2)) <|
    .st (.act (some (.v 9, false)) (.pget (some 11) (some 10) 2 2 none)) <|
    .st (.act (some (.v 9, false)) (.px (some 12) (.lenV (.v 11)))) <|
    .st (.act (some (.v 9, false)) (.als 13 none 2)) <|
    .st (.act (some (.v 9, false)) (.pget (some 14) (some 13) 2 0 none)) <|
    .st (.act (some (.v 9, false)) (.ex (some 15) (.call fn_spec_l1Arity [.v 14]))) K107_24) K107_23) K107_21
@[simp] def W107_25 := @C.wpe _ _ K107_25.eq_1
def B_spec_l1Shape : C := .seq (.pl <| .st (.ext 7 0) <|
    .st (.act none (.pnew 2 (.v 0) [])) <|
    .st (.act none (.px (some 3) (.mv (.c (.bool false))))) .done) K107_25
@[simp] def WB_spec_l1Shape := @C.wpe _ _ B_spec_l1Shape.eq_1
def R_spec_l1Shape : FIR := ⟨B_spec_l1Shape, 7, [(3, none)]⟩
theorem IR_spec_l1Shape : cfun Tryz.prog H_spec_l1Shape Tryz.f107 = some R_spec_l1Shape := by kernel_rfl
theorem EN_spec_l1Shape {args : List Value} {h : Heap} {k : Value → Heap → Prop} (hargs : args.length = 2) (hw : B_spec_l1Shape.wp Tryz.prog (retQ [(3, none)] k) (env0 args 7) h) : CallE Tryz.prog fn_spec_l1Shape args h k := enter Tryz.func107 rfl IR_spec_l1Shape hargs hw

def H_spec_l1Subst : Hint := ⟨[(0, false), (1, false), (2, false), (3, true), (5, true), (6, true), (7, true), (8, false)], [[0, 2]]⟩
def K103_1 : C := .seq (.pl <| .st (.ext 8 1) <|
    .st (.act none (.pget (some 8) none 6 0 (some 3))) <|
    .st (.act none (.pset none 5 0 3 (.v 8))) .done) (.ret)
@[simp] def W103_1 := @C.wpe _ _ K103_1.eq_1
def K103_2 : C := .pl <| .st (.ext 8 2) <|
    .st (.act none (.px (some 8) (.mv (.v 7)))) <|
    .st (.act none (.px (some 9) (.bin .add (.v 8) (.c (.int .i64 1))))) <|
    .st (.act none (.px (some 7) (.mv (.v 9)))) .done
@[simp] def W103_2 := @C.wpe _ _ K103_2.eq_1
def K103_3 : Pl := .st (.act none (.als 20 none 6)) <|
    .st (.act none (.pset (some 20) 6 2 1 (.v 19))) .done
@[simp] def W103_3 := @Pl.wpe _ _ K103_3.eq_1
def K103_4 : Pl := .st (.act none (.psl 18 [.int .i64 0, .int .i64 0, .slice none 0 0] [(0, 3, .v 17)])) <|
    .st (.act none (.ex (some 19) (.app 40 3 [.int .i64 0, .int .i64 0, .slice none 0 0] (.o (.v 9)) (.p 1 18)))) K103_3
@[simp] def W103_4 := @Pl.wpe _ _ K103_4.eq_1
def K103_5 : C := .seq (.block 1 (.pl <| .st (.ext 8 13) <|
    .st (.act none (.als 8 none 6)) <|
    .st (.act none (.pget (some 9) (some 8) 6 2 none)) <|
    .st (.act none (.als 10 none 3)) <|
    .st (.act none (.pget (some 11) (some 10) 3 2 none)) <|
    .st (.act none (.px (some 12) (.mv (.v 7)))) <|
    .st (.act none (.px (some 13) (.ia 3 (.v 11) (.v 12)))) <|
    .st (.act none (.ld (some 14) (.v 13) (some 3))) <|
    .st (.act none (.px (some 15) (.mv (.v 1)))) <|
    .st (.act none (.pget (some 16) none 4 0 (some 3))) <|
    .st (.act none (.ex (some 17) (.call fn_spec_l1Subst [.v 14, .v 15, .v 16]))) K103_4)) K103_2
@[simp] def W103_5 := @C.wpe _ _ K103_5.eq_1
def K103_6 : C := .cond 8 (.v 12) (.skip) (.exit 0)
@[simp] def W103_6 := @C.wpe _ _ K103_6.eq_1
def K103_7 : C := .seq (.seq (.pl <| .st (.ext 8 5) <|
    .st (.act none (.px (some 8) (.mv (.v 7)))) <|
    .st (.act none (.als 9 none 3)) <|
    .st (.act none (.pget (some 10) (some 9) 3 2 none)) <|
    .st (.act none (.px (some 11) (.lenV (.v 10)))) <|
    .st (.act none (.px (some 12) (.bin .lss (.v 8) (.v 11)))) .done) K103_6) K103_5
@[simp] def W103_7 := @C.wpe _ _ K103_7.eq_1
def K103_8 : C := .block 0 (.loop 8 [0, 2] K103_7)
@[simp] def W103_8 := @C.wpe _ _ K103_8.eq_1
def K103_9 : C := .seq (.seq (.pl <| .st (.ext 8 0) <|
    .st (.act none (.px (some 7) (.mv (.c (.int .i64 0))))) .done) K103_8) K103_1
@[simp] def W103_9 := @C.wpe _ _ K103_9.eq_1
def K103_10 : C := .seq (.pl <| .st (.ext 8 5) <|
    .st (.act none (.als 8 none 3)) <|
    .st (.act none (.pget (some 9) (some 8) 3 0 none)) <|
    .st (.act none (.als 10 none 3)) <|
    .st (.act none (.pget (some 11) (some 10) 3 1 none)) <|
    .st (.act none (.px (some 12) (.build [.int .i64 0, .int .i64 0, .slice none 0 0] [(0, 1, .v 9), (1, 1, .v 11)]))) <|
    .st (.act none (.pnew 6 (.c (.agg #[.int .i64 0, .int .i64 0, .slice none 0 0])) [])) <|
    .st (.act none (.pset none 6 0 3 (.v 12))) .done) K103_9
@[simp] def W103_10 := @C.wpe _ _ K103_10.eq_1
def K103_11 : Pl := .st (.act none (.pset none 5 0 3 (.v 10))) .done
@[simp] def W103_11 := @Pl.wpe _ _ K103_11.eq_1
def K103_12 : C := .seq (.pl <| .st (.ext 8 3) <|
    .st (.act none (.pget (some 8) none 4 0 (some 3))) <|
    .st (.act none (.px (some 9) (.build [.int .i64 0, .int .i64 0, .slice none 0 0] []))) <|
    .st (.act none (.ex (some 10) (.call fn_spec_l1Subst [.v 8, .c (.int .i64 (-1)), .v 9]))) K103_11) (.ret)
@[simp] def W103_12 := @C.wpe _ _ K103_12.eq_1
def K103_13 : C := .cond 8 (.v 16) K103_12 (.skip)
@[simp] def W103_13 := @C.wpe _ _ K103_13.eq_1
def K103_14 : C := .seq (.seq (.pl <| .st (.ext 8 9) <|
    .st (.act none (.als 8 none 3)) <|
    .st (.act none (.pget (some 9) (some 8) 3 0 none)) <|
    .st (.act none (.px (some 10) (.bin .eql (.v 9) (.c (.int .i64 2))))) <|
    .st (.act none (.px (some 11) (.mv (.v 10)))) <|
    .st (.act (some (.v 11, true)) (.als 12 none 3)) <|
    .st (.act (some (.v 11, true)) (.pget (some 13) (some 12) 3 1 none)) <|
    .st (.act (some (.v 11, true)) (.px (some 14) (.mv (.v 1)))) <|
    .st (.act (some (.v 11, true)) (.px (some 15) (.bin .eql (.v 13) (.v 14)))) <|
    .st (.act none (.px (some 16) (.pick (.v 11) (.v 15) (.c (.bool false))))) .done) K103_13) K103_10
@[simp] def W103_14 := @C.wpe _ _ K103_14.eq_1
def B_spec_l1Subst : C := .seq (.pl <| .st (.ext 8 0) <|
    .st (.act none (.pnew 3 (.v 0) [])) <|
    .st (.act none (.pnew 4 (.v 2) [])) <|
    .st (.act none (.pnew 5 (.c (.agg #[.int .i64 0, .int .i64 0, .slice none 0 0])) [])) .done) K103_14
@[simp] def WB_spec_l1Subst := @C.wpe _ _ B_spec_l1Subst.eq_1
def R_spec_l1Subst : FIR := ⟨B_spec_l1Subst, 8, [(5, some (some 3))]⟩
theorem IR_spec_l1Subst : cfun Tryz.prog H_spec_l1Subst Tryz.f103 = some R_spec_l1Subst := by kernel_rfl
theorem EN_spec_l1Subst {args : List Value} {h : Heap} {k : Value → Heap → Prop} (hargs : args.length = 3) (hw : B_spec_l1Subst.wp Tryz.prog (retQ [(5, some (some 3))] k) (env0 args 8) h) : CallE Tryz.prog fn_spec_l1Subst args h k := enter Tryz.func103 rfl IR_spec_l1Subst hargs hw

def H_spec_l1Vals : Hint := ⟨[(0, false), (2, false), (3, false)], [[1]]⟩
def K73_1 : C := .seq (.pl <| .st (.ext 3 3) <|
    .st (.act none (.px (some 3) (.mv (.v 0)))) <|
    .st (.act none (.px (some 4) (.lenV (.v 3)))) <|
    .st (.act none (.px (some 5) (.bin .eql (.v 4) (.c (.int .i64 3))))) <|
    .st (.act none (.px (some 1) (.mv (.v 5)))) .done) (.ret)
@[simp] def W73_1 := @C.wpe _ _ K73_1.eq_1
def K73_2 : C := .pl <| .st (.ext 3 2) <|
    .st (.act none (.px (some 3) (.mv (.v 2)))) <|
    .st (.act none (.px (some 4) (.bin .add (.v 3) (.c (.int .i64 1))))) <|
    .st (.act none (.px (some 2) (.mv (.v 4)))) .done
@[simp] def W73_2 := @C.wpe _ _ K73_2.eq_1
def K73_3 : C := .seq (.pl <| .st (.ext 3 0) <|
    .st (.act none (.px (some 1) (.mv (.c (.bool false))))) .done) (.ret)
@[simp] def W73_3 := @C.wpe _ _ K73_3.eq_1
def K73_4 : C := .cond 3 (.v 14) K73_3 (.skip)
@[simp] def W73_4 := @C.wpe _ _ K73_4.eq_1
def K73_5 : C := .seq (.block 1 (.seq (.pl <| .st (.ext 3 12) <|
    .st (.act none (.px (some 3) (.mv (.v 0)))) <|
    .st (.act none (.px (some 4) (.mv (.v 2)))) <|
    .st (.act none (.px (some 5) (.ia 1 (.v 3) (.v 4)))) <|
    .st (.act none (.ld (some 6) (.v 5) none)) <|
    .st (.act none (.px (some 7) (.bin .lss (.v 6) (.c (.int .i64 0))))) <|
    .st (.act none (.px (some 8) (.mv (.v 7)))) <|
    .st (.act (some (.v 8, false)) (.px (some 9) (.mv (.v 0)))) <|
    .st (.act (some (.v 8, false)) (.px (some 10) (.mv (.v 2)))) <|
    .st (.act (some (.v 8, false)) (.px (some 11) (.ia 1 (.v 9) (.v 10)))) <|
    .st (.act (some (.v 8, false)) (.ld (some 12) (.v 11) none)) <|
    .st (.act (some (.v 8, false)) (.px (some 13) (.bin .gtr (.v 12) (.c (.int .i64 3))))) <|
    .st (.act none (.px (some 14) (.pick (.v 8) (.c (.bool true)) (.v 13)))) .done) K73_4)) K73_2
@[simp] def W73_5 := @C.wpe _ _ K73_5.eq_1
def K73_6 : C := .cond 3 (.v 6) (.skip) (.exit 0)
@[simp] def W73_6 := @C.wpe _ _ K73_6.eq_1
def K73_7 : C := .seq (.seq (.pl <| .st (.ext 3 4) <|
    .st (.act none (.px (some 3) (.mv (.v 2)))) <|
    .st (.act none (.px (some 4) (.mv (.v 0)))) <|
    .st (.act none (.px (some 5) (.lenV (.v 4)))) <|
    .st (.act none (.px (some 6) (.bin .lss (.v 3) (.v 5)))) .done) K73_6) K73_5
@[simp] def W73_7 := @C.wpe _ _ K73_7.eq_1
def K73_8 : C := .block 0 (.loop 3 [1] K73_7)
@[simp] def W73_8 := @C.wpe _ _ K73_8.eq_1
def K73_9 : C := .seq (.seq (.pl <| .st (.ext 3 0) <|
    .st (.act none (.px (some 2) (.mv (.c (.int .i64 0))))) .done) K73_8) K73_1
@[simp] def W73_9 := @C.wpe _ _ K73_9.eq_1
def B_spec_l1Vals : C := .seq (.pl <| .st (.ext 3 0) <|
    .st (.act none (.px (some 1) (.mv (.c (.bool false))))) .done) K73_9
@[simp] def WB_spec_l1Vals := @C.wpe _ _ B_spec_l1Vals.eq_1
def R_spec_l1Vals : FIR := ⟨B_spec_l1Vals, 3, [(1, none)]⟩
theorem IR_spec_l1Vals : cfun Tryz.prog H_spec_l1Vals Tryz.f73 = some R_spec_l1Vals := by kernel_rfl
theorem EN_spec_l1Vals {args : List Value} {h : Heap} {k : Value → Heap → Prop} (hargs : args.length = 1) (hw : B_spec_l1Vals.wp Tryz.prog (retQ [(1, none)] k) (env0 args 3) h) : CallE Tryz.prog fn_spec_l1Vals args h k := enter Tryz.func73 rfl IR_spec_l1Vals hargs hw

def H_spec_l2Copy : Hint := ⟨[(0, false), (1, true), (2, true), (3, true), (4, false), (5, true), (6, false), (7, true)], [[0, 5, 6, 7], [0, 7]]⟩
def K100_1 : C := .seq (.pl <| .st (.ext 8 1) <|
    .st (.act none (.pget (some 8) none 3 0 (some 2))) <|
    .st (.act none (.pset none 2 0 2 (.v 8))) .done) (.ret)
@[simp] def W100_1 := @C.wpe _ _ K100_1.eq_1
def K100_2 : C := .pl <| .st (.ext 8 2) <|
    .st (.act none (.px (some 8) (.mv (.v 4)))) <|
    .st (.act none (.px (some 9) (.bin .add (.v 8) (.c (.int .i64 1))))) <|
    .st (.act none (.px (some 4) (.mv (.v 9)))) .done
@[simp] def W100_2 := @C.wpe _ _ K100_2.eq_1
def K100_3 : Pl := .st (.act none (.als 13 none 3)) <|
    .st (.act none (.pset (some 13) 3 1 1 (.v 12))) .done
@[simp] def W100_3 := @Pl.wpe _ _ K100_3.eq_1
def K100_4 : C := .pl <| .st (.ext 8 6) <|
    .st (.act none (.als 8 none 3)) <|
    .st (.act none (.pget (some 9) (some 8) 3 1 none)) <|
    .st (.act none (.pget (some 10) none 5 0 (some 2))) <|
    .st (.act none (.psl 11 [.int .i64 0, .slice none 0 0] [(0, 2, .v 10)])) <|
    .st (.act none (.ex (some 12) (.app 32 2 [.int .i64 0, .slice none 0 0] (.o (.v 9)) (.p 1 11)))) K100_3
@[simp] def W100_4 := @C.wpe _ _ K100_4.eq_1
def K100_5 : C := .pl <| .st (.ext 8 2) <|
    .st (.act none (.px (some 8) (.mv (.v 6)))) <|
    .st (.act none (.px (some 9) (.bin .add (.v 8) (.c (.int .i64 1))))) <|
    .st (.act none (.px (some 6) (.mv (.v 9)))) .done
@[simp] def W100_5 := @C.wpe _ _ K100_5.eq_1
def K100_6 : Pl := .st (.act none (.als 13 none 5)) <|
    .st (.act none (.pset (some 13) 5 1 1 (.v 12))) .done
@[simp] def W100_6 := @Pl.wpe _ _ K100_6.eq_1
def K100_7 : C := .pl <| .st (.ext 8 6) <|
    .st (.act none (.als 8 none 5)) <|
    .st (.act none (.pget (some 9) (some 8) 5 1 none)) <|
    .st (.act none (.pget (some 10) none 7 0 (some 10))) <|
    .st (.act none (.psl 11 [.int .i64 0, .int .i64 0, .int .i64 0, .int .i64 0, .slice none 0 0, .int .i64 0, .int .i64 0, .int .i64 0, .slice none 0 0, .int .i64 0] [(0, 10, .v 10)])) <|
    .st (.act none (.ex (some 12) (.app 112 10 [.int .i64 0, .int .i64 0, .int .i64 0, .int .i64 0, .slice none 0 0, .int .i64 0, .int .i64 0, .int .i64 0, .slice none 0 0, .int .i64 0] (.o (.v 9)) (.p 1 11)))) K100_6
@[simp] def W100_7 := @C.wpe _ _ K100_7.eq_1
def K100_8 : Pl := .st (.act none (.als 12 none 7)) <|
    .st (.act none (.pset (some 12) 7 6 3 (.v 11))) .done
@[simp] def W100_8 := @Pl.wpe _ _ K100_8.eq_1
def K100_9 : C := .seq (.pl <| .st (.ext 8 5) <|
    .st (.act none (.als 8 none 7)) <|
    .st (.act none (.pget (some 9) (some 8) 7 6 (some 3))) <|
    .st (.act none (.px (some 10) (.build [.int .i64 0, .int .i64 0, .slice none 0 0] []))) <|
    .st (.act none (.ex (some 11) (.call fn_spec_l1Subst [.v 9, .c (.int .i64 (-1)), .v 10]))) K100_8) K100_7
@[simp] def W100_9 := @C.wpe _ _ K100_9.eq_1
def K100_10 : Pl := .st (.act none (.als 12 none 7)) <|
    .st (.act none (.pset (some 12) 7 2 3 (.v 11))) .done
@[simp] def W100_10 := @Pl.wpe _ _ K100_10.eq_1
def K100_11 : C := .seq (.pl <| .st (.ext 8 5) <|
    .st (.act none (.als 8 none 7)) <|
    .st (.act none (.pget (some 9) (some 8) 7 2 (some 3))) <|
    .st (.act none (.px (some 10) (.build [.int .i64 0, .int .i64 0, .slice none 0 0] []))) <|
    .st (.act none (.ex (some 11) (.call fn_spec_l1Subst [.v 9, .c (.int .i64 (-1)), .v 10]))) K100_10) K100_9
@[simp] def W100_11 := @C.wpe _ _ K100_11.eq_1
def K100_12 : C := .seq (.block 3 (.seq (.pl <| .st (.ext 8 9) <|
    .st (.act none (.als 8 none 1)) <|
    .st (.act none (.pget (some 9) (some 8) 1 1 none)) <|
    .st (.act none (.px (some 10) (.mv (.v 4)))) <|
    .st (.act none (.px (some 11) (.ia 2 (.v 9) (.v 10)))) <|
    .st (.act none (.px (some 12) (.fa 1 (.v 11)))) <|
    .st (.act none (.ld (some 13) (.v 12) none)) <|
    .st (.act none (.px (some 14) (.mv (.v 6)))) <|
    .st (.act none (.px (some 15) (.ia 10 (.v 13) (.v 14)))) <|
    .st (.act none (.ld (some 16) (.v 15) (some 10))) <|
    .st (.act none (.pnew 7 (.c (.agg #[.int .i64 0, .int .i64 0, .int .i64 0, .int .i64 0, .slice none 0 0, .int .i64 0, .int .i64 0, .int .i64 0, .slice none 0 0, .int .i64 0])) [])) <|
    .st (.act none (.pset none 7 0 10 (.v 16))) .done) K100_11)) K100_5
@[simp] def W100_12 := @C.wpe _ _ K100_12.eq_1
def K100_13 : C := .cond 8 (.v 16) (.skip) (.exit 2)
@[simp] def W100_13 := @C.wpe _ _ K100_13.eq_1
def K100_14 : C := .seq (.seq (.pl <| .st (.ext 8 9) <|
    .st (.act none (.px (some 8) (.mv (.v 6)))) <|
    .st (.act none (.als 9 none 1)) <|
    .st (.act none (.pget (some 10) (some 9) 1 1 none)) <|
    .st (.act none (.px (some 11) (.mv (.v 4)))) <|
    .st (.act none (.px (some 12) (.ia 2 (.v 10) (.v 11)))) <|
    .st (.act none (.px (some 13) (.fa 1 (.v 12)))) <|
    .st (.act none (.ld (some 14) (.v 13) none)) <|
    .st (.act none (.px (some 15) (.lenV (.v 14)))) <|
    .st (.act none (.px (some 16) (.bin .lss (.v 8) (.v 15)))) .done) K100_13) K100_12
@[simp] def W100_14 := @C.wpe _ _ K100_14.eq_1
def K100_15 : C := .block 2 (.loop 8 [0, 7] K100_14)
@[simp] def W100_15 := @C.wpe _ _ K100_15.eq_1
def K100_16 : C := .seq (.seq (.pl <| .st (.ext 8 0) <|
    .st (.act none (.px (some 6) (.mv (.c (.int .i64 0))))) .done) K100_15) K100_4
@[simp] def W100_16 := @C.wpe _ _ K100_16.eq_1
def K100_17 : C := .seq (.block 1 (.seq (.pl <| .st (.ext 8 7) <|
    .st (.act none (.als 8 none 1)) <|
    .st (.act none (.pget (some 9) (some 8) 1 1 none)) <|
    .st (.act none (.px (some 10) (.mv (.v 4)))) <|
    .st (.act none (.px (some 11) (.ia 2 (.v 9) (.v 10)))) <|
    .st (.act none (.px (some 12) (.fa 0 (.v 11)))) <|
    .st (.act none (.ld (some 13) (.v 12) none)) <|
    .st (.act none (.px (some 14) (.build [.int .i64 0, .slice none 0 0] [(0, 1, .v 13)]))) <|
    .st (.act none (.pnew 5 (.c (.agg #[.int .i64 0, .slice none 0 0])) [])) <|
    .st (.act none (.pset none 5 0 2 (.v 14))) .done) K100_16)) K100_2
@[simp] def W100_17 := @C.wpe _ _ K100_17.eq_1
def K100_18 : C := .cond 8 (.v 12) (.skip) (.exit 0)
@[simp] def W100_18 := @C.wpe _ _ K100_18.eq_1
def K100_19 : C := .seq (.seq (.pl <| .st (.ext 8 5) <|
    .st (.act none (.px (some 8) (.mv (.v 4)))) <|
    .st (.act none (.als 9 none 1)) <|
    .st (.act none (.pget (some 10) (some 9) 1 1 none)) <|
    .st (.act none (.px (some 11) (.lenV (.v 10)))) <|
    .st (.act none (.px (some 12) (.bin .lss (.v 8) (.v 11)))) .done) K100_18) K100_17
@[simp] def W100_19 := @C.wpe _ _ K100_19.eq_1
def K100_20 : C := .block 0 (.loop 8 [0, 5, 6, 7] K100_19)
@[simp] def W100_20 := @C.wpe _ _ K100_20.eq_1
def K100_21 : C := .seq (.seq (.pl <| .st (.ext 8 0) <|
    .st (.act none (.px (some 4) (.mv (.c (.int .i64 0))))) .done) K100_20) K100_1
@[simp] def W100_21 := @C.wpe _ _ K100_21.eq_1
def K100_22 : Pl := .st (.act none (.px (some 12) (.build [.slice none 0 0, .slice none 0 0] [(0, 1, .v 11)]))) <|
    .st (.act none (.pnew 3 (.c (.agg #[.slice none 0 0, .slice none 0 0])) [])) <|
    .st (.act none (.pset none 3 0 2 (.v 12))) .done
@[simp] def W100_22 := @Pl.wpe _ _ K100_22.eq_1
def K100_23 : C := .seq (.pl <| .st (.ext 8 5) <|
    .st (.act none (.psl 8 [] [])) <|
    .st (.act none (.als 9 none 1)) <|
    .st (.act none (.pget (some 10) (some 9) 1 0 none)) <|
    .st (.act none (.ex (some 11) (.app 8 1 [.int .i64 0] (.p 0 8) (.o (.v 10))))) K100_22) K100_21
@[simp] def W100_23 := @C.wpe _ _ K100_23.eq_1
def B_spec_l2Copy : C := .seq (.pl <| .st (.ext 8 0) <|
    .st (.act none (.pnew 1 (.v 0) [])) <|
    .st (.act none (.pnew 2 (.c (.agg #[.slice none 0 0, .slice none 0 0])) [])) .done) K100_23
@[simp] def WB_spec_l2Copy := @C.wpe _ _ B_spec_l2Copy.eq_1
def R_spec_l2Copy : FIR := ⟨B_spec_l2Copy, 8, [(2, some (some 2))]⟩
theorem IR_spec_l2Copy : cfun Tryz.prog H_spec_l2Copy Tryz.f100 = some R_spec_l2Copy := by kernel_rfl
theorem EN_spec_l2Copy {args : List Value} {h : Heap} {k : Value → Heap → Prop} (hargs : args.length = 1) (hw : B_spec_l2Copy.wp Tryz.prog (retQ [(2, some (some 2))] k) (env0 args 8) h) : CallE Tryz.prog fn_spec_l2Copy args h k := enter Tryz.func100 rfl IR_spec_l2Copy hargs hw

def H_spec_l2DrawEdge : Hint := ⟨[(0, false), (1, false), (4, true), (5, true), (6, true), (7, true), (29, false)], []⟩
def K102_1 : C := .seq (.pl <| .st (.ext 7 1) <|
    .st (.act none (.pget (some 7) none 3 0 (some 10))) <|
    .st (.act none (.pset none 2 0 10 (.v 7))) .done) (.ret)
@[simp] def W102_1 := @C.wpe _ _ K102_1.eq_1
def K102_2 : Pl := .st (.act none (.als 10 none 3)) <|
    .st (.act none (.pset (some 10) 3 9 1 (.v 9))) .done
@[simp] def W102_2 := @Pl.wpe _ _ K102_2.eq_1
def K102_3 : Pl := .st (.act none (.ex (some 9) (.call fn_spec_l16Rd_num [.v 7, .v 8]))) K102_2
@[simp] def W102_3 := @Pl.wpe _ _ K102_3.eq_1
def K102_4 : C := .pl <| .st (.ext 7 4) <|
    .st (.act none (.px (some 7) (.mv (.v 0)))) <|
    .st (.act none (.ex (some 8) (.bls 1 6 [.int .i64 0] [(0, 1, .c (.int .i64 1)), (1, 1, .c (.int .i64 (-1))), (2, 1, .c (.int .i64 1)), (3, 1, .c (.int .i64 (-1))), (4, 1, .c (.int .i64 2)), (5, 1, .c (.int .i64 (-2)))]))) K102_3
@[simp] def W102_4 := @C.wpe _ _ K102_4.eq_1
def K102_5 : C := .cond 7 (.v 9) K102_4 (.skip)
@[simp] def W102_5 := @C.wpe _ _ K102_5.eq_1
def K102_6 : Pl := .st (.act none (.px (some 9) (.bin .eql (.v 8) (.c (.int .i64 0))))) .done
@[simp] def W102_6 := @Pl.wpe _ _ K102_6.eq_1
def K102_7 : C := .seq (.seq (.pl <| .st (.ext 7 3) <|
    .st (.act none (.px (some 7) (.mv (.v 0)))) <|
    .st (.act none (.ex (some 8) (.call fn_spec_l16Rd_pick [.v 7, .c (.int .i64 4)]))) K102_6) K102_5) K102_1
@[simp] def W102_7 := @C.wpe _ _ K102_7.eq_1
def K102_8 : Pl := .st (.act none (.px (some 9) (.build [.int .i64 0, .int .i64 0, .slice none 0 0] [(0, 1, .c (.int .i64 1)), (1, 1, .v 8)]))) <|
    .st (.act none (.als 10 none 3)) <|
    .st (.act none (.pset (some 10) 3 6 3 (.v 9))) .done
@[simp] def W102_8 := @Pl.wpe _ _ K102_8.eq_1
def K102_9 : C := .pl <| .st (.ext 7 4) <|
    .st (.act none (.px (some 7) (.mv (.v 0)))) <|
    .st (.act none (.ex (some 8) (.call fn_spec_l16Rd_pick [.v 7, .c (.int .i64 3)]))) K102_8
@[simp] def W102_9 := @C.wpe _ _ K102_9.eq_1
def K102_10 : Pl := .st (.act none (.px (some 10) (.build [.int .i64 0, .int .i64 0, .slice none 0 0] [(0, 1, .c (.int .i64 8)), (2, 1, .v 9)]))) <|
    .st (.act none (.als 11 none 3)) <|
    .st (.act none (.pset (some 11) 3 6 3 (.v 10))) .done
@[simp] def W102_10 := @Pl.wpe _ _ K102_10.eq_1
def K102_11 : C := .pl <| .st (.ext 7 5) <|
    .st (.act none (.pget (some 7) none 4 0 (some 3))) <|
    .st (.act none (.pget (some 8) none 5 0 (some 3))) <|
    .st (.act none (.ex (some 9) (.bls 3 2 [.int .i64 0, .int .i64 0, .slice none 0 0] [(0, 3, .v 7), (3, 3, .v 8)]))) K102_10
@[simp] def W102_11 := @C.wpe _ _ K102_11.eq_1
def K102_12 : Pl := .st (.act none (.px (some 10) (.build [.int .i64 0, .int .i64 0, .slice none 0 0] [(0, 1, .c (.int .i64 9)), (2, 1, .v 9)]))) <|
    .st (.act none (.als 11 none 3)) <|
    .st (.act none (.pset (some 11) 3 6 3 (.v 10))) .done
@[simp] def W102_12 := @Pl.wpe _ _ K102_12.eq_1
def K102_13 : C := .pl <| .st (.ext 7 5) <|
    .st (.act none (.pget (some 7) none 5 0 (some 3))) <|
    .st (.act none (.pget (some 8) none 4 0 (some 3))) <|
    .st (.act none (.ex (some 9) (.bls 3 2 [.int .i64 0, .int .i64 0, .slice none 0 0] [(0, 3, .v 7), (3, 3, .v 8)]))) K102_12
@[simp] def W102_13 := @C.wpe _ _ K102_13.eq_1
def K102_14 : Pl := .st (.act none (.als 9 none 3)) <|
    .st (.act none (.pset (some 9) 3 6 3 (.v 8))) .done
@[simp] def W102_14 := @Pl.wpe _ _ K102_14.eq_1
def K102_15 : C := .pl <| .st (.ext 7 3) <|
    .st (.act none (.px (some 7) (.mv (.v 0)))) <|
    .st (.act none (.ex (some 8) (.call fn_spec_l1Expr [.v 7]))) K102_14
@[simp] def W102_15 := @C.wpe _ _ K102_15.eq_1
def K102_16 : C := .cond 7 (.v 8) K102_13 K102_15
@[simp] def W102_16 := @C.wpe _ _ K102_16.eq_1
def K102_17 : C := .seq (.pl <| .st (.ext 7 2) <|
    .st (.act none (.px (some 7) (.bin .eql (.v 6) (.c (.int .i64 2))))) <|
    .st (.act none (.px (some 8) (.mv (.v 7)))) .done) K102_16
@[simp] def W102_17 := @C.wpe _ _ K102_17.eq_1
def K102_18 : C := .cond 7 (.v 8) K102_11 K102_17
@[simp] def W102_18 := @C.wpe _ _ K102_18.eq_1
def K102_19 : C := .seq (.pl <| .st (.ext 7 2) <|
    .st (.act none (.px (some 7) (.bin .eql (.v 6) (.c (.int .i64 1))))) <|
    .st (.act none (.px (some 8) (.mv (.v 7)))) .done) K102_18
@[simp] def W102_19 := @C.wpe _ _ K102_19.eq_1
def K102_20 : C := .cond 7 (.v 8) K102_9 K102_19
@[simp] def W102_20 := @C.wpe _ _ K102_20.eq_1
def K102_21 : C := .block 0 (.seq (.pl <| .st (.ext 7 2) <|
    .st (.act none (.px (some 7) (.bin .eql (.v 6) (.c (.int .i64 0))))) <|
    .st (.act none (.px (some 8) (.mv (.v 7)))) .done) K102_20)
@[simp] def W102_21 := @C.wpe _ _ K102_21.eq_1
def K102_22 : C := .seq (.pl <| .st (.ext 7 1) <|
    .st (.act none (.px (some 7) (.mv (.v 0)))) <|
    .st (.act none (.ex (some 6) (.call fn_spec_l16Rd_pick [.v 7, .c (.int .i64 4)]))) .done) K102_21
@[simp] def W102_22 := @C.wpe _ _ K102_22.eq_1
def K102_23 : C := .seq (.pl <| .st (.ext 7 1) <|
    .st (.act none (.px (some 7) (.build [.int .i64 0, .int .i64 0, .slice none 0 0] [(0, 1, .c (.int .i64 1)), (1, 1, .c (.int .i64 1))]))) <|
    .st (.act none (.pnew 5 (.c (.agg #[.int .i64 0, .int .i64 0, .slice none 0 0])) [])) <|
    .st (.act none (.pset none 5 0 3 (.v 7))) .done) K102_22
@[simp] def W102_23 := @C.wpe _ _ K102_23.eq_1
def K102_24 : C := .seq (.pl <| .st (.ext 7 3) <|
    .st (.act none (.als 7 none 3)) <|
    .st (.act none (.pget (some 8) (some 7) 3 5 none)) <|
    .st (.act none (.px (some 9) (.build [.int .i64 0, .int .i64 0, .slice none 0 0] [(0, 1, .c (.int .i64 2)), (1, 1, .v 8)]))) <|
    .st (.act none (.pnew 4 (.c (.agg #[.int .i64 0, .int .i64 0, .slice none 0 0])) [])) <|
    .st (.act none (.pset none 4 0 3 (.v 9))) .done) K102_23
@[simp] def W102_24 := @C.wpe _ _ K102_24.eq_1
def K102_25 : Pl := .st (.act none (.als 10 none 3)) <|
    .st (.act none (.pset (some 10) 3 5 1 (.v 9))) .done
@[simp] def W102_25 := @Pl.wpe _ _ K102_25.eq_1
def K102_26 : Pl := .st (.act none (.ex (some 9) (.call fn_spec_l16Rd_num [.v 7, .v 8]))) K102_25
@[simp] def W102_26 := @Pl.wpe _ _ K102_26.eq_1
def K102_27 : C := .seq (.pl <| .st (.ext 7 4) <|
    .st (.act none (.px (some 7) (.mv (.v 0)))) <|
    .st (.act none (.ex (some 8) (.bls 1 4 [.int .i64 0] [(0, 1, .c (.int .i64 0)), (1, 1, .c (.int .i64 1)), (2, 1, .c (.int .i64 0)), (3, 1, .c (.int .i64 2))]))) K102_26) K102_24
@[simp] def W102_27 := @C.wpe _ _ K102_27.eq_1
def K102_28 : C := .cond 7 (.v 9) K102_27 (.skip)
@[simp] def W102_28 := @C.wpe _ _ K102_28.eq_1
def K102_29 : Pl := .st (.act none (.px (some 9) (.bin .gtr (.v 8) (.c (.int .i64 0))))) .done
@[simp] def W102_29 := @Pl.wpe _ _ K102_29.eq_1
def K102_30 : C := .seq (.seq (.pl <| .st (.ext 7 3) <|
    .st (.act none (.px (some 7) (.mv (.v 0)))) <|
    .st (.act none (.ex (some 8) (.call fn_spec_l16Rd_pick [.v 7, .c (.int .i64 3)]))) K102_29) K102_28) K102_7
@[simp] def W102_30 := @C.wpe _ _ K102_30.eq_1
def K102_31 : Pl := .st (.act none (.px (some 15) (.build [.int .i64 0, .int .i64 0, .int .i64 0, .int .i64 0, .slice none 0 0, .int .i64 0, .int .i64 0, .int .i64 0, .slice none 0 0, .int .i64 0] [(0, 1, .v 9), (1, 1, .v 12), (2, 3, .v 14), (5, 1, .c (.int .i64 (-1)))]))) <|
    .st (.act none (.pnew 3 (.c (.agg #[.int .i64 0, .int .i64 0, .int .i64 0, .int .i64 0, .slice none 0 0, .int .i64 0, .int .i64 0, .int .i64 0, .slice none 0 0, .int .i64 0])) [])) <|
    .st (.act none (.pset none 3 0 10 (.v 15))) .done
@[simp] def W102_31 := @Pl.wpe _ _ K102_31.eq_1
def K102_32 : Pl := .st (.act none (.px (some 13) (.mv (.v 0)))) <|
    .st (.act none (.ex (some 14) (.call fn_spec_l2Guard [.v 13]))) K102_31
@[simp] def W102_32 := @Pl.wpe _ _ K102_32.eq_1
def K102_33 : Pl := .st (.act none (.px (some 10) (.mv (.v 0)))) <|
    .st (.act none (.px (some 11) (.mv (.v 1)))) <|
    .st (.act none (.ex (some 12) (.call fn_spec_l16Rd_pick [.v 10, .v 11]))) K102_32
@[simp] def W102_33 := @Pl.wpe _ _ K102_33.eq_1
def K102_34 : C := .seq (.pl <| .st (.ext 7 9) <|
    .st (.act none (.px (some 7) (.mv (.v 0)))) <|
    .st (.act none (.px (some 8) (.mv (.v 1)))) <|
    .st (.act none (.ex (some 9) (.call fn_spec_l16Rd_pick [.v 7, .v 8]))) K102_33) K102_30
@[simp] def W102_34 := @C.wpe _ _ K102_34.eq_1
def B_spec_l2DrawEdge : C := .seq (.pl <| .st (.ext 7 0) <|
    .st (.act none (.pnew 2 (.c (.agg #[.int .i64 0, .int .i64 0, .int .i64 0, .int .i64 0, .slice none 0 0, .int .i64 0, .int .i64 0, .int .i64 0, .slice none 0 0, .int .i64 0])) [])) .done) K102_34
@[simp] def WB_spec_l2DrawEdge := @C.wpe _ _ B_spec_l2DrawEdge.eq_1
def R_spec_l2DrawEdge : FIR := ⟨B_spec_l2DrawEdge, 7, [(2, some (some 10))]⟩
theorem IR_spec_l2DrawEdge : cfun Tryz.prog H_spec_l2DrawEdge Tryz.f102 = some R_spec_l2DrawEdge := by kernel_rfl
theorem EN_spec_l2DrawEdge {args : List Value} {h : Heap} {k : Value → Heap → Prop} (hargs : args.length = 2) (hw : B_spec_l2DrawEdge.wp Tryz.prog (retQ [(2, some (some 10))] k) (env0 args 7) h) : CallE Tryz.prog fn_spec_l2DrawEdge args h k := enter Tryz.func102 rfl IR_spec_l2DrawEdge hargs hw

def H_spec_l2Guard : Hint := ⟨[(0, false), (2, true), (3, true), (4, true), (5, true)], []⟩
def K61_1 : C := .seq (.pl <| .st (.ext 5 1) <|
    .st (.act none (.pget (some 5) none 4 0 (some 3))) <|
    .st (.act none (.pset none 1 0 3 (.v 5))) .done) (.ret)
@[simp] def W61_1 := @C.wpe _ _ K61_1.eq_1
def K61_2 : Pl := .st (.act none (.px (some 7) (.build [.int .i64 0, .int .i64 0, .slice none 0 0] [(0, 1, .c (.int .i64 3)), (2, 1, .v 6)]))) <|
    .st (.act none (.pset none 1 0 3 (.v 7))) .done
@[simp] def W61_2 := @Pl.wpe _ _ K61_2.eq_1
def K61_3 : C := .seq (.pl <| .st (.ext 5 3) <|
    .st (.act none (.pget (some 5) none 4 0 (some 3))) <|
    .st (.act none (.ex (some 6) (.bls 3 1 [.int .i64 0, .int .i64 0, .slice none 0 0] [(0, 3, .v 5)]))) K61_2) (.ret)
@[simp] def W61_3 := @C.wpe _ _ K61_3.eq_1
def K61_4 : C := .cond 5 (.v 7) K61_3 (.skip)
@[simp] def W61_4 := @C.wpe _ _ K61_4.eq_1
def K61_5 : Pl := .st (.act none (.px (some 7) (.bin .eql (.v 6) (.c (.int .i64 0))))) .done
@[simp] def W61_5 := @Pl.wpe _ _ K61_5.eq_1
def K61_6 : C := .seq (.seq (.pl <| .st (.ext 5 3) <|
    .st (.act none (.px (some 5) (.mv (.v 0)))) <|
    .st (.act none (.ex (some 6) (.call fn_spec_l16Rd_pick [.v 5, .c (.int .i64 5)]))) K61_5) K61_4) K61_1
@[simp] def W61_6 := @C.wpe _ _ K61_6.eq_1
def K61_7 : Pl := .st (.act none (.px (some 11) (.build [.int .i64 0, .int .i64 0, .slice none 0 0] [(0, 1, .v 7), (2, 1, .v 10)]))) <|
    .st (.act none (.pset none 4 0 3 (.v 11))) .done
@[simp] def W61_7 := @Pl.wpe _ _ K61_7.eq_1
def K61_8 : Pl := .st (.act none (.ex (some 10) (.bls 3 2 [.int .i64 0, .int .i64 0, .slice none 0 0] [(0, 3, .v 8), (3, 3, .v 9)]))) K61_7
@[simp] def W61_8 := @Pl.wpe _ _ K61_8.eq_1
def K61_9 : Pl := .st (.act none (.ex (some 7) (.call fn_spec_l16Rd_num [.v 5, .v 6]))) K61_8
@[simp] def W61_9 := @Pl.wpe _ _ K61_9.eq_1
def K61_10 : Pl := .st (.act none (.px (some 11) (.build [.int .i64 0, .int .i64 0, .slice none 0 0] [(0, 1, .v 7), (2, 1, .v 10)]))) <|
    .st (.act none (.pset none 4 0 3 (.v 11))) .done
@[simp] def W61_10 := @Pl.wpe _ _ K61_10.eq_1
def K61_11 : Pl := .st (.act none (.ex (some 7) (.call fn_spec_l16Rd_num [.v 5, .v 6]))) K61_10
@[simp] def W61_11 := @Pl.wpe _ _ K61_11.eq_1
def K61_12 : Pl := .st (.act none (.ex (some 10) (.bls 3 2 [.int .i64 0, .int .i64 0, .slice none 0 0] [(0, 3, .v 8), (3, 3, .v 9)]))) K61_11
@[simp] def W61_12 := @Pl.wpe _ _ K61_12.eq_1
def K61_13 : Pl := .both K61_9 K61_12
@[simp] def W61_13 := @Pl.wpe _ _ K61_13.eq_1
def K61_14 : Pl := .st (.act none (.ex (some 6) (.bls 1 3 [.int .i64 0] [(0, 1, .c (.int .i64 6)), (1, 1, .c (.int .i64 7)), (2, 1, .c (.int .i64 6))]))) K61_13
@[simp] def W61_14 := @Pl.wpe _ _ K61_14.eq_1
def K61_15 : Pl := .st (.act none (.px (some 11) (.build [.int .i64 0, .int .i64 0, .slice none 0 0] [(0, 1, .v 7), (2, 1, .v 10)]))) <|
    .st (.act none (.pset none 4 0 3 (.v 11))) .done
@[simp] def W61_15 := @Pl.wpe _ _ K61_15.eq_1
def K61_16 : Pl := .st (.act none (.ex (some 7) (.call fn_spec_l16Rd_num [.v 5, .v 6]))) K61_15
@[simp] def W61_16 := @Pl.wpe _ _ K61_16.eq_1
def K61_17 : Pl := .st (.act none (.ex (some 6) (.bls 1 3 [.int .i64 0] [(0, 1, .c (.int .i64 6)), (1, 1, .c (.int .i64 7)), (2, 1, .c (.int .i64 6))]))) K61_16
@[simp] def W61_17 := @Pl.wpe _ _ K61_17.eq_1
def K61_18 : Pl := .st (.act none (.ex (some 10) (.bls 3 2 [.int .i64 0, .int .i64 0, .slice none 0 0] [(0, 3, .v 8), (3, 3, .v 9)]))) K61_17
@[simp] def W61_18 := @Pl.wpe _ _ K61_18.eq_1
def K61_19 : C := .seq (.pl <| .st (.ext 5 7) <|
    .st (.act none (.px (some 5) (.mv (.v 0)))) <|
    .st (.act none (.pget (some 8) none 2 0 (some 3))) <|
    .st (.act none (.pget (some 9) none 3 0 (some 3))) <|
    .st (.act none (.pnew 4 (.c (.agg #[.int .i64 0, .int .i64 0, .slice none 0 0])) [])) <|
    .both K61_14 K61_18) K61_6
@[simp] def W61_19 := @C.wpe _ _ K61_19.eq_1
def K61_20 : Pl := .st (.act none (.px (some 7) (.build [.int .i64 0, .int .i64 0, .slice none 0 0] [(0, 1, .c (.int .i64 1)), (1, 1, .v 6)]))) <|
    .st (.act none (.pnew 3 (.c (.agg #[.int .i64 0, .int .i64 0, .slice none 0 0])) [])) <|
    .st (.act none (.pset none 3 0 3 (.v 7))) .done
@[simp] def W61_20 := @Pl.wpe _ _ K61_20.eq_1
def K61_21 : C := .seq (.pl <| .st (.ext 5 3) <|
    .st (.act none (.px (some 5) (.mv (.v 0)))) <|
    .st (.act none (.ex (some 6) (.call fn_spec_l16Rd_pick [.v 5, .c (.int .i64 3)]))) K61_20) K61_19
@[simp] def W61_21 := @C.wpe _ _ K61_21.eq_1
def K61_22 : Pl := .st (.act none (.px (some 8) (.build [.int .i64 0, .int .i64 0, .slice none 0 0] [(0, 1, .c (.int .i64 2)), (1, 1, .v 7)]))) <|
    .st (.act none (.pnew 2 (.c (.agg #[.int .i64 0, .int .i64 0, .slice none 0 0])) [])) <|
    .st (.act none (.pset none 2 0 3 (.v 8))) .done
@[simp] def W61_22 := @Pl.wpe _ _ K61_22.eq_1
def K61_23 : Pl := .st (.act none (.ex (some 7) (.call fn_spec_l16Rd_num [.v 5, .v 6]))) K61_22
@[simp] def W61_23 := @Pl.wpe _ _ K61_23.eq_1
def K61_24 : C := .seq (.pl <| .st (.ext 5 4) <|
    .st (.act none (.px (some 5) (.mv (.v 0)))) <|
    .st (.act none (.ex (some 6) (.bls 1 4 [.int .i64 0] [(0, 1, .c (.int .i64 0)), (1, 1, .c (.int .i64 1)), (2, 1, .c (.int .i64 0)), (3, 1, .c (.int .i64 2))]))) K61_23) K61_21
@[simp] def W61_24 := @C.wpe _ _ K61_24.eq_1
def K61_25 : C := .seq (.pl <| .st (.ext 5 1) <|
    .st (.act none (.px (some 5) (.build [.int .i64 0, .int .i64 0, .slice none 0 0] [(0, 1, .c (.int .i64 1)), (1, 1, .c (.int .i64 1))]))) <|
    .st (.act none (.pset none 1 0 3 (.v 5))) .done) (.ret)
@[simp] def W61_25 := @C.wpe _ _ K61_25.eq_1
def K61_26 : C := .cond 5 (.v 7) K61_25 (.skip)
@[simp] def W61_26 := @C.wpe _ _ K61_26.eq_1
def K61_27 : Pl := .st (.act none (.px (some 7) (.bin .eql (.v 6) (.c (.int .i64 0))))) .done
@[simp] def W61_27 := @Pl.wpe _ _ K61_27.eq_1
def K61_28 : C := .seq (.seq (.pl <| .st (.ext 5 3) <|
    .st (.act none (.px (some 5) (.mv (.v 0)))) <|
    .st (.act none (.ex (some 6) (.call fn_spec_l16Rd_pick [.v 5, .c (.int .i64 3)]))) K61_27) K61_26) K61_24
@[simp] def W61_28 := @C.wpe _ _ K61_28.eq_1
def B_spec_l2Guard : C := .seq (.pl <| .st (.ext 5 0) <|
    .st (.act none (.pnew 1 (.c (.agg #[.int .i64 0, .int .i64 0, .slice none 0 0])) [])) .done) K61_28
@[simp] def WB_spec_l2Guard := @C.wpe _ _ B_spec_l2Guard.eq_1
def R_spec_l2Guard : FIR := ⟨B_spec_l2Guard, 5, [(1, some (some 3))]⟩
theorem IR_spec_l2Guard : cfun Tryz.prog H_spec_l2Guard Tryz.f61 = some R_spec_l2Guard := by kernel_rfl
theorem EN_spec_l2Guard {args : List Value} {h : Heap} {k : Value → Heap → Prop} (hargs : args.length = 1) (hw : B_spec_l2Guard.wp Tryz.prog (retQ [(1, some (some 3))] k) (env0 args 5) h) : CallE Tryz.prog fn_spec_l2Guard args h k := enter Tryz.func61 rfl IR_spec_l2Guard hargs hw

def H_spec_l2Ints : Hint := ⟨[(0, false), (1, false), (4, false), (5, false)], [[2]]⟩
def K114_1 : C := .seq (.pl <| .st (.ext 4 0) <|
    .st (.act none (.px (some 2) (.mv (.c (.bool true))))) .done) (.ret)
@[simp] def W114_1 := @C.wpe _ _ K114_1.eq_1
def K114_2 : C := .pl <| .st (.ext 4 2) <|
    .st (.act none (.px (some 4) (.mv (.v 3)))) <|
    .st (.act none (.px (some 5) (.bin .add (.v 4) (.c (.int .i64 1))))) <|
    .st (.act none (.px (some 3) (.mv (.v 5)))) .done
@[simp] def W114_2 := @C.wpe _ _ K114_2.eq_1
def K114_3 : C := .seq (.pl <| .st (.ext 4 0) <|
    .st (.act none (.px (some 2) (.mv (.c (.bool false))))) .done) (.ret)
@[simp] def W114_3 := @C.wpe _ _ K114_3.eq_1
def K114_4 : C := .cond 4 (.v 12) K114_3 (.skip)
@[simp] def W114_4 := @C.wpe _ _ K114_4.eq_1
def K114_5 : C := .seq (.block 1 (.seq (.pl <| .st (.ext 4 9) <|
    .st (.act none (.px (some 4) (.mv (.v 0)))) <|
    .st (.act none (.px (some 5) (.mv (.v 3)))) <|
    .st (.act none (.px (some 6) (.ia 1 (.v 4) (.v 5)))) <|
    .st (.act none (.ld (some 7) (.v 6) none)) <|
    .st (.act none (.px (some 8) (.mv (.v 1)))) <|
    .st (.act none (.px (some 9) (.mv (.v 3)))) <|
    .st (.act none (.px (some 10) (.ia 1 (.v 8) (.v 9)))) <|
    .st (.act none (.ld (some 11) (.v 10) none)) <|
    .st (.act none (.px (some 12) (.bin .neq (.v 7) (.v 11)))) .done) K114_4)) K114_2
@[simp] def W114_5 := @C.wpe _ _ K114_5.eq_1
def K114_6 : C := .cond 4 (.v 7) (.skip) (.exit 0)
@[simp] def W114_6 := @C.wpe _ _ K114_6.eq_1
def K114_7 : C := .seq (.seq (.pl <| .st (.ext 4 4) <|
    .st (.act none (.px (some 4) (.mv (.v 3)))) <|
    .st (.act none (.px (some 5) (.mv (.v 0)))) <|
    .st (.act none (.px (some 6) (.lenV (.v 5)))) <|
    .st (.act none (.px (some 7) (.bin .lss (.v 4) (.v 6)))) .done) K114_6) K114_5
@[simp] def W114_7 := @C.wpe _ _ K114_7.eq_1
def K114_8 : C := .block 0 (.loop 4 [2] K114_7)
@[simp] def W114_8 := @C.wpe _ _ K114_8.eq_1
def K114_9 : C := .seq (.seq (.pl <| .st (.ext 4 0) <|
    .st (.act none (.px (some 3) (.mv (.c (.int .i64 0))))) .done) K114_8) K114_1
@[simp] def W114_9 := @C.wpe _ _ K114_9.eq_1
def K114_10 : C := .seq (.pl <| .st (.ext 4 0) <|
    .st (.act none (.px (some 2) (.mv (.c (.bool false))))) .done) (.ret)
@[simp] def W114_10 := @C.wpe _ _ K114_10.eq_1
def K114_11 : C := .cond 4 (.v 8) K114_10 (.skip)
@[simp] def W114_11 := @C.wpe _ _ K114_11.eq_1
def K114_12 : C := .seq (.seq (.pl <| .st (.ext 4 5) <|
    .st (.act none (.px (some 4) (.mv (.v 0)))) <|
    .st (.act none (.px (some 5) (.lenV (.v 4)))) <|
    .st (.act none (.px (some 6) (.mv (.v 1)))) <|
    .st (.act none (.px (some 7) (.lenV (.v 6)))) <|
    .st (.act none (.px (some 8) (.bin .neq (.v 5) (.v 7)))) .done) K114_11) K114_9
@[simp] def W114_12 := @C.wpe _ _ K114_12.eq_1
def B_spec_l2Ints : C := .seq (.pl <| .st (.ext 4 0) <|
    .st (.act none (.px (some 2) (.mv (.c (.bool false))))) .done) K114_12
@[simp] def WB_spec_l2Ints := @C.wpe _ _ B_spec_l2Ints.eq_1
def R_spec_l2Ints : FIR := ⟨B_spec_l2Ints, 4, [(2, none)]⟩
theorem IR_spec_l2Ints : cfun Tryz.prog H_spec_l2Ints Tryz.f114 = some R_spec_l2Ints := by kernel_rfl
theorem EN_spec_l2Ints {args : List Value} {h : Heap} {k : Value → Heap → Prop} (hargs : args.length = 2) (hw : B_spec_l2Ints.wp Tryz.prog (retQ [(2, none)] k) (env0 args 4) h) : CallE Tryz.prog fn_spec_l2Ints args h k := enter Tryz.func114 rfl IR_spec_l2Ints hargs hw

def H_spec_l2Mutate : Hint := ⟨[(0, false), (1, false), (3, true), (4, true), (5, true), (6, false), (31, false)], []⟩
def K57_1 : C := .seq (.pl <| .st (.ext 7 1) <|
    .st (.act none (.pget (some 7) none 4 0 (some 2))) <|
    .st (.act none (.pset none 3 0 2 (.v 7))) .done) (.ret)
@[simp] def W57_1 := @C.wpe _ _ K57_1.eq_1
def K57_2 : Pl := .st (.act none (.als 11 none 4)) <|
    .st (.act none (.pset (some 11) 4 0 1 (.v 10))) .done
@[simp] def W57_2 := @Pl.wpe _ _ K57_2.eq_1
def K57_3 : C := .pl <| .st (.ext 7 5) <|
    .st (.act none (.als 7 none 4)) <|
    .st (.act none (.pget (some 8) (some 7) 4 0 none)) <|
    .st (.act none (.psl 9 [.int .i64 0] [(0, 1, .c (.int .i64 0))])) <|
    .st (.act none (.ex (some 10) (.app 8 1 [.int .i64 0] (.o (.v 8)) (.p 1 9)))) K57_2
@[simp] def W57_3 := @C.wpe _ _ K57_3.eq_1
def K57_4 : Pl := .st (.act none (.als 15 none 4)) <|
    .st (.act none (.pset (some 15) 4 1 1 (.v 14))) .done
@[simp] def W57_4 := @Pl.wpe _ _ K57_4.eq_1
def K57_5 : Pl := .st (.act none (.px (some 12) (.build [.int .i64 0, .slice none 0 0] [(0, 1, .v 11)]))) <|
    .st (.act none (.psl 13 [.int .i64 0, .slice none 0 0] [(0, 2, .v 12)])) <|
    .st (.act none (.ex (some 14) (.app 32 2 [.int .i64 0, .slice none 0 0] (.o (.v 8)) (.p 1 13)))) K57_4
@[simp] def W57_5 := @Pl.wpe _ _ K57_5.eq_1
def K57_6 : Pl := .st (.act none (.ex (some 11) (.call fn_spec_l16Rd_num [.v 9, .v 10]))) K57_5
@[simp] def W57_6 := @Pl.wpe _ _ K57_6.eq_1
def K57_7 : C := .pl <| .st (.ext 7 9) <|
    .st (.act none (.als 7 none 4)) <|
    .st (.act none (.pget (some 8) (some 7) 4 1 none)) <|
    .st (.act none (.px (some 9) (.mv (.v 0)))) <|
    .st (.act none (.ex (some 10) (.bls 1 4 [.int .i64 0] [(0, 1, .c (.int .i64 0)), (1, 1, .c (.int .i64 1)), (2, 1, .c (.int .i64 4)), (3, 1, .c (.int .i64 5))]))) K57_6
@[simp] def W57_7 := @C.wpe _ _ K57_7.eq_1
def K57_8 : Pl := .st (.re 12 (.v 11) none none) <|
    .st (.act none (.px (some 17) (.ia 10 (.v 12) (.c (.int .i64 0))))) <|
    .st (.act none (.px (some 18) (.fa 2 (.v 17)))) <|
    .st (.act none (.ex none (.store 3 (.v 18) (.v 16)))) .done
@[simp] def W57_8 := @Pl.wpe _ _ K57_8.eq_1
def K57_9 : Pl := .st (.re 12 (.v 11) none none) <|
    .st (.act none (.ex (some 16) (.call fn_spec_l1Mutate [.v 13, .v 15]))) K57_8
@[simp] def W57_9 := @Pl.wpe _ _ K57_9.eq_1
def K57_10 : C := .pl <| .st (.ext 7 12) <|
    .st (.act none (.als 7 none 4)) <|
    .st (.act none (.pget (some 8) (some 7) 4 1 none)) <|
    .st (.act none (.px (some 9) (.mv (.v 5)))) <|
    .st (.act none (.px (some 10) (.ia 2 (.v 8) (.v 9)))) <|
    .st (.act none (.px (some 11) (.fa 1 (.v 10)))) <|
    .st (.act none (.ld (some 12) (.v 11) none)) <|
    .st (.act none (.px (some 13) (.mv (.v 0)))) <|
    .st (.act none (.px (some 14) (.mv (.v 0)))) <|
    .st (.act none (.ex (some 15) (.call fn_spec_l1Expr [.v 14]))) K57_9
@[simp] def W57_10 := @C.wpe _ _ K57_10.eq_1
def K57_11 : C := .cond 7 (.v 8) K57_10 (.skip)
@[simp] def W57_11 := @C.wpe _ _ K57_11.eq_1
def K57_12 : C := .seq (.pl <| .st (.ext 7 2) <|
    .st (.act none (.px (some 7) (.mv (.v 5)))) <|
    .st (.act none (.px (some 8) (.bin .geq (.v 7) (.c (.int .i64 0))))) .done) K57_11
@[simp] def W57_12 := @C.wpe _ _ K57_12.eq_1
def K57_13 : Pl := .st (.re 12 (.v 11) none none) <|
    .st (.act none (.px (some 16) (.ia 10 (.v 12) (.c (.int .i64 0))))) <|
    .st (.act none (.px (some 17) (.fa 5 (.v 16)))) <|
    .st (.act none (.ex none (.store 1 (.v 17) (.v 15)))) .done
@[simp] def W57_13 := @Pl.wpe _ _ K57_13.eq_1
def K57_14 : Pl := .st (.re 12 (.v 11) none none) <|
    .st (.act none (.ex (some 15) (.call fn_spec_l16Rd_num [.v 13, .v 14]))) K57_13
@[simp] def W57_14 := @Pl.wpe _ _ K57_14.eq_1
def K57_15 : C := .pl <| .st (.ext 7 11) <|
    .st (.act none (.als 7 none 4)) <|
    .st (.act none (.pget (some 8) (some 7) 4 1 none)) <|
    .st (.act none (.px (some 9) (.mv (.v 5)))) <|
    .st (.act none (.px (some 10) (.ia 2 (.v 8) (.v 9)))) <|
    .st (.act none (.px (some 11) (.fa 1 (.v 10)))) <|
    .st (.act none (.ld (some 12) (.v 11) none)) <|
    .st (.act none (.px (some 13) (.mv (.v 0)))) <|
    .st (.act none (.ex (some 14) (.bls 1 4 [.int .i64 0] [(0, 1, .c (.int .i64 (-1))), (1, 1, .c (.int .i64 3)), (2, 1, .c (.int .i64 0)), (3, 1, .c (.int .i64 (-2)))]))) K57_14
@[simp] def W57_15 := @C.wpe _ _ K57_15.eq_1
def K57_16 : C := .cond 7 (.v 8) K57_15 (.skip)
@[simp] def W57_16 := @C.wpe _ _ K57_16.eq_1
def K57_17 : C := .seq (.pl <| .st (.ext 7 2) <|
    .st (.act none (.px (some 7) (.mv (.v 5)))) <|
    .st (.act none (.px (some 8) (.bin .geq (.v 7) (.c (.int .i64 0))))) .done) K57_16
@[simp] def W57_17 := @C.wpe _ _ K57_17.eq_1
def K57_18 : Pl := .st (.re 12 (.v 11) none none) <|
    .st (.act none (.px (some 16) (.ia 10 (.v 12) (.c (.int .i64 0))))) <|
    .st (.act none (.px (some 17) (.fa 9 (.v 16)))) <|
    .st (.act none (.ex none (.store 1 (.v 17) (.v 15)))) .done
@[simp] def W57_18 := @Pl.wpe _ _ K57_18.eq_1
def K57_19 : Pl := .st (.re 12 (.v 11) none none) <|
    .st (.act none (.ex (some 15) (.call fn_spec_l16Rd_num [.v 13, .v 14]))) K57_18
@[simp] def W57_19 := @Pl.wpe _ _ K57_19.eq_1
def K57_20 : C := .pl <| .st (.ext 7 11) <|
    .st (.act none (.als 7 none 4)) <|
    .st (.act none (.pget (some 8) (some 7) 4 1 none)) <|
    .st (.act none (.px (some 9) (.mv (.v 5)))) <|
    .st (.act none (.px (some 10) (.ia 2 (.v 8) (.v 9)))) <|
    .st (.act none (.px (some 11) (.fa 1 (.v 10)))) <|
    .st (.act none (.ld (some 12) (.v 11) none)) <|
    .st (.act none (.px (some 13) (.mv (.v 0)))) <|
    .st (.act none (.ex (some 14) (.bls 1 4 [.int .i64 0] [(0, 1, .c (.int .i64 3)), (1, 1, .c (.int .i64 (-3))), (2, 1, .c (.int .i64 2)), (3, 1, .c (.int .i64 (-9223372036854775808)))]))) K57_19
@[simp] def W57_20 := @C.wpe _ _ K57_20.eq_1
def K57_21 : C := .cond 7 (.v 8) K57_20 (.skip)
@[simp] def W57_21 := @C.wpe _ _ K57_21.eq_1
def K57_22 : C := .seq (.pl <| .st (.ext 7 2) <|
    .st (.act none (.px (some 7) (.mv (.v 5)))) <|
    .st (.act none (.px (some 8) (.bin .geq (.v 7) (.c (.int .i64 0))))) .done) K57_21
@[simp] def W57_22 := @C.wpe _ _ K57_22.eq_1
def K57_23 : Pl := .st (.re 12 (.v 11) none none) <|
    .st (.act none (.px (some 16) (.ia 10 (.v 12) (.c (.int .i64 0))))) <|
    .st (.act none (.px (some 17) (.fa 1 (.v 16)))) <|
    .st (.act none (.ex none (.store 1 (.v 17) (.v 15)))) .done
@[simp] def W57_23 := @Pl.wpe _ _ K57_23.eq_1
def K57_24 : Pl := .st (.re 12 (.v 11) none none) <|
    .st (.act none (.ex (some 15) (.call fn_spec_l16Rd_num [.v 13, .v 14]))) K57_23
@[simp] def W57_24 := @Pl.wpe _ _ K57_24.eq_1
def K57_25 : C := .pl <| .st (.ext 7 11) <|
    .st (.act none (.als 7 none 4)) <|
    .st (.act none (.pget (some 8) (some 7) 4 1 none)) <|
    .st (.act none (.px (some 9) (.mv (.v 5)))) <|
    .st (.act none (.px (some 10) (.ia 2 (.v 8) (.v 9)))) <|
    .st (.act none (.px (some 11) (.fa 1 (.v 10)))) <|
    .st (.act none (.ld (some 12) (.v 11) none)) <|
    .st (.act none (.px (some 13) (.mv (.v 0)))) <|
    .st (.act none (.ex (some 14) (.bls 1 4 [.int .i64 0] [(0, 1, .c (.int .i64 (-1))), (1, 1, .c (.int .i64 4)), (2, 1, .c (.int .i64 0)), (3, 1, .c (.int .i64 9223372036854775807))]))) K57_24
@[simp] def W57_25 := @C.wpe _ _ K57_25.eq_1
def K57_26 : C := .cond 7 (.v 8) K57_25 (.skip)
@[simp] def W57_26 := @C.wpe _ _ K57_26.eq_1
def K57_27 : C := .seq (.pl <| .st (.ext 7 2) <|
    .st (.act none (.px (some 7) (.mv (.v 5)))) <|
    .st (.act none (.px (some 8) (.bin .geq (.v 7) (.c (.int .i64 0))))) .done) K57_26
@[simp] def W57_27 := @C.wpe _ _ K57_27.eq_1
def K57_28 : C := .seq (.pl <| .st (.ext 7 1) <|
    .st (.act none (.px (some 7) (.build [.slice none 0 0, .slice none 0 0] []))) <|
    .st (.act none (.pset none 3 0 2 (.v 7))) .done) (.ret)
@[simp] def W57_28 := @C.wpe _ _ K57_28.eq_1
def K57_29 : C := .cond 7 (.v 8) K57_28 (.skip)
@[simp] def W57_29 := @C.wpe _ _ K57_29.eq_1
def K57_30 : C := .seq (.pl <| .st (.ext 7 2) <|
    .st (.act none (.px (some 7) (.bin .eql (.v 6) (.c (.int .i64 6))))) <|
    .st (.act none (.px (some 8) (.mv (.v 7)))) .done) K57_29
@[simp] def W57_30 := @C.wpe _ _ K57_30.eq_1
def K57_31 : C := .cond 7 (.v 8) K57_27 K57_30
@[simp] def W57_31 := @C.wpe _ _ K57_31.eq_1
def K57_32 : C := .seq (.pl <| .st (.ext 7 2) <|
    .st (.act none (.px (some 7) (.bin .eql (.v 6) (.c (.int .i64 5))))) <|
    .st (.act none (.px (some 8) (.mv (.v 7)))) .done) K57_31
@[simp] def W57_32 := @C.wpe _ _ K57_32.eq_1
def K57_33 : C := .cond 7 (.v 8) K57_22 K57_32
@[simp] def W57_33 := @C.wpe _ _ K57_33.eq_1
def K57_34 : C := .seq (.pl <| .st (.ext 7 2) <|
    .st (.act none (.px (some 7) (.bin .eql (.v 6) (.c (.int .i64 4))))) <|
    .st (.act none (.px (some 8) (.mv (.v 7)))) .done) K57_33
@[simp] def W57_34 := @C.wpe _ _ K57_34.eq_1
def K57_35 : C := .cond 7 (.v 8) K57_17 K57_34
@[simp] def W57_35 := @C.wpe _ _ K57_35.eq_1
def K57_36 : C := .seq (.pl <| .st (.ext 7 2) <|
    .st (.act none (.px (some 7) (.bin .eql (.v 6) (.c (.int .i64 3))))) <|
    .st (.act none (.px (some 8) (.mv (.v 7)))) .done) K57_35
@[simp] def W57_36 := @C.wpe _ _ K57_36.eq_1
def K57_37 : C := .cond 7 (.v 8) K57_12 K57_36
@[simp] def W57_37 := @C.wpe _ _ K57_37.eq_1
def K57_38 : C := .seq (.pl <| .st (.ext 7 2) <|
    .st (.act none (.px (some 7) (.bin .eql (.v 6) (.c (.int .i64 2))))) <|
    .st (.act none (.px (some 8) (.mv (.v 7)))) .done) K57_37
@[simp] def W57_38 := @C.wpe _ _ K57_38.eq_1
def K57_39 : C := .cond 7 (.v 8) K57_7 K57_38
@[simp] def W57_39 := @C.wpe _ _ K57_39.eq_1
def K57_40 : C := .seq (.pl <| .st (.ext 7 2) <|
    .st (.act none (.px (some 7) (.bin .eql (.v 6) (.c (.int .i64 1))))) <|
    .st (.act none (.px (some 8) (.mv (.v 7)))) .done) K57_39
@[simp] def W57_40 := @C.wpe _ _ K57_40.eq_1
def K57_41 : C := .cond 7 (.v 8) K57_3 K57_40
@[simp] def W57_41 := @C.wpe _ _ K57_41.eq_1
def K57_42 : C := .block 0 (.seq (.pl <| .st (.ext 7 2) <|
    .st (.act none (.px (some 7) (.bin .eql (.v 6) (.c (.int .i64 0))))) <|
    .st (.act none (.px (some 8) (.mv (.v 7)))) .done) K57_41)
@[simp] def W57_42 := @C.wpe _ _ K57_42.eq_1
def K57_43 : C := .seq (.seq (.pl <| .st (.ext 7 1) <|
    .st (.act none (.px (some 7) (.mv (.v 0)))) <|
    .st (.act none (.ex (some 6) (.call fn_spec_l16Rd_pick [.v 7, .c (.int .i64 50)]))) .done) K57_42) K57_1
@[simp] def W57_43 := @C.wpe _ _ K57_43.eq_1
def K57_44 : C := .pl <| .st (.ext 7 0) <|
    .st (.act none (.px (some 5) (.mv (.c (.int .i64 (-1)))))) .done
@[simp] def W57_44 := @C.wpe _ _ K57_44.eq_1
def K57_45 : C := .cond 7 (.v 21) K57_44 (.skip)
@[simp] def W57_45 := @C.wpe _ _ K57_45.eq_1
def K57_46 : C := .seq (.seq (.pl <| .st (.ext 7 15) <|
    .st (.act none (.px (some 7) (.mv (.v 5)))) <|
    .st (.act none (.als 8 none 2)) <|
    .st (.act none (.pget (some 9) (some 8) 2 1 none)) <|
    .st (.act none (.px (some 10) (.lenV (.v 9)))) <|
    .st (.act none (.px (some 11) (.bin .eql (.v 7) (.v 10)))) <|
    .st (.act none (.px (some 12) (.mv (.v 11)))) <|
    .st (.act (some (.v 12, false)) (.als 13 none 4)) <|
    .st (.act (some (.v 12, false)) (.pget (some 14) (some 13) 4 1 none)) <|
    .st (.act (some (.v 12, false)) (.px (some 15) (.mv (.v 5)))) <|
    .st (.act (some (.v 12, false)) (.px (some 16) (.ia 2 (.v 14) (.v 15)))) <|
    .st (.act (some (.v 12, false)) (.px (some 17) (.fa 1 (.v 16)))) <|
    .st (.act (some (.v 12, false)) (.ld (some 18) (.v 17) none)) <|
    .st (.act (some (.v 12, false)) (.px (some 19) (.lenV (.v 18)))) <|
    .st (.act (some (.v 12, false)) (.px (some 20) (.bin .eql (.v 19) (.c (.int .i64 0))))) <|
    .st (.act none (.px (some 21) (.pick (.v 12) (.c (.bool true)) (.v 20)))) .done) K57_45) K57_43
@[simp] def W57_46 := @C.wpe _ _ K57_46.eq_1
def K57_47 : Pl := .st (.act none (.px (some 5) (.mv (.v 12)))) .done
@[simp] def W57_47 := @Pl.wpe _ _ K57_47.eq_1
def K57_48 : C := .seq (.pl <| .st (.ext 7 6) <|
    .st (.act none (.px (some 7) (.mv (.v 0)))) <|
    .st (.act none (.als 8 none 2)) <|
    .st (.act none (.pget (some 9) (some 8) 2 1 none)) <|
    .st (.act none (.px (some 10) (.lenV (.v 9)))) <|
    .st (.act none (.px (some 11) (.bin .add (.v 10) (.c (.int .i64 1))))) <|
    .st (.act none (.ex (some 12) (.call fn_spec_l16Rd_pick [.v 7, .v 11]))) K57_47) K57_46
@[simp] def W57_48 := @C.wpe _ _ K57_48.eq_1
def K57_49 : Pl := .st (.act none (.pnew 4 (.c (.agg #[.slice none 0 0, .slice none 0 0])) [])) <|
    .st (.act none (.pset none 4 0 2 (.v 8))) .done
@[simp] def W57_49 := @Pl.wpe _ _ K57_49.eq_1
def K57_50 : C := .seq (.pl <| .st (.ext 7 2) <|
    .st (.act none (.pget (some 7) none 2 0 (some 2))) <|
    .st (.act none (.ex (some 8) (.call fn_spec_l2Copy [.v 7]))) K57_49) K57_48
@[simp] def W57_50 := @C.wpe _ _ K57_50.eq_1
def B_spec_l2Mutate : C := .seq (.pl <| .st (.ext 7 0) <|
    .st (.act none (.pnew 2 (.v 1) [])) <|
    .st (.act none (.pnew 3 (.c (.agg #[.slice none 0 0, .slice none 0 0])) [])) .done) K57_50
@[simp] def WB_spec_l2Mutate := @C.wpe _ _ B_spec_l2Mutate.eq_1
def R_spec_l2Mutate : FIR := ⟨B_spec_l2Mutate, 7, [(3, some (some 2))]⟩
theorem IR_spec_l2Mutate : cfun Tryz.prog H_spec_l2Mutate Tryz.f57 = some R_spec_l2Mutate := by kernel_rfl
theorem EN_spec_l2Mutate {args : List Value} {h : Heap} {k : Value → Heap → Prop} (hargs : args.length = 2) (hw : B_spec_l2Mutate.wp Tryz.prog (retQ [(3, some (some 2))] k) (env0 args 7) h) : CallE Tryz.prog fn_spec_l2Mutate args h k := enter Tryz.func57 rfl IR_spec_l2Mutate hargs hw

def H_spec_l2None : Hint := ⟨[(0, false), (1, true), (2, false)], []⟩
def K120_1 : C := .seq (.pl <| .st (.ext 3 14) <|
    .st (.act none (.als 3 none 1)) <|
    .st (.act none (.pget (some 4) (some 3) 1 0 none)) <|
    .st (.act none (.px (some 5) (.bin .eql (.v 4) (.c (.int .i64 0))))) <|
    .st (.act none (.px (some 6) (.mv (.v 5)))) <|
    .st (.act (some (.v 6, true)) (.als 7 none 1)) <|
    .st (.act (some (.v 6, true)) (.pget (some 8) (some 7) 1 1 none)) <|
    .st (.act (some (.v 6, true)) (.px (some 9) (.bin .eql (.v 8) (.c (.int .i64 0))))) <|
    .st (.act none (.px (some 10) (.pick (.v 6) (.v 9) (.c (.bool false))))) <|
    .st (.act none (.px (some 11) (.mv (.v 10)))) <|
    .st (.act (some (.v 11, true)) (.als 12 none 1)) <|
    .st (.act (some (.v 11, true)) (.pget (some 13) (some 12) 1 2 none)) <|
    .st (.act (some (.v 11, true)) (.px (some 14) (.lenV (.v 13)))) <|
    .st (.act (some (.v 11, true)) (.px (some 15) (.bin .eql (.v 14) (.c (.int .i64 0))))) <|
    .st (.act none (.px (some 16) (.pick (.v 11) (.v 15) (.c (.bool false))))) <|
    .st (.act none (.px (some 2) (.mv (.v 16)))) .done) (.ret)
@[simp] def W120_1 := @C.wpe _ _ K120_1.eq_1
def B_spec_l2None : C := .seq (.pl <| .st (.ext 3 0) <|
    .st (.act none (.pnew 1 (.v 0) [])) <|
    .st (.act none (.px (some 2) (.mv (.c (.bool false))))) .done) K120_1
@[simp] def WB_spec_l2None := @C.wpe _ _ B_spec_l2None.eq_1
def R_spec_l2None : FIR := ⟨B_spec_l2None, 3, [(2, none)]⟩
theorem IR_spec_l2None : cfun Tryz.prog H_spec_l2None Tryz.f120 = some R_spec_l2None := by kernel_rfl
theorem EN_spec_l2None {args : List Value} {h : Heap} {k : Value → Heap → Prop} (hargs : args.length = 1) (hw : B_spec_l2None.wp Tryz.prog (retQ [(2, none)] k) (env0 args 3) h) : CallE Tryz.prog fn_spec_l2None args h k := enter Tryz.func120 rfl IR_spec_l2None hargs hw


end Go.Proofs.YtonjglbachhdcaaGreat

/-
  Bodies of functions in the small language, as a program printed them, and that each is what the translation gives.
-/
namespace Go.Proofs.YtonjglbachhdcaaGreat
open Go
set_option linter.all false
set_option linter.defProp false
set_option maxRecDepth 1000000

def H_spec_l2Process : Hint := ⟨[(0, false), (1, true), (2, false), (3, false)], [[0, 2]]⟩
def K72_1 : C := .seq (.pl <| .st (.ext 4 14) <|
    .st (.act none (.als 4 none 1)) <|
    .st (.act none (.pget (some 5) (some 4) 1 0 none)) <|
    .st (.act none (.px (some 6) (.bin .geq (.v 5) (.c (.int .i64 1))))) <|
    .st (.act none (.px (some 7) (.mv (.v 6)))) <|
    .st (.act (some (.v 7, true)) (.als 8 none 1)) <|
    .st (.act (some (.v 7, true)) (.pget (some 9) (some 8) 1 0 none)) <|
    .st (.act (some (.v 7, true)) (.px (some 10) (.bin .leq (.v 9) (.c (.int .i64 4))))) <|
    .st (.act none (.px (some 11) (.pick (.v 7) (.v 10) (.c (.bool false))))) <|
    .st (.act none (.px (some 12) (.mv (.v 11)))) <|
    .st (.act (some (.v 12, true)) (.als 13 none 1)) <|
    .st (.act (some (.v 12, true)) (.pget (some 14) (some 13) 1 1 none)) <|
    .st (.act (some (.v 12, true)) (.px (some 15) (.lenV (.v 14)))) <|
    .st (.act (some (.v 12, true)) (.px (some 16) (.bin .leq (.v 15) (.c (.int .i64 6))))) <|
    .st (.act none (.px (some 17) (.pick (.v 12) (.v 16) (.c (.bool false))))) <|
    .st (.act none (.px (some 2) (.mv (.v 17)))) .done) (.ret)
@[simp] def W72_1 := @C.wpe _ _ K72_1.eq_1
def K72_2 : C := .pl <| .st (.ext 4 2) <|
    .st (.act none (.px (some 4) (.mv (.v 3)))) <|
    .st (.act none (.px (some 5) (.bin .add (.v 4) (.c (.int .i64 1))))) <|
    .st (.act none (.px (some 3) (.mv (.v 5)))) .done
@[simp] def W72_2 := @C.wpe _ _ K72_2.eq_1
def K72_3 : C := .seq (.pl <| .st (.ext 4 0) <|
    .st (.act none (.px (some 2) (.mv (.c (.bool false))))) .done) (.ret)
@[simp] def W72_3 := @C.wpe _ _ K72_3.eq_1
def K72_4 : C := .cond 4 (.v 12) K72_3 (.skip)
@[simp] def W72_4 := @C.wpe _ _ K72_4.eq_1
def K72_5 : Pl := .st (.act none (.px (some 12) (.un .not (.v 11)))) .done
@[simp] def W72_5 := @Pl.wpe _ _ K72_5.eq_1
def K72_6 : C := .seq (.block 1 (.seq (.pl <| .st (.ext 4 9) <|
    .st (.act none (.als 4 none 1)) <|
    .st (.act none (.pget (some 5) (some 4) 1 1 none)) <|
    .st (.act none (.px (some 6) (.mv (.v 3)))) <|
    .st (.act none (.px (some 7) (.ia 10 (.v 5) (.v 6)))) <|
    .st (.act none (.ld (some 8) (.v 7) (some 10))) <|
    .st (.act none (.als 9 none 1)) <|
    .st (.act none (.pget (some 10) (some 9) 1 0 none)) <|
    .st (.act none (.ex (some 11) (.call fn_spec_EdgeValid [.v 8, .v 10]))) K72_5) K72_4)) K72_2
@[simp] def W72_6 := @C.wpe _ _ K72_6.eq_1
def K72_7 : C := .cond 4 (.v 8) (.skip) (.exit 0)
@[simp] def W72_7 := @C.wpe _ _ K72_7.eq_1
def K72_8 : C := .seq (.seq (.pl <| .st (.ext 4 5) <|
    .st (.act none (.px (some 4) (.mv (.v 3)))) <|
    .st (.act none (.als 5 none 1)) <|
    .st (.act none (.pget (some 6) (some 5) 1 1 none)) <|
    .st (.act none (.px (some 7) (.lenV (.v 6)))) <|
    .st (.act none (.px (some 8) (.bin .lss (.v 4) (.v 7)))) .done) K72_7) K72_6
@[simp] def W72_8 := @C.wpe _ _ K72_8.eq_1
def K72_9 : C := .block 0 (.loop 4 [0, 2] K72_8)
@[simp] def W72_9 := @C.wpe _ _ K72_9.eq_1
def K72_10 : C := .seq (.seq (.pl <| .st (.ext 4 0) <|
    .st (.act none (.px (some 3) (.mv (.c (.int .i64 0))))) .done) K72_9) K72_1
@[simp] def W72_10 := @C.wpe _ _ K72_10.eq_1
def B_spec_l2Process : C := .seq (.pl <| .st (.ext 4 0) <|
    .st (.act none (.pnew 1 (.v 0) [])) <|
    .st (.act none (.px (some 2) (.mv (.c (.bool false))))) .done) K72_10
@[simp] def WB_spec_l2Process := @C.wpe _ _ B_spec_l2Process.eq_1
def R_spec_l2Process : FIR := ⟨B_spec_l2Process, 4, [(2, none)]⟩
theorem IR_spec_l2Process : cfun Tryz.prog H_spec_l2Process Tryz.f72 = some R_spec_l2Process := by kernel_rfl
theorem EN_spec_l2Process {args : List Value} {h : Heap} {k : Value → Heap → Prop} (hargs : args.length = 1) (hw : B_spec_l2Process.wp Tryz.prog (retQ [(2, none)] k) (env0 args 4) h) : CallE Tryz.prog fn_spec_l2Process args h k := enter Tryz.func72 rfl IR_spec_l2Process hargs hw

def H_spec_l2System : Hint := ⟨[(0, false), (2, true), (3, true), (4, false), (5, true), (6, false)], [[4, 5], []]⟩
def K58_1 : C := .seq (.pl <| .st (.ext 6 1) <|
    .st (.act none (.pget (some 6) none 2 0 (some 2))) <|
    .st (.act none (.pset none 1 0 2 (.v 6))) .done) (.ret)
@[simp] def W58_1 := @C.wpe _ _ K58_1.eq_1
def K58_2 : C := .pl <| .st (.ext 6 2) <|
    .st (.act none (.px (some 6) (.mv (.v 3)))) <|
    .st (.act none (.px (some 7) (.bin .sub (.v 6) (.c (.int .i64 1))))) <|
    .st (.act none (.px (some 3) (.mv (.v 7)))) .done
@[simp] def W58_2 := @C.wpe _ _ K58_2.eq_1
def K58_3 : Pl := .st (.act none (.als 11 none 2)) <|
    .st (.act none (.pset (some 11) 2 1 1 (.v 10))) .done
@[simp] def W58_3 := @Pl.wpe _ _ K58_3.eq_1
def K58_4 : C := .pl <| .st (.ext 6 6) <|
    .st (.act none (.als 6 none 2)) <|
    .st (.act none (.pget (some 7) (some 6) 2 1 none)) <|
    .st (.act none (.pget (some 8) none 4 0 (some 2))) <|
    .st (.act none (.psl 9 [.int .i64 0, .slice none 0 0] [(0, 2, .v 8)])) <|
    .st (.act none (.ex (some 10) (.app 32 2 [.int .i64 0, .slice none 0 0] (.o (.v 7)) (.p 1 9)))) K58_3
@[simp] def W58_4 := @C.wpe _ _ K58_4.eq_1
def K58_5 : C := .pl <| .st (.ext 6 2) <|
    .st (.act none (.px (some 6) (.mv (.v 5)))) <|
    .st (.act none (.px (some 7) (.bin .sub (.v 6) (.c (.int .i64 1))))) <|
    .st (.act none (.px (some 5) (.mv (.v 7)))) .done
@[simp] def W58_5 := @C.wpe _ _ K58_5.eq_1
def K58_6 : Pl := .st (.act none (.als 14 none 4)) <|
    .st (.act none (.pset (some 14) 4 1 1 (.v 13))) .done
@[simp] def W58_6 := @Pl.wpe _ _ K58_6.eq_1
def K58_7 : Pl := .st (.act none (.psl 12 [.int .i64 0, .int .i64 0, .int .i64 0, .int .i64 0, .slice none 0 0, .int .i64 0, .int .i64 0, .int .i64 0, .slice none 0 0, .int .i64 0] [(0, 10, .v 11)])) <|
    .st (.act none (.ex (some 13) (.app 112 10 [.int .i64 0, .int .i64 0, .int .i64 0, .int .i64 0, .slice none 0 0, .int .i64 0, .int .i64 0, .int .i64 0, .slice none 0 0, .int .i64 0] (.o (.v 7)) (.p 1 12)))) K58_6
@[simp] def W58_7 := @Pl.wpe _ _ K58_7.eq_1
def K58_8 : C := .seq (.block 3 (.pl <| .st (.ext 6 9) <|
    .st (.act none (.als 6 none 4)) <|
    .st (.act none (.pget (some 7) (some 6) 4 1 none)) <|
    .st (.act none (.px (some 8) (.mv (.v 0)))) <|
    .st (.act none (.als 9 none 4)) <|
    .st (.act none (.pget (some 10) (some 9) 4 0 none)) <|
    .st (.act none (.ex (some 11) (.call fn_spec_l2DrawEdge [.v 8, .v 10]))) K58_7)) K58_5
@[simp] def W58_8 := @C.wpe _ _ K58_8.eq_1
def K58_9 : C := .cond 6 (.v 7) (.skip) (.exit 2)
@[simp] def W58_9 := @C.wpe _ _ K58_9.eq_1
def K58_10 : C := .seq (.seq (.pl <| .st (.ext 6 2) <|
    .st (.act none (.px (some 6) (.mv (.v 5)))) <|
    .st (.act none (.px (some 7) (.bin .gtr (.v 6) (.c (.int .i64 0))))) .done) K58_9) K58_8
@[simp] def W58_10 := @C.wpe _ _ K58_10.eq_1
def K58_11 : C := .block 2 (.loop 6 [] K58_10)
@[simp] def W58_11 := @C.wpe _ _ K58_11.eq_1
def K58_12 : Pl := .st (.act none (.px (some 5) (.mv (.v 8)))) .done
@[simp] def W58_12 := @Pl.wpe _ _ K58_12.eq_1
def K58_13 : Pl := .st (.act none (.ex (some 8) (.call fn_spec_l16Rd_num [.v 6, .v 7]))) K58_12
@[simp] def W58_13 := @Pl.wpe _ _ K58_13.eq_1
def K58_14 : C := .seq (.seq (.pl <| .st (.ext 6 3) <|
    .st (.act none (.px (some 6) (.mv (.v 0)))) <|
    .st (.act none (.ex (some 7) (.bls 1 5 [.int .i64 0] [(0, 1, .c (.int .i64 3)), (1, 1, .c (.int .i64 4)), (2, 1, .c (.int .i64 2)), (3, 1, .c (.int .i64 5)), (4, 1, .c (.int .i64 1))]))) K58_13) K58_11) K58_4
@[simp] def W58_14 := @C.wpe _ _ K58_14.eq_1
def K58_15 : Pl := .st (.act none (.px (some 9) (.build [.int .i64 0, .slice none 0 0] [(0, 1, .v 8)]))) <|
    .st (.act none (.pnew 4 (.c (.agg #[.int .i64 0, .slice none 0 0])) [])) <|
    .st (.act none (.pset none 4 0 2 (.v 9))) .done
@[simp] def W58_15 := @Pl.wpe _ _ K58_15.eq_1
def K58_16 : Pl := .st (.act none (.ex (some 8) (.call fn_spec_l16Rd_num [.v 6, .v 7]))) K58_15
@[simp] def W58_16 := @Pl.wpe _ _ K58_16.eq_1
def K58_17 : C := .seq (.block 1 (.seq (.pl <| .st (.ext 6 4) <|
    .st (.act none (.px (some 6) (.mv (.v 0)))) <|
    .st (.act none (.ex (some 7) (.bls 1 4 [.int .i64 0] [(0, 1, .c (.int .i64 2)), (1, 1, .c (.int .i64 3)), (2, 1, .c (.int .i64 1)), (3, 1, .c (.int .i64 2))]))) K58_16) K58_14)) K58_2
@[simp] def W58_17 := @C.wpe _ _ K58_17.eq_1
def K58_18 : C := .cond 6 (.v 7) (.skip) (.exit 0)
@[simp] def W58_18 := @C.wpe _ _ K58_18.eq_1
def K58_19 : C := .seq (.seq (.pl <| .st (.ext 6 2) <|
    .st (.act none (.px (some 6) (.mv (.v 3)))) <|
    .st (.act none (.px (some 7) (.bin .gtr (.v 6) (.c (.int .i64 0))))) .done) K58_18) K58_17
@[simp] def W58_19 := @C.wpe _ _ K58_19.eq_1
def K58_20 : C := .block 0 (.loop 6 [4, 5] K58_19)
@[simp] def W58_20 := @C.wpe _ _ K58_20.eq_1
def K58_21 : Pl := .st (.act none (.px (some 3) (.mv (.v 8)))) .done
@[simp] def W58_21 := @Pl.wpe _ _ K58_21.eq_1
def K58_22 : Pl := .st (.act none (.ex (some 8) (.call fn_spec_l16Rd_num [.v 6, .v 7]))) K58_21
@[simp] def W58_22 := @Pl.wpe _ _ K58_22.eq_1
def K58_23 : C := .seq (.seq (.pl <| .st (.ext 6 3) <|
    .st (.act none (.px (some 6) (.mv (.v 0)))) <|
    .st (.act none (.ex (some 7) (.bls 1 4 [.int .i64 0] [(0, 1, .c (.int .i64 2)), (1, 1, .c (.int .i64 1)), (2, 1, .c (.int .i64 2)), (3, 1, .c (.int .i64 3))]))) K58_22) K58_20) K58_1
@[simp] def W58_23 := @C.wpe _ _ K58_23.eq_1
def K58_24 : Pl := .st (.act none (.px (some 12) (.build [.slice none 0 0, .slice none 0 0] [(0, 1, .v 11)]))) <|
    .st (.act none (.pnew 2 (.c (.agg #[.slice none 0 0, .slice none 0 0])) [])) <|
    .st (.act none (.pset none 2 0 2 (.v 12))) .done
@[simp] def W58_24 := @Pl.wpe _ _ K58_24.eq_1
def K58_25 : Pl := .st (.act none (.ex (some 11) (.bls 1 3 [.int .i64 0] [(0, 1, .v 7), (1, 1, .v 10), (2, 1, .c (.int .i64 0))]))) K58_24
@[simp] def W58_25 := @Pl.wpe _ _ K58_25.eq_1
def K58_26 : Pl := .st (.act none (.ex (some 10) (.call fn_spec_l16Rd_num [.v 8, .v 9]))) K58_25
@[simp] def W58_26 := @Pl.wpe _ _ K58_26.eq_1
def K58_27 : Pl := .st (.act none (.px (some 8) (.mv (.v 0)))) <|
    .st (.act none (.ex (some 9) (.bls 1 4 [.int .i64 0] [(0, 1, .c (.int .i64 0)), (1, 1, .c (.int .i64 0)), (2, 1, .c (.int .i64 1)), (3, 1, .c (.int .i64 3))]))) K58_26
@[simp] def W58_27 := @Pl.wpe _ _ K58_27.eq_1
def K58_28 : C := .seq (.pl <| .st (.ext 6 7) <|
    .st (.act none (.px (some 6) (.mv (.v 0)))) <|
    .st (.act none (.ex (some 7) (.call fn_spec_l16Rd_pick [.v 6, .c (.int .i64 2)]))) K58_27) K58_23
@[simp] def W58_28 := @C.wpe _ _ K58_28.eq_1
def B_spec_l2System : C := .seq (.pl <| .st (.ext 6 0) <|
    .st (.act none (.pnew 1 (.c (.agg #[.slice none 0 0, .slice none 0 0])) [])) .done) K58_28
@[simp] def WB_spec_l2System := @C.wpe _ _ B_spec_l2System.eq_1
def R_spec_l2System : FIR := ⟨B_spec_l2System, 6, [(1, some (some 2))]⟩
theorem IR_spec_l2System : cfun Tryz.prog H_spec_l2System Tryz.f58 = some R_spec_l2System := by kernel_rfl
theorem EN_spec_l2System {args : List Value} {h : Heap} {k : Value → Heap → Prop} (hargs : args.length = 1) (hw : B_spec_l2System.wp Tryz.prog (retQ [(1, some (some 2))] k) (env0 args 6) h) : CallE Tryz.prog fn_spec_l2System args h k := enter Tryz.func58 rfl IR_spec_l2System hargs hw

def H_spec_l3Apply : Hint := ⟨[(0, false), (1, false), (2, false), (3, true), (4, true), (5, true), (6, true), (7, true)], []⟩
def K39_1 : C := .seq (.pl <| .st (.ext 8 1) <|
    .st (.act none (.pget (some 8) none 7 0 (some 2))) <|
    .st (.act none (.pset none 6 0 2 (.v 8))) .done) (.ret)
@[simp] def W39_1 := @C.wpe _ _ K39_1.eq_1
def K39_2 : Pl := .st (.act none (.pset none 7 0 2 (.v 22))) .done
@[simp] def W39_2 := @Pl.wpe _ _ K39_2.eq_1
def K39_3 : C := .pl <| .st (.ext 8 15) <|
    .st (.act none (.pget (some 8) none 7 0 (some 2))) <|
    .st (.act none (.als 9 none 5)) <|
    .st (.act none (.pget (some 10) (some 9) 5 2 none)) <|
    .st (.act none (.als 11 none 3)) <|
    .st (.act none (.pget (some 12) (some 11) 3 1 none)) <|
    .st (.act none (.als 13 none 5)) <|
    .st (.act none (.pget (some 14) (some 13) 5 2 none)) <|
    .st (.act none (.px (some 15) (.ia 2 (.v 12) (.v 14)))) <|
    .st (.act none (.px (some 16) (.fa 1 (.v 15)))) <|
    .st (.act none (.ld (some 17) (.v 16) none)) <|
    .st (.act none (.als 18 none 5)) <|
    .st (.act none (.pget (some 19) (some 18) 5 3 none)) <|
    .st (.act none (.px (some 20) (.ia 10 (.v 17) (.v 19)))) <|
    .st (.act none (.ld (some 21) (.v 20) (some 10))) <|
    .st (.act none (.ex (some 22) (.call fn_spec_l3Take [.v 8, .v 10, .v 21]))) K39_2
@[simp] def W39_3 := @C.wpe _ _ K39_3.eq_1
def K39_4 : C := .cond 8 (.v 10) K39_3 (.skip)
@[simp] def W39_4 := @C.wpe _ _ K39_4.eq_1
def K39_5 : C := .seq (.seq (.pl <| .st (.ext 8 3) <|
    .st (.act none (.als 8 none 5)) <|
    .st (.act none (.pget (some 9) (some 8) 5 2 none)) <|
    .st (.act none (.px (some 10) (.bin .geq (.v 9) (.c (.int .i64 0))))) .done) K39_4) K39_1
@[simp] def W39_5 := @C.wpe _ _ K39_5.eq_1
def K39_6 : Pl := .st (.act none (.pset none 7 0 2 (.v 22))) .done
@[simp] def W39_6 := @Pl.wpe _ _ K39_6.eq_1
def K39_7 : C := .seq (.pl <| .st (.ext 8 15) <|
    .st (.act none (.pget (some 8) none 7 0 (some 2))) <|
    .st (.act none (.als 9 none 5)) <|
    .st (.act none (.pget (some 10) (some 9) 5 0 none)) <|
    .st (.act none (.als 11 none 3)) <|
    .st (.act none (.pget (some 12) (some 11) 3 1 none)) <|
    .st (.act none (.als 13 none 5)) <|
    .st (.act none (.pget (some 14) (some 13) 5 0 none)) <|
    .st (.act none (.px (some 15) (.ia 2 (.v 12) (.v 14)))) <|
    .st (.act none (.px (some 16) (.fa 1 (.v 15)))) <|
    .st (.act none (.ld (some 17) (.v 16) none)) <|
    .st (.act none (.als 18 none 5)) <|
    .st (.act none (.pget (some 19) (some 18) 5 1 none)) <|
    .st (.act none (.px (some 20) (.ia 10 (.v 17) (.v 19)))) <|
    .st (.act none (.ld (some 21) (.v 20) (some 10))) <|
    .st (.act none (.ex (some 22) (.call fn_spec_l3Take [.v 8, .v 10, .v 21]))) K39_6) K39_5
@[simp] def W39_7 := @C.wpe _ _ K39_7.eq_1
def K39_8 : Pl := .st (.act none (.px (some 16) (.build [.slice none 0 0, .slice none 0 0] [(0, 1, .v 11), (1, 1, .v 15)]))) <|
    .st (.act none (.pset none 7 0 2 (.v 16))) .done
@[simp] def W39_8 := @Pl.wpe _ _ K39_8.eq_1
def K39_9 : Pl := .st (.act none (.ex (some 15) (.app 8 1 [.int .i64 0] (.p 0 12) (.o (.v 14))))) K39_8
@[simp] def W39_9 := @Pl.wpe _ _ K39_9.eq_1
def K39_10 : C := .seq (.pl <| .st (.ext 8 9) <|
    .st (.act none (.psl 8 [] [])) <|
    .st (.act none (.als 9 none 4)) <|
    .st (.act none (.pget (some 10) (some 9) 4 0 none)) <|
    .st (.act none (.psl 12 [] [])) <|
    .st (.act none (.als 13 none 4)) <|
    .st (.act none (.pget (some 14) (some 13) 4 1 none)) <|
    .st (.act none (.pnew 7 (.c (.agg #[.slice none 0 0, .slice none 0 0])) [])) <|
    .st (.act none (.ex (some 11) (.app 8 1 [.int .i64 0] (.p 0 8) (.o (.v 10))))) K39_9) K39_7
@[simp] def W39_10 := @C.wpe _ _ K39_10.eq_1
def B_spec_l3Apply : C := .seq (.pl <| .st (.ext 8 0) <|
    .st (.act none (.pnew 3 (.v 0) [])) <|
    .st (.act none (.pnew 4 (.v 1) [])) <|
    .st (.act none (.pnew 5 (.v 2) [])) <|
    .st (.act none (.pnew 6 (.c (.agg #[.slice none 0 0, .slice none 0 0])) [])) .done) K39_10
@[simp] def WB_spec_l3Apply := @C.wpe _ _ B_spec_l3Apply.eq_1
def R_spec_l3Apply : FIR := ⟨B_spec_l3Apply, 8, [(6, some (some 2))]⟩
theorem IR_spec_l3Apply : cfun Tryz.prog H_spec_l3Apply Tryz.f39 = some R_spec_l3Apply := by kernel_rfl
theorem EN_spec_l3Apply {args : List Value} {h : Heap} {k : Value → Heap → Prop} (hargs : args.length = 3) (hw : B_spec_l3Apply.wp Tryz.prog (retQ [(6, some (some 2))] k) (env0 args 8) h) : CallE Tryz.prog fn_spec_l3Apply args h k := enter Tryz.func39 rfl IR_spec_l3Apply hargs hw

def H_spec_l3Partners : Hint := ⟨[(0, false), (1, false), (2, false), (3, false), (4, true), (5, true), (8, false), (9, false), (10, false), (11, false), (12, false)], [[0, 1, 6, 10], [0, 1, 6]]⟩
def K88_1 : C := .seq (.pl <| .st (.ext 11 1) <|
    .st (.act none (.px (some 11) (.mv (.v 7)))) <|
    .st (.act none (.px (some 6) (.mv (.v 11)))) .done) (.ret)
@[simp] def W88_1 := @C.wpe _ _ K88_1.eq_1
def K88_2 : C := .pl <| .st (.ext 11 2) <|
    .st (.act none (.px (some 11) (.mv (.v 9)))) <|
    .st (.act none (.px (some 12) (.bin .add (.v 11) (.c (.int .i64 1))))) <|
    .st (.act none (.px (some 9) (.mv (.v 12)))) .done
@[simp] def W88_2 := @C.wpe _ _ K88_2.eq_1
def K88_3 : C := .pl <| .st (.ext 11 2) <|
    .st (.act none (.px (some 11) (.mv (.v 10)))) <|
    .st (.act none (.px (some 12) (.bin .add (.v 11) (.c (.int .i64 1))))) <|
    .st (.act none (.px (some 10) (.mv (.v 12)))) .done
@[simp] def W88_3 := @C.wpe _ _ K88_3.eq_1
def K88_4 : Pl := .st (.act none (.px (some 7) (.mv (.v 18)))) .done
@[simp] def W88_4 := @Pl.wpe _ _ K88_4.eq_1
def K88_5 : C := .pl <| .st (.ext 11 8) <|
    .st (.act none (.px (some 11) (.mv (.v 7)))) <|
    .st (.act none (.px (some 12) (.mv (.v 2)))) <|
    .st (.act none (.px (some 13) (.mv (.v 3)))) <|
    .st (.act none (.px (some 14) (.mv (.v 9)))) <|
    .st (.act none (.px (some 15) (.mv (.v 10)))) <|
    .st (.act none (.px (some 16) (.build [.int .i64 0, .int .i64 0, .int .i64 0, .int .i64 0] [(0, 1, .v 12), (1, 1, .v 13), (2, 1, .v 14), (3, 1, .v 15)]))) <|
    .st (.act none (.psl 17 [.int .i64 0, .int .i64 0, .int .i64 0, .int .i64 0] [(0, 4, .v 16)])) <|
    .st (.act none (.ex (some 18) (.app 32 4 [.int .i64 0, .int .i64 0, .int .i64 0, .int .i64 0] (.o (.v 11)) (.p 1 17)))) K88_4
@[simp] def W88_5 := @C.wpe _ _ K88_5.eq_1
def K88_6 : C := .cond 11 (.v 35) K88_5 (.skip)
@[simp] def W88_6 := @C.wpe _ _ K88_6.eq_1
def K88_7 : Pl := .st (.act none (.px (some 35) (.pick (.v 29) (.v 34) (.c (.bool false))))) .done
@[simp] def W88_7 := @Pl.wpe _ _ K88_7.eq_1
def K88_8 : C := .seq (.block 3 (.seq (.pl <| .st (.ext 11 25) <|
    .st (.act none (.px (some 11) (.mv (.v 9)))) <|
    .st (.act none (.px (some 12) (.mv (.v 2)))) <|
    .st (.act none (.px (some 13) (.bin .neq (.v 11) (.v 12)))) <|
    .st (.act none (.px (some 14) (.mv (.v 13)))) <|
    .st (.act (some (.v 14, true)) (.als 15 none 4)) <|
    .st (.act (some (.v 14, true)) (.pget (some 16) (some 15) 4 1 none)) <|
    .st (.act (some (.v 14, true)) (.px (some 17) (.mv (.v 9)))) <|
    .st (.act (some (.v 14, true)) (.px (some 18) (.ia 2 (.v 16) (.v 17)))) <|
    .st (.act (some (.v 14, true)) (.px (some 19) (.fa 1 (.v 18)))) <|
    .st (.act (some (.v 14, true)) (.ld (some 20) (.v 19) none)) <|
    .st (.act (some (.v 14, true)) (.px (some 21) (.mv (.v 10)))) <|
    .st (.act (some (.v 14, true)) (.px (some 22) (.ia 10 (.v 20) (.v 21)))) <|
    .st (.act (some (.v 14, true)) (.px (some 23) (.fa 9 (.v 22)))) <|
    .st (.act (some (.v 14, true)) (.ld (some 24) (.v 23) none)) <|
    .st (.act (some (.v 14, true)) (.px (some 25) (.mv (.v 8)))) <|
    .st (.act (some (.v 14, true)) (.px (some 26) (.un .neg (.v 25)))) <|
    .st (.act (some (.v 14, true)) (.px (some 27) (.bin .eql (.v 24) (.v 26)))) <|
    .st (.act none (.px (some 28) (.pick (.v 14) (.v 27) (.c (.bool false))))) <|
    .st (.act none (.px (some 29) (.mv (.v 28)))) <|
    .st (.act (some (.v 29, true)) (.pget (some 30) none 4 0 (some 2))) <|
    .st (.act (some (.v 29, true)) (.pget (some 31) none 5 0 (some 2))) <|
    .st (.act (some (.v 29, true)) (.px (some 32) (.mv (.v 9)))) <|
    .st (.act (some (.v 29, true)) (.px (some 33) (.mv (.v 10)))) <|
    .st (.act (some (.v 29, true)) (.ex (some 34) (.call fn_spec_l3Ready [.v 30, .v 31, .v 32, .v 33]))) K88_7) K88_6)) K88_3
@[simp] def W88_8 := @C.wpe _ _ K88_8.eq_1
def K88_9 : C := .cond 11 (.v 19) (.skip) (.exit 2)
@[simp] def W88_9 := @C.wpe _ _ K88_9.eq_1
def K88_10 : C := .seq (.seq (.pl <| .st (.ext 11 9) <|
    .st (.act none (.px (some 11) (.mv (.v 10)))) <|
    .st (.act none (.als 12 none 4)) <|
    .st (.act none (.pget (some 13) (some 12) 4 1 none)) <|
    .st (.act none (.px (some 14) (.mv (.v 9)))) <|
    .st (.act none (.px (some 15) (.ia 2 (.v 13) (.v 14)))) <|
    .st (.act none (.px (some 16) (.fa 1 (.v 15)))) <|
    .st (.act none (.ld (some 17) (.v 16) none)) <|
    .st (.act none (.px (some 18) (.lenV (.v 17)))) <|
    .st (.act none (.px (some 19) (.bin .lss (.v 11) (.v 18)))) .done) K88_9) K88_8
@[simp] def W88_10 := @C.wpe _ _ K88_10.eq_1
def K88_11 : C := .block 2 (.loop 11 [0, 1, 6] K88_10)
@[simp] def W88_11 := @C.wpe _ _ K88_11.eq_1
def K88_12 : C := .seq (.block 1 (.seq (.pl <| .st (.ext 11 0) <|
    .st (.act none (.px (some 10) (.mv (.c (.int .i64 0))))) .done) K88_11)) K88_2
@[simp] def W88_12 := @C.wpe _ _ K88_12.eq_1
def K88_13 : C := .cond 11 (.v 15) (.skip) (.exit 0)
@[simp] def W88_13 := @C.wpe _ _ K88_13.eq_1
def K88_14 : C := .seq (.seq (.pl <| .st (.ext 11 5) <|
    .st (.act none (.px (some 11) (.mv (.v 9)))) <|
    .st (.act none (.als 12 none 4)) <|
    .st (.act none (.pget (some 13) (some 12) 4 1 none)) <|
    .st (.act none (.px (some 14) (.lenV (.v 13)))) <|
    .st (.act none (.px (some 15) (.bin .lss (.v 11) (.v 14)))) .done) K88_13) K88_12
@[simp] def W88_14 := @C.wpe _ _ K88_14.eq_1
def K88_15 : C := .block 0 (.loop 11 [0, 1, 6, 10] K88_14)
@[simp] def W88_15 := @C.wpe _ _ K88_15.eq_1
def K88_16 : C := .seq (.seq (.pl <| .st (.ext 11 0) <|
    .st (.act none (.px (some 9) (.mv (.c (.int .i64 0))))) .done) K88_15) K88_1
@[simp] def W88_16 := @C.wpe _ _ K88_16.eq_1
def K88_17 : C := .seq (.pl <| .st (.ext 11 10) <|
    .st (.act none (.als 11 none 4)) <|
    .st (.act none (.pget (some 12) (some 11) 4 1 none)) <|
    .st (.act none (.px (some 13) (.mv (.v 2)))) <|
    .st (.act none (.px (some 14) (.ia 2 (.v 12) (.v 13)))) <|
    .st (.act none (.px (some 15) (.fa 1 (.v 14)))) <|
    .st (.act none (.ld (some 16) (.v 15) none)) <|
    .st (.act none (.px (some 17) (.mv (.v 3)))) <|
    .st (.act none (.px (some 18) (.ia 10 (.v 16) (.v 17)))) <|
    .st (.act none (.px (some 19) (.fa 9 (.v 18)))) <|
    .st (.act none (.ld (some 20) (.v 19) none)) <|
    .st (.act none (.px (some 8) (.mv (.v 20)))) .done) K88_16
@[simp] def W88_17 := @C.wpe _ _ K88_17.eq_1
def K88_18 : Pl := .st (.act none (.px (some 7) (.mv (.v 11)))) .done
@[simp] def W88_18 := @Pl.wpe _ _ K88_18.eq_1
def K88_19 : C := .seq (.pl <| .st (.ext 11 1) <|
    .st (.act none (.ex (some 11) (.bls 4 0 [.int .i64 0, .int .i64 0, .int .i64 0, .int .i64 0] []))) K88_18) K88_17
@[simp] def W88_19 := @C.wpe _ _ K88_19.eq_1
def B_spec_l3Partners : C := .seq (.pl <| .st (.ext 11 0) <|
    .st (.act none (.pnew 4 (.v 0) [])) <|
    .st (.act none (.pnew 5 (.v 1) [])) <|
    .st (.act none (.px (some 6) (.mv (.c (.slice none 0 0))))) .done) K88_19
@[simp] def WB_spec_l3Partners := @C.wpe _ _ B_spec_l3Partners.eq_1
def R_spec_l3Partners : FIR := ⟨B_spec_l3Partners, 11, [(6, none)]⟩
theorem IR_spec_l3Partners : cfun Tryz.prog H_spec_l3Partners Tryz.f88 = some R_spec_l3Partners := by kernel_rfl
theorem EN_spec_l3Partners {args : List Value} {h : Heap} {k : Value → Heap → Prop} (hargs : args.length = 4) (hw : B_spec_l3Partners.wp Tryz.prog (retQ [(6, none)] k) (env0 args 11) h) : CallE Tryz.prog fn_spec_l3Partners args h k := enter Tryz.func88 rfl IR_spec_l3Partners hargs hw

def H_spec_l3Ready : Hint := ⟨[(0, false), (1, false), (2, false), (3, false), (4, true), (5, true), (8, false), (9, true)], []⟩
def K87_1 : Pl := .st (.act (some (.v 16, true)) (.px (some 22) (.bin .neq (.v 21) (.c (.int .i64 0))))) <|
    .st (.act none (.px (some 23) (.pick (.v 16) (.v 22) (.c (.bool false))))) <|
    .st (.act none (.px (some 6) (.mv (.v 23)))) .done
@[simp] def W87_1 := @Pl.wpe _ _ K87_1.eq_1
def K87_2 : C := .seq (.pl <| .st (.ext 8 16) <|
    .st (.act none (.als 8 none 7)) <|
    .st (.act none (.pget (some 9) (some 8) 7 0 none)) <|
    .st (.act none (.als 10 none 5)) <|
    .st (.act none (.pget (some 11) (some 10) 5 0 none)) <|
    .st (.act none (.px (some 12) (.mv (.v 2)))) <|
    .st (.act none (.px (some 13) (.ia 1 (.v 11) (.v 12)))) <|
    .st (.act none (.ld (some 14) (.v 13) none)) <|
    .st (.act none (.px (some 15) (.bin .eql (.v 9) (.v 14)))) <|
    .st (.act none (.px (some 16) (.mv (.v 15)))) <|
    .st (.act (some (.v 16, true)) (.als 17 none 7)) <|
    .st (.act (some (.v 16, true)) (.pget (some 18) (some 17) 7 2 (some 3))) <|
    .st (.act (some (.v 16, true)) (.als 19 none 5)) <|
    .st (.act (some (.v 16, true)) (.pget (some 20) (some 19) 5 1 none)) <|
    .st (.act (some (.v 16, true)) (.ex (some 21) (.call fn_spec_l1Eval [.v 18, .v 20]))) K87_1) (.ret)
@[simp] def W87_2 := @C.wpe _ _ K87_2.eq_1
def K87_3 : C := .seq (.pl <| .st (.ext 8 9) <|
    .st (.act none (.als 8 none 4)) <|
    .st (.act none (.pget (some 9) (some 8) 4 1 none)) <|
    .st (.act none (.px (some 10) (.mv (.v 2)))) <|
    .st (.act none (.px (some 11) (.ia 2 (.v 9) (.v 10)))) <|
    .st (.act none (.px (some 12) (.fa 1 (.v 11)))) <|
    .st (.act none (.ld (some 13) (.v 12) none)) <|
    .st (.act none (.px (some 14) (.mv (.v 3)))) <|
    .st (.act none (.px (some 15) (.ia 10 (.v 13) (.v 14)))) <|
    .st (.act none (.ld (some 16) (.v 15) (some 10))) <|
    .st (.act none (.pnew 7 (.c (.agg #[.int .i64 0, .int .i64 0, .int .i64 0, .int .i64 0, .slice none 0 0, .int .i64 0, .int .i64 0, .int .i64 0, .slice none 0 0, .int .i64 0])) [])) <|
    .st (.act none (.pset none 7 0 10 (.v 16))) .done) K87_2
@[simp] def W87_3 := @C.wpe _ _ K87_3.eq_1
def B_spec_l3Ready : C := .seq (.pl <| .st (.ext 8 0) <|
    .st (.act none (.pnew 4 (.v 0) [])) <|
    .st (.act none (.pnew 5 (.v 1) [])) <|
    .st (.act none (.px (some 6) (.mv (.c (.bool false))))) .done) K87_3
@[simp] def WB_spec_l3Ready := @C.wpe _ _ B_spec_l3Ready.eq_1
def R_spec_l3Ready : FIR := ⟨B_spec_l3Ready, 8, [(6, none)]⟩
theorem IR_spec_l3Ready : cfun Tryz.prog H_spec_l3Ready Tryz.f87 = some R_spec_l3Ready := by kernel_rfl
theorem EN_spec_l3Ready {args : List Value} {h : Heap} {k : Value → Heap → Prop} (hargs : args.length = 4) (hw : B_spec_l3Ready.wp Tryz.prog (retQ [(6, none)] k) (env0 args 8) h) : CallE Tryz.prog fn_spec_l3Ready args h k := enter Tryz.func87 rfl IR_spec_l3Ready hargs hw

def H_spec_l3Steps : Hint := ⟨[(0, false), (1, false), (2, true), (3, true), (4, false), (5, false), (6, false), (7, false), (8, false)], [[0, 1, 4, 7, 8], [0, 1, 4, 8]]⟩
def K38_1 : C := .seq (.pl <| .st (.ext 9 1) <|
    .st (.act none (.px (some 9) (.mv (.v 5)))) <|
    .st (.act none (.px (some 4) (.mv (.v 9)))) .done) (.ret)
@[simp] def W38_1 := @C.wpe _ _ K38_1.eq_1
def K38_2 : C := .pl <| .st (.ext 9 2) <|
    .st (.act none (.px (some 9) (.mv (.v 6)))) <|
    .st (.act none (.px (some 10) (.bin .add (.v 9) (.c (.int .i64 1))))) <|
    .st (.act none (.px (some 6) (.mv (.v 10)))) .done
@[simp] def W38_2 := @C.wpe _ _ K38_2.eq_1
def K38_3 : C := .pl <| .st (.ext 9 2) <|
    .st (.act none (.px (some 9) (.mv (.v 7)))) <|
    .st (.act none (.px (some 10) (.bin .add (.v 9) (.c (.int .i64 1))))) <|
    .st (.act none (.px (some 7) (.mv (.v 10)))) .done
@[simp] def W38_3 := @C.wpe _ _ K38_3.eq_1
def K38_4 : Pl := .st (.act none (.px (some 5) (.mv (.v 14)))) .done
@[simp] def W38_4 := @Pl.wpe _ _ K38_4.eq_1
def K38_5 : C := .pl <| .st (.ext 9 6) <|
    .st (.act none (.px (some 9) (.mv (.v 5)))) <|
    .st (.act none (.px (some 10) (.mv (.v 6)))) <|
    .st (.act none (.px (some 11) (.mv (.v 7)))) <|
    .st (.act none (.px (some 12) (.build [.int .i64 0, .int .i64 0, .int .i64 0, .int .i64 0] [(0, 1, .v 10), (1, 1, .v 11), (2, 1, .c (.int .i64 (-1))), (3, 1, .c (.int .i64 (-1)))]))) <|
    .st (.act none (.psl 13 [.int .i64 0, .int .i64 0, .int .i64 0, .int .i64 0] [(0, 4, .v 12)])) <|
    .st (.act none (.ex (some 14) (.app 32 4 [.int .i64 0, .int .i64 0, .int .i64 0, .int .i64 0] (.o (.v 9)) (.p 1 13)))) K38_4
@[simp] def W38_5 := @C.wpe _ _ K38_5.eq_1
def K38_6 : Pl := .st (.act none (.px (some 5) (.mv (.v 15)))) .done
@[simp] def W38_6 := @Pl.wpe _ _ K38_6.eq_1
def K38_7 : Pl := .st (.act none (.ex (some 15) (.app 32 4 [.int .i64 0, .int .i64 0, .int .i64 0, .int .i64 0] (.o (.v 9)) (.o (.v 14))))) K38_6
@[simp] def W38_7 := @Pl.wpe _ _ K38_7.eq_1
def K38_8 : C := .pl <| .st (.ext 9 7) <|
    .st (.act none (.px (some 9) (.mv (.v 5)))) <|
    .st (.act none (.pget (some 10) none 2 0 (some 2))) <|
    .st (.act none (.pget (some 11) none 3 0 (some 2))) <|
    .st (.act none (.px (some 12) (.mv (.v 6)))) <|
    .st (.act none (.px (some 13) (.mv (.v 7)))) <|
    .st (.act none (.ex (some 14) (.call fn_spec_l3Partners [.v 10, .v 11, .v 12, .v 13]))) K38_7
@[simp] def W38_8 := @C.wpe _ _ K38_8.eq_1
def K38_9 : C := .cond 9 (.v 10) K38_5 K38_8
@[simp] def W38_9 := @C.wpe _ _ K38_9.eq_1
def K38_10 : C := .seq (.pl <| .st (.ext 9 2) <|
    .st (.act none (.px (some 9) (.mv (.v 8)))) <|
    .st (.act none (.px (some 10) (.bin .eql (.v 9) (.c (.int .i64 0))))) .done) K38_9
@[simp] def W38_10 := @C.wpe _ _ K38_10.eq_1
def K38_11 : C := .cond 9 (.v 18) (.exit 3) (.skip)
@[simp] def W38_11 := @C.wpe _ _ K38_11.eq_1
def K38_12 : Pl := .st (.act (some (.v 11, false)) (.px (some 17) (.un .not (.v 16)))) <|
    .st (.act none (.px (some 18) (.pick (.v 11) (.c (.bool true)) (.v 17)))) .done
@[simp] def W38_12 := @Pl.wpe _ _ K38_12.eq_1
def K38_13 : C := .seq (.seq (.pl <| .st (.ext 9 10) <|
    .st (.act none (.px (some 9) (.mv (.v 8)))) <|
    .st (.act none (.px (some 10) (.bin .lss (.v 9) (.c (.int .i64 0))))) <|
    .st (.act none (.px (some 11) (.mv (.v 10)))) <|
    .st (.act (some (.v 11, false)) (.pget (some 12) none 2 0 (some 2))) <|
    .st (.act (some (.v 11, false)) (.pget (some 13) none 3 0 (some 2))) <|
    .st (.act (some (.v 11, false)) (.px (some 14) (.mv (.v 6)))) <|
    .st (.act (some (.v 11, false)) (.px (some 15) (.mv (.v 7)))) <|
    .st (.act (some (.v 11, false)) (.ex (some 16) (.call fn_spec_l3Ready [.v 12, .v 13, .v 14, .v 15]))) K38_12) K38_11) K38_10
@[simp] def W38_13 := @C.wpe _ _ K38_13.eq_1
def K38_14 : C := .seq (.block 3 (.seq (.pl <| .st (.ext 9 10) <|
    .st (.act none (.als 9 none 2)) <|
    .st (.act none (.pget (some 10) (some 9) 2 1 none)) <|
    .st (.act none (.px (some 11) (.mv (.v 6)))) <|
    .st (.act none (.px (some 12) (.ia 2 (.v 10) (.v 11)))) <|
    .st (.act none (.px (some 13) (.fa 1 (.v 12)))) <|
    .st (.act none (.ld (some 14) (.v 13) none)) <|
    .st (.act none (.px (some 15) (.mv (.v 7)))) <|
    .st (.act none (.px (some 16) (.ia 10 (.v 14) (.v 15)))) <|
    .st (.act none (.px (some 17) (.fa 9 (.v 16)))) <|
    .st (.act none (.ld (some 18) (.v 17) none)) <|
    .st (.act none (.px (some 8) (.mv (.v 18)))) .done) K38_13)) K38_3
@[simp] def W38_14 := @C.wpe _ _ K38_14.eq_1
def K38_15 : C := .cond 9 (.v 17) (.skip) (.exit 2)
@[simp] def W38_15 := @C.wpe _ _ K38_15.eq_1
def K38_16 : C := .seq (.seq (.pl <| .st (.ext 9 9) <|
    .st (.act none (.px (some 9) (.mv (.v 7)))) <|
    .st (.act none (.als 10 none 2)) <|
    .st (.act none (.pget (some 11) (some 10) 2 1 none)) <|
    .st (.act none (.px (some 12) (.mv (.v 6)))) <|
    .st (.act none (.px (some 13) (.ia 2 (.v 11) (.v 12)))) <|
    .st (.act none (.px (some 14) (.fa 1 (.v 13)))) <|
    .st (.act none (.ld (some 15) (.v 14) none)) <|
    .st (.act none (.px (some 16) (.lenV (.v 15)))) <|
    .st (.act none (.px (some 17) (.bin .lss (.v 9) (.v 16)))) .done) K38_15) K38_14
@[simp] def W38_16 := @C.wpe _ _ K38_16.eq_1
def K38_17 : C := .block 2 (.loop 9 [0, 1, 4, 8] K38_16)
@[simp] def W38_17 := @C.wpe _ _ K38_17.eq_1
def K38_18 : C := .seq (.block 1 (.seq (.pl <| .st (.ext 9 0) <|
    .st (.act none (.px (some 7) (.mv (.c (.int .i64 0))))) .done) K38_17)) K38_2
@[simp] def W38_18 := @C.wpe _ _ K38_18.eq_1
def K38_19 : C := .cond 9 (.v 13) (.skip) (.exit 0)
@[simp] def W38_19 := @C.wpe _ _ K38_19.eq_1
def K38_20 : C := .seq (.seq (.pl <| .st (.ext 9 5) <|
    .st (.act none (.px (some 9) (.mv (.v 6)))) <|
    .st (.act none (.als 10 none 2)) <|
    .st (.act none (.pget (some 11) (some 10) 2 1 none)) <|
    .st (.act none (.px (some 12) (.lenV (.v 11)))) <|
    .st (.act none (.px (some 13) (.bin .lss (.v 9) (.v 12)))) .done) K38_19) K38_18
@[simp] def W38_20 := @C.wpe _ _ K38_20.eq_1
def K38_21 : C := .block 0 (.loop 9 [0, 1, 4, 7, 8] K38_20)
@[simp] def W38_21 := @C.wpe _ _ K38_21.eq_1
def K38_22 : C := .seq (.seq (.pl <| .st (.ext 9 0) <|
    .st (.act none (.px (some 6) (.mv (.c (.int .i64 0))))) .done) K38_21) K38_1
@[simp] def W38_22 := @C.wpe _ _ K38_22.eq_1
def K38_23 : Pl := .st (.act none (.px (some 5) (.mv (.v 9)))) .done
@[simp] def W38_23 := @Pl.wpe _ _ K38_23.eq_1
def K38_24 : C := .seq (.pl <| .st (.ext 9 1) <|
    .st (.act none (.ex (some 9) (.bls 4 0 [.int .i64 0, .int .i64 0, .int .i64 0, .int .i64 0] []))) K38_23) K38_22
@[simp] def W38_24 := @C.wpe _ _ K38_24.eq_1
def B_spec_l3Steps : C := .seq (.pl <| .st (.ext 9 0) <|
    .st (.act none (.pnew 2 (.v 0) [])) <|
    .st (.act none (.pnew 3 (.v 1) [])) <|
    .st (.act none (.px (some 4) (.mv (.c (.slice none 0 0))))) .done) K38_24
@[simp] def WB_spec_l3Steps := @C.wpe _ _ B_spec_l3Steps.eq_1
def R_spec_l3Steps : FIR := ⟨B_spec_l3Steps, 9, [(4, none)]⟩
theorem IR_spec_l3Steps : cfun Tryz.prog H_spec_l3Steps Tryz.f38 = some R_spec_l3Steps := by kernel_rfl
theorem EN_spec_l3Steps {args : List Value} {h : Heap} {k : Value → Heap → Prop} (hargs : args.length = 2) (hw : B_spec_l3Steps.wp Tryz.prog (retQ [(4, none)] k) (env0 args 9) h) : CallE Tryz.prog fn_spec_l3Steps args h k := enter Tryz.func38 rfl IR_spec_l3Steps hargs hw

def H_spec_l3Take : Hint := ⟨[(0, false), (1, false), (2, false), (3, true), (5, true), (6, true)], []⟩
def K89_1 : C := .seq (.pl <| .st (.ext 6 1) <|
    .st (.act none (.pget (some 6) none 3 0 (some 2))) <|
    .st (.act none (.pset none 5 0 2 (.v 6))) .done) (.ret)
@[simp] def W89_1 := @C.wpe _ _ K89_1.eq_1
def K89_2 : Pl := .st (.act none (.px (some 15) (.ia 1 (.v 7) (.v 9)))) <|
    .st (.act none (.ex none (.store 1 (.v 15) (.v 14)))) .done
@[simp] def W89_2 := @Pl.wpe _ _ K89_2.eq_1
def K89_3 : C := .pl <| .st (.ext 6 10) <|
    .st (.act none (.als 6 none 3)) <|
    .st (.act none (.pget (some 7) (some 6) 3 1 none)) <|
    .st (.act none (.als 8 none 4)) <|
    .st (.act none (.pget (some 9) (some 8) 4 5 none)) <|
    .st (.act none (.als 10 none 4)) <|
    .st (.act none (.pget (some 11) (some 10) 4 6 (some 3))) <|
    .st (.act none (.als 12 none 3)) <|
    .st (.act none (.pget (some 13) (some 12) 3 1 none)) <|
    .st (.act none (.ex (some 14) (.call fn_spec_l1Eval [.v 11, .v 13]))) K89_2
@[simp] def W89_3 := @C.wpe _ _ K89_3.eq_1
def K89_4 : C := .cond 6 (.v 8) K89_3 (.skip)
@[simp] def W89_4 := @C.wpe _ _ K89_4.eq_1
def K89_5 : C := .seq (.seq (.pl <| .st (.ext 6 3) <|
    .st (.act none (.als 6 none 4)) <|
    .st (.act none (.pget (some 7) (some 6) 4 5 none)) <|
    .st (.act none (.px (some 8) (.bin .geq (.v 7) (.c (.int .i64 0))))) .done) K89_4) K89_1
@[simp] def W89_5 := @C.wpe _ _ K89_5.eq_1
def K89_6 : C := .seq (.pl <| .st (.ext 6 6) <|
    .st (.act none (.als 6 none 3)) <|
    .st (.act none (.pget (some 7) (some 6) 3 0 none)) <|
    .st (.act none (.px (some 8) (.mv (.v 1)))) <|
    .st (.act none (.als 9 none 4)) <|
    .st (.act none (.pget (some 10) (some 9) 4 1 none)) <|
    .st (.act none (.px (some 11) (.ia 1 (.v 7) (.v 8)))) <|
    .st (.act none (.ex none (.store 1 (.v 11) (.v 10)))) .done) K89_5
@[simp] def W89_6 := @C.wpe _ _ K89_6.eq_1
def B_spec_l3Take : C := .seq (.pl <| .st (.ext 6 0) <|
    .st (.act none (.pnew 3 (.v 0) [])) <|
    .st (.act none (.pnew 4 (.v 2) [])) <|
    .st (.act none (.pnew 5 (.c (.agg #[.slice none 0 0, .slice none 0 0])) [])) .done) K89_6
@[simp] def WB_spec_l3Take := @C.wpe _ _ B_spec_l3Take.eq_1
def R_spec_l3Take : FIR := ⟨B_spec_l3Take, 6, [(5, some (some 2))]⟩
theorem IR_spec_l3Take : cfun Tryz.prog H_spec_l3Take Tryz.f89 = some R_spec_l3Take := by kernel_rfl
theorem EN_spec_l3Take {args : List Value} {h : Heap} {k : Value → Heap → Prop} (hargs : args.length = 3) (hw : B_spec_l3Take.wp Tryz.prog (retQ [(5, some (some 2))] k) (env0 args 6) h) : CallE Tryz.prog fn_spec_l3Take args h k := enter Tryz.func89 rfl IR_spec_l3Take hargs hw

def H_spec_l4Find : Hint := ⟨[(0, false), (1, false), (3, true), (4, false), (5, false)], [[1, 3]]⟩
def K40_1 : C := .seq (.pl <| .st (.ext 5 0) <|
    .st (.act none (.px (some 3) (.mv (.c (.int .i64 (-1)))))) .done) (.ret)
@[simp] def W40_1 := @C.wpe _ _ K40_1.eq_1
def K40_2 : C := .pl <| .st (.ext 5 2) <|
    .st (.act none (.px (some 5) (.mv (.v 4)))) <|
    .st (.act none (.px (some 6) (.bin .add (.v 5) (.c (.int .i64 1))))) <|
    .st (.act none (.px (some 4) (.mv (.v 6)))) .done
@[simp] def W40_2 := @C.wpe _ _ K40_2.eq_1
def K40_3 : C := .seq (.pl <| .st (.ext 5 1) <|
    .st (.act none (.px (some 5) (.mv (.v 4)))) <|
    .st (.act none (.px (some 3) (.mv (.v 5)))) .done) (.ret)
@[simp] def W40_3 := @C.wpe _ _ K40_3.eq_1
def K40_4 : C := .cond 5 (.v 10) K40_3 (.skip)
@[simp] def W40_4 := @C.wpe _ _ K40_4.eq_1
def K40_5 : C := .seq (.block 1 (.seq (.pl <| .st (.ext 5 6) <|
    .st (.act none (.px (some 5) (.mv (.v 0)))) <|
    .st (.act none (.px (some 6) (.mv (.v 4)))) <|
    .st (.act none (.px (some 7) (.ia 2 (.v 5) (.v 6)))) <|
    .st (.act none (.ld (some 8) (.v 7) (some 2))) <|
    .st (.act none (.pget (some 9) none 2 0 (some 2))) <|
    .st (.act none (.ex (some 10) (.call fn_spec_StateSame [.v 8, .v 9]))) .done) K40_4)) K40_2
@[simp] def W40_5 := @C.wpe _ _ K40_5.eq_1
def K40_6 : C := .cond 5 (.v 8) (.skip) (.exit 0)
@[simp] def W40_6 := @C.wpe _ _ K40_6.eq_1
def K40_7 : C := .seq (.seq (.pl <| .st (.ext 5 4) <|
    .st (.act none (.px (some 5) (.mv (.v 4)))) <|
    .st (.act none (.px (some 6) (.mv (.v 0)))) <|
    .st (.act none (.px (some 7) (.lenV (.v 6)))) <|
    .st (.act none (.px (some 8) (.bin .lss (.v 5) (.v 7)))) .done) K40_6) K40_5
@[simp] def W40_7 := @C.wpe _ _ K40_7.eq_1
def K40_8 : C := .block 0 (.loop 5 [1, 3] K40_7)
@[simp] def W40_8 := @C.wpe _ _ K40_8.eq_1
def K40_9 : C := .seq (.seq (.pl <| .st (.ext 5 0) <|
    .st (.act none (.px (some 4) (.mv (.c (.int .i64 0))))) .done) K40_8) K40_1
@[simp] def W40_9 := @C.wpe _ _ K40_9.eq_1
def B_spec_l4Find : C := .seq (.pl <| .st (.ext 5 0) <|
    .st (.act none (.pnew 2 (.v 1) [])) <|
    .st (.act none (.px (some 3) (.mv (.c (.int .i64 0))))) .done) K40_9
@[simp] def WB_spec_l4Find := @C.wpe _ _ B_spec_l4Find.eq_1
def R_spec_l4Find : FIR := ⟨B_spec_l4Find, 5, [(3, none)]⟩
theorem IR_spec_l4Find : cfun Tryz.prog H_spec_l4Find Tryz.f40 = some R_spec_l4Find := by kernel_rfl
theorem EN_spec_l4Find {args : List Value} {h : Heap} {k : Value → Heap → Prop} (hargs : args.length = 2) (hw : B_spec_l4Find.wp Tryz.prog (retQ [(3, none)] k) (env0 args 5) h) : CallE Tryz.prog fn_spec_l4Find args h k := enter Tryz.func40 rfl IR_spec_l4Find hargs hw

def H_spec_l4In : Hint := ⟨[(0, false), (1, false), (4, false), (5, false)], [[2]]⟩
def K41_1 : C := .seq (.pl <| .st (.ext 4 0) <|
    .st (.act none (.px (some 2) (.mv (.c (.bool false))))) .done) (.ret)
@[simp] def W41_1 := @C.wpe _ _ K41_1.eq_1
def K41_2 : C := .pl <| .st (.ext 4 2) <|
    .st (.act none (.px (some 4) (.mv (.v 3)))) <|
    .st (.act none (.px (some 5) (.bin .add (.v 4) (.c (.int .i64 1))))) <|
    .st (.act none (.px (some 3) (.mv (.v 5)))) .done
@[simp] def W41_2 := @C.wpe _ _ K41_2.eq_1
def K41_3 : C := .seq (.pl <| .st (.ext 4 0) <|
    .st (.act none (.px (some 2) (.mv (.c (.bool true))))) .done) (.ret)
@[simp] def W41_3 := @C.wpe _ _ K41_3.eq_1
def K41_4 : C := .cond 4 (.v 9) K41_3 (.skip)
@[simp] def W41_4 := @C.wpe _ _ K41_4.eq_1
def K41_5 : C := .seq (.block 1 (.seq (.pl <| .st (.ext 4 6) <|
    .st (.act none (.px (some 4) (.mv (.v 0)))) <|
    .st (.act none (.px (some 5) (.mv (.v 3)))) <|
    .st (.act none (.px (some 6) (.ia 1 (.v 4) (.v 5)))) <|
    .st (.act none (.ld (some 7) (.v 6) none)) <|
    .st (.act none (.px (some 8) (.mv (.v 1)))) <|
    .st (.act none (.px (some 9) (.bin .eql (.v 7) (.v 8)))) .done) K41_4)) K41_2
@[simp] def W41_5 := @C.wpe _ _ K41_5.eq_1
def K41_6 : C := .cond 4 (.v 7) (.skip) (.exit 0)
@[simp] def W41_6 := @C.wpe _ _ K41_6.eq_1
def K41_7 : C := .seq (.seq (.pl <| .st (.ext 4 4) <|
    .st (.act none (.px (some 4) (.mv (.v 3)))) <|
    .st (.act none (.px (some 5) (.mv (.v 0)))) <|
    .st (.act none (.px (some 6) (.lenV (.v 5)))) <|
    .st (.act none (.px (some 7) (.bin .lss (.v 4) (.v 6)))) .done) K41_6) K41_5
@[simp] def W41_7 := @C.wpe _ _ K41_7.eq_1
def K41_8 : C := .block 0 (.loop 4 [2] K41_7)
@[simp] def W41_8 := @C.wpe _ _ K41_8.eq_1
def K41_9 : C := .seq (.seq (.pl <| .st (.ext 4 0) <|
    .st (.act none (.px (some 3) (.mv (.c (.int .i64 0))))) .done) K41_8) K41_1
@[simp] def W41_9 := @C.wpe _ _ K41_9.eq_1
def B_spec_l4In : C := .seq (.pl <| .st (.ext 4 0) <|
    .st (.act none (.px (some 2) (.mv (.c (.bool false))))) .done) K41_9
@[simp] def WB_spec_l4In := @C.wpe _ _ B_spec_l4In.eq_1
def R_spec_l4In : FIR := ⟨B_spec_l4In, 4, [(2, none)]⟩
theorem IR_spec_l4In : cfun Tryz.prog H_spec_l4In Tryz.f41 = some R_spec_l4In := by kernel_rfl
theorem EN_spec_l4In {args : List Value} {h : Heap} {k : Value → Heap → Prop} (hargs : args.length = 2) (hw : B_spec_l4In.wp Tryz.prog (retQ [(2, none)] k) (env0 args 4) h) : CallE Tryz.prog fn_spec_l4In args h k := enter Tryz.func41 rfl IR_spec_l4In hargs hw


end Go.Proofs.YtonjglbachhdcaaGreat

/-
  Bodies of functions in the small language, as a program printed them, and that each is what the translation gives.
-/
namespace Go.Proofs.YtonjglbachhdcaaGreat
open Go
set_option linter.all false
set_option linter.defProp false
set_option maxRecDepth 1000000

def H_impl_GraphSame : Hint := ⟨[(0, false), (1, false), (2, true), (3, true), (4, false)], []⟩
def K14_1 : Pl := .st (.act none (.px (some 16) (.pick (.v 10) (.v 15) (.c (.bool false))))) <|
    .st (.act none (.px (some 4) (.mv (.v 16)))) .done
@[simp] def W14_1 := @Pl.wpe _ _ K14_1.eq_1
def K14_2 : Pl := .st (.act none (.px (some 10) (.mv (.v 9)))) <|
    .st (.act (some (.v 10, true)) (.als 11 none 2)) <|
    .st (.act (some (.v 10, true)) (.pget (some 12) (some 11) 2 1 none)) <|
    .st (.act (some (.v 10, true)) (.als 13 none 3)) <|
    .st (.act (some (.v 10, true)) (.pget (some 14) (some 13) 3 1 none)) <|
    .st (.act (some (.v 10, true)) (.ex (some 15) (.call fn_slices_EqualFunc_S_S_int_S_S_int_S_int_S_int [.v 12, .v 14, .c (.func (.func 44) #[] #[])]))) K14_1
@[simp] def W14_2 := @Pl.wpe _ _ K14_2.eq_1
def K14_3 : C := .seq (.pl <| .st (.ext 5 12) <|
    .st (.act none (.als 5 none 2)) <|
    .st (.act none (.pget (some 6) (some 5) 2 0 none)) <|
    .st (.act none (.als 7 none 3)) <|
    .st (.act none (.pget (some 8) (some 7) 3 0 none)) <|
    .st (.act none (.ex (some 9) (.call fn_slices_EqualFunc_S_impl_State_S_impl_State_impl_State_impl_State [.v 6, .v 8, .c (.func (.func 22) #[] #[])]))) K14_2) (.ret)
@[simp] def W14_3 := @C.wpe _ _ K14_3.eq_1
def B_impl_GraphSame : C := .seq (.pl <| .st (.ext 5 0) <|
    .st (.act none (.pnew 2 (.v 0) [])) <|
    .st (.act none (.pnew 3 (.v 1) [])) <|
    .st (.act none (.px (some 4) (.mv (.c (.bool false))))) .done) K14_3
@[simp] def WB_impl_GraphSame := @C.wpe _ _ B_impl_GraphSame.eq_1
def R_impl_GraphSame : FIR := ⟨B_impl_GraphSame, 5, [(4, none)]⟩
theorem IR_impl_GraphSame : cfun Tryz.prog H_impl_GraphSame Tryz.f14 = some R_impl_GraphSame := by kernel_rfl
theorem EN_impl_GraphSame {args : List Value} {h : Heap} {k : Value → Heap → Prop} (hargs : args.length = 2) (hw : B_impl_GraphSame.wp Tryz.prog (retQ [(4, none)] k) (env0 args 5) h) : CallE Tryz.prog fn_impl_GraphSame args h k := enter Tryz.func14 rfl IR_impl_GraphSame hargs hw

def H_impl_GraphValid : Hint := ⟨[(0, false), (1, true), (2, false), (3, false)], []⟩
def K21_1 : Pl := .st (.act (some (.v 19, true)) (.px (some 24) (.un .not (.v 23)))) <|
    .st (.act none (.px (some 25) (.pick (.v 19) (.v 24) (.c (.bool false))))) <|
    .st (.act none (.px (some 2) (.mv (.v 25)))) .done
@[simp] def W21_1 := @Pl.wpe _ _ K21_1.eq_1
def K21_2 : Pl := .st (.act (some (.v 13, true)) (.px (some 17) (.un .not (.v 16)))) <|
    .st (.act none (.px (some 18) (.pick (.v 13) (.v 17) (.c (.bool false))))) <|
    .st (.act none (.px (some 19) (.mv (.v 18)))) <|
    .st (.act (some (.v 19, true)) (.als 20 none 1)) <|
    .st (.act (some (.v 19, true)) (.pget (some 21) (some 20) 1 1 none)) <|
    .st (.act (some (.v 19, true)) (.px (some 22) (.mkf (.func fn_impl_GraphValid_2) [] [.v 3]))) <|
    .st (.act (some (.v 19, true)) (.ex (some 23) (.call fn_slices_ContainsFunc_S_S_int_S_int [.v 21, .v 22]))) K21_1
@[simp] def W21_2 := @Pl.wpe _ _ K21_2.eq_1
def K21_3 : Pl := .st (.act none (.px (some 6) (.mv (.v 5)))) <|
    .st (.act (some (.v 6, true)) (.als 7 none 1)) <|
    .st (.act (some (.v 6, true)) (.pget (some 8) (some 7) 1 1 none)) <|
    .st (.act (some (.v 6, true)) (.px (some 9) (.lenV (.v 8)))) <|
    .st (.act (some (.v 6, true)) (.ld (some 10) (.v 3) none)) <|
    .st (.act (some (.v 6, true)) (.px (some 11) (.bin .eql (.v 9) (.v 10)))) <|
    .st (.act none (.px (some 12) (.pick (.v 6) (.v 11) (.c (.bool false))))) <|
    .st (.act none (.px (some 13) (.mv (.v 12)))) <|
    .st (.act (some (.v 13, true)) (.als 14 none 1)) <|
    .st (.act (some (.v 13, true)) (.pget (some 15) (some 14) 1 0 none)) <|
    .st (.act (some (.v 13, true)) (.ex (some 16) (.call fn_slices_ContainsFunc_S_impl_State_impl_State [.v 15, .c (.func (.func 51) #[] #[])]))) K21_2
@[simp] def W21_3 := @Pl.wpe _ _ K21_3.eq_1
def K21_4 : C := .seq (.pl <| .st (.ext 4 22) <|
    .st (.act none (.ld (some 4) (.v 3) none)) <|
    .st (.act none (.ex (some 5) (.call fn_impl_in [.v 4, .c (.int .i64 1), .c (.int .i64 60)]))) K21_3) (.ret)
@[simp] def W21_4 := @C.wpe _ _ K21_4.eq_1
def K21_5 : Pl := .st (.act none (.ex none (.store 1 (.v 3) (.v 6)))) .done
@[simp] def W21_5 := @Pl.wpe _ _ K21_5.eq_1
def K21_6 : C := .seq (.pl <| .st (.ext 4 3) <|
    .st (.act none (.als 4 none 1)) <|
    .st (.act none (.pget (some 5) (some 4) 1 0 none)) <|
    .st (.act none (.px (some 6) (.lenV (.v 5)))) <|
    .st (.act none (.ex (some 3) (.alloc (.c (.int .i64 0))))) K21_5) K21_4
@[simp] def W21_6 := @C.wpe _ _ K21_6.eq_1
def B_impl_GraphValid : C := .seq (.pl <| .st (.ext 4 0) <|
    .st (.act none (.pnew 1 (.v 0) [])) <|
    .st (.act none (.px (some 2) (.mv (.c (.bool false))))) .done) K21_6
@[simp] def WB_impl_GraphValid := @C.wpe _ _ B_impl_GraphValid.eq_1
def R_impl_GraphValid : FIR := ⟨B_impl_GraphValid, 4, [(2, none)]⟩
theorem IR_impl_GraphValid : cfun Tryz.prog H_impl_GraphValid Tryz.f21 = some R_impl_GraphValid := by kernel_rfl
theorem EN_impl_GraphValid {args : List Value} {h : Heap} {k : Value → Heap → Prop} (hargs : args.length = 1) (hw : B_impl_GraphValid.wp Tryz.prog (retQ [(2, none)] k) (env0 args 4) h) : CallE Tryz.prog fn_impl_GraphValid args h k := enter Tryz.func21 rfl IR_impl_GraphValid hargs hw

def H_impl_GraphValid_1 : Hint := ⟨[(0, false), (1, true), (2, false)], []⟩
def K51_1 : Pl := .st (.act none (.px (some 6) (.un .not (.v 5)))) <|
    .st (.act none (.px (some 2) (.mv (.v 6)))) .done
@[simp] def W51_1 := @Pl.wpe _ _ K51_1.eq_1
def K51_2 : C := .seq (.pl <| .st (.ext 3 4) <|
    .st (.act none (.als 3 none 1)) <|
    .st (.act none (.pget (some 4) (some 3) 1 1 none)) <|
    .st (.act none (.ex (some 5) (.call fn_impl_valsOk [.v 4]))) K51_1) (.ret)
@[simp] def W51_2 := @C.wpe _ _ K51_2.eq_1
def B_impl_GraphValid_1 : C := .seq (.pl <| .st (.ext 3 0) <|
    .st (.act none (.pnew 1 (.v 0) [])) <|
    .st (.act none (.px (some 2) (.mv (.c (.bool false))))) .done) K51_2
@[simp] def WB_impl_GraphValid_1 := @C.wpe _ _ B_impl_GraphValid_1.eq_1
def R_impl_GraphValid_1 : FIR := ⟨B_impl_GraphValid_1, 3, [(2, none)]⟩
theorem IR_impl_GraphValid_1 : cfun Tryz.prog H_impl_GraphValid_1 Tryz.f51 = some R_impl_GraphValid_1 := by kernel_rfl
theorem EN_impl_GraphValid_1 {args : List Value} {h : Heap} {k : Value → Heap → Prop} (hargs : args.length = 1) (hw : B_impl_GraphValid_1.wp Tryz.prog (retQ [(2, none)] k) (env0 args 3) h) : CallE Tryz.prog fn_impl_GraphValid_1 args h k := enter Tryz.func51 rfl IR_impl_GraphValid_1 hargs hw

def H_impl_GraphValid_2 : Hint := ⟨[(0, false), (1, false), (3, false)], []⟩
def K54_1 : Pl := .st (.act (some (.v 6, false)) (.px (some 10) (.un .not (.v 9)))) <|
    .st (.act none (.px (some 11) (.pick (.v 6) (.c (.bool true)) (.v 10)))) <|
    .st (.act none (.px (some 2) (.mv (.v 11)))) .done
@[simp] def W54_1 := @Pl.wpe _ _ K54_1.eq_1
def K54_2 : C := .seq (.pl <| .st (.ext 3 9) <|
    .st (.act none (.px (some 3) (.mv (.v 0)))) <|
    .st (.act none (.px (some 4) (.lenV (.v 3)))) <|
    .st (.act none (.px (some 5) (.bin .eql (.v 4) (.c (.int .i64 0))))) <|
    .st (.act none (.px (some 6) (.mv (.v 5)))) <|
    .st (.act (some (.v 6, false)) (.px (some 7) (.mv (.v 0)))) <|
    .st (.act (some (.v 6, false)) (.ld (some 8) (.v 1) none)) <|
    .st (.act (some (.v 6, false)) (.ex (some 9) (.call fn_impl_distinct [.v 7, .v 8]))) K54_1) (.ret)
@[simp] def W54_2 := @C.wpe _ _ K54_2.eq_1
def B_impl_GraphValid_2 : C := .seq (.pl <| .st (.ext 3 0) <|
    .st (.act none (.px (some 2) (.mv (.c (.bool false))))) .done) K54_2
@[simp] def WB_impl_GraphValid_2 := @C.wpe _ _ B_impl_GraphValid_2.eq_1
def R_impl_GraphValid_2 : FIR := ⟨B_impl_GraphValid_2, 3, [(2, none)]⟩
theorem IR_impl_GraphValid_2 : cfun Tryz.prog H_impl_GraphValid_2 Tryz.f54 = some R_impl_GraphValid_2 := by kernel_rfl
theorem EN_impl_GraphValid_2 {args : List Value} {h : Heap} {k : Value → Heap → Prop} (hargs : args.length = 2) (hw : B_impl_GraphValid_2.wp Tryz.prog (retQ [(2, none)] k) (env0 args 3) h) : CallE Tryz.prog fn_impl_GraphValid_2 args h k := enter Tryz.func54 rfl IR_impl_GraphValid_2 hargs hw

def H_impl_ShortestPath : Hint := ⟨[(0, false), (1, false), (2, false), (3, true), (6, false)], []⟩
def K20_1 : Pl := .st (.act none (.px (some 4) (.mv (.v 8)))) .done
@[simp] def W20_1 := @Pl.wpe _ _ K20_1.eq_1
def K20_2 : C := .seq (.pl <| .st (.ext 5 4) <|
    .st (.act none (.pget (some 5) none 3 0 (some 2))) <|
    .st (.act none (.px (some 6) (.mv (.v 1)))) <|
    .st (.act none (.px (some 7) (.mv (.v 2)))) <|
    .st (.act none (.ex (some 8) (.call fn_impl_Graph_path [.v 5, .v 6, .v 7]))) K20_1) (.ret)
@[simp] def W20_2 := @C.wpe _ _ K20_2.eq_1
def K20_3 : C := .seq (.pl <| .st (.ext 5 0) <|
    .st (.act none (.px (some 4) (.mv (.c (.slice none 0 0))))) .done) (.ret)
@[simp] def W20_3 := @C.wpe _ _ K20_3.eq_1
def K20_4 : C := .cond 5 (.v 25) K20_3 (.skip)
@[simp] def W20_4 := @C.wpe _ _ K20_4.eq_1
def K20_5 : Pl := .st (.act (some (.v 17, false)) (.px (some 24) (.un .not (.v 23)))) <|
    .st (.act none (.px (some 25) (.pick (.v 17) (.c (.bool true)) (.v 24)))) .done
@[simp] def W20_5 := @Pl.wpe _ _ K20_5.eq_1
def K20_6 : Pl := .st (.act (some (.v 8, false)) (.px (some 15) (.un .not (.v 14)))) <|
    .st (.act none (.px (some 16) (.pick (.v 8) (.c (.bool true)) (.v 15)))) <|
    .st (.act none (.px (some 17) (.mv (.v 16)))) <|
    .st (.act (some (.v 17, false)) (.px (some 18) (.mv (.v 2)))) <|
    .st (.act (some (.v 17, false)) (.als 19 none 3)) <|
    .st (.act (some (.v 17, false)) (.pget (some 20) (some 19) 3 0 none)) <|
    .st (.act (some (.v 17, false)) (.px (some 21) (.lenV (.v 20)))) <|
    .st (.act (some (.v 17, false)) (.px (some 22) (.bin .sub (.v 21) (.c (.int .i64 1))))) <|
    .st (.act (some (.v 17, false)) (.ex (some 23) (.call fn_impl_in [.v 18, .c (.int .i64 0), .v 22]))) K20_5
@[simp] def W20_6 := @Pl.wpe _ _ K20_6.eq_1
def K20_7 : Pl := .st (.act none (.px (some 7) (.un .not (.v 6)))) <|
    .st (.act none (.px (some 8) (.mv (.v 7)))) <|
    .st (.act (some (.v 8, false)) (.px (some 9) (.mv (.v 1)))) <|
    .st (.act (some (.v 8, false)) (.als 10 none 3)) <|
    .st (.act (some (.v 8, false)) (.pget (some 11) (some 10) 3 0 none)) <|
    .st (.act (some (.v 8, false)) (.px (some 12) (.lenV (.v 11)))) <|
    .st (.act (some (.v 8, false)) (.px (some 13) (.bin .sub (.v 12) (.c (.int .i64 1))))) <|
    .st (.act (some (.v 8, false)) (.ex (some 14) (.call fn_impl_in [.v 9, .c (.int .i64 0), .v 13]))) K20_6
@[simp] def W20_7 := @Pl.wpe _ _ K20_7.eq_1
def K20_8 : C := .seq (.seq (.pl <| .st (.ext 5 21) <|
    .st (.act none (.pget (some 5) none 3 0 (some 2))) <|
    .st (.act none (.ex (some 6) (.call fn_impl_GraphValid [.v 5]))) K20_7) K20_4) K20_2
@[simp] def W20_8 := @C.wpe _ _ K20_8.eq_1
def B_impl_ShortestPath : C := .seq (.pl <| .st (.ext 5 0) <|
    .st (.act none (.pnew 3 (.v 0) [])) <|
    .st (.act none (.px (some 4) (.mv (.c (.slice none 0 0))))) .done) K20_8
@[simp] def WB_impl_ShortestPath := @C.wpe _ _ B_impl_ShortestPath.eq_1
def R_impl_ShortestPath : FIR := ⟨B_impl_ShortestPath, 5, [(4, none)]⟩
theorem IR_impl_ShortestPath : cfun Tryz.prog H_impl_ShortestPath Tryz.f20 = some R_impl_ShortestPath := by kernel_rfl
theorem EN_impl_ShortestPath {args : List Value} {h : Heap} {k : Value → Heap → Prop} (hargs : args.length = 3) (hw : B_impl_ShortestPath.wp Tryz.prog (retQ [(4, none)] k) (env0 args 5) h) : CallE Tryz.prog fn_impl_ShortestPath args h k := enter Tryz.func20 rfl IR_impl_ShortestPath hargs hw

def H_impl_distinct : Hint := ⟨[(0, false), (1, false), (4, false), (5, false), (6, false), (7, false), (8, false), (9, false)], [[2, 3, 4]]⟩
def K55_1 : C := .seq (.pl <| .st (.ext 8 0) <|
    .st (.act none (.px (some 2) (.mv (.c (.bool true))))) .done) (.ret)
@[simp] def W55_1 := @C.wpe _ _ K55_1.eq_1
def K55_2 : C := .pl <| .st (.ext 8 1) <|
    .st (.act none (.px (some 8) (.bin .add (.v 7) (.c (.int .i64 1))))) <|
    .st (.act none (.px (some 7) (.mv (.v 8)))) .done
@[simp] def W55_2 := @C.wpe _ _ K55_2.eq_1
def K55_3 : C := .seq (.pl <| .st (.ext 8 0) <|
    .st (.act none (.px (some 2) (.mv (.c (.bool false))))) .done) (.ret)
@[simp] def W55_3 := @C.wpe _ _ K55_3.eq_1
def K55_4 : C := .cond 8 (.v 19) K55_3 (.skip)
@[simp] def W55_4 := @C.wpe _ _ K55_4.eq_1
def K55_5 : Pl := .st (.act none (.px (some 19) (.pick (.v 13) (.c (.bool true)) (.v 18)))) .done
@[simp] def W55_5 := @Pl.wpe _ _ K55_5.eq_1
def K55_6 : Pl := .st (.act none (.px (some 12) (.un .not (.v 11)))) <|
    .st (.act none (.px (some 13) (.mv (.v 12)))) <|
    .st (.act (some (.v 13, false)) (.px (some 14) (.mv (.v 0)))) <|
    .st (.act (some (.v 13, false)) (.px (some 15) (.mv (.v 3)))) <|
    .st (.act (some (.v 13, false)) (.px (some 16) (.sliceV 1 (.v 14) none (some (.v 15)) none))) <|
    .st (.act (some (.v 13, false)) (.px (some 17) (.mv (.v 4)))) <|
    .st (.act (some (.v 13, false)) (.ex (some 18) (.call fn_slices_Contains_S_int_int [.v 16, .v 17]))) K55_5
@[simp] def W55_6 := @Pl.wpe _ _ K55_6.eq_1
def K55_7 : C := .seq (.pl <| .st (.ext 8 12) <|
    .st (.act none (.px (some 8) (.mv (.v 4)))) <|
    .st (.act none (.px (some 9) (.mv (.v 1)))) <|
    .st (.act none (.px (some 10) (.bin .sub (.v 9) (.c (.int .i64 1))))) <|
    .st (.act none (.ex (some 11) (.call fn_impl_in [.v 8, .c (.int .i64 0), .v 10]))) K55_6) K55_4
@[simp] def W55_7 := @C.wpe _ _ K55_7.eq_1
def K55_8 : C := .seq (.block 1 (.seq (.pl <| .st (.ext 8 3) <|
    .st (.act none (.px (some 8) (.mv (.v 7)))) <|
    .st (.act none (.px (some 9) (.ia 1 (.v 5) (.v 7)))) <|
    .st (.act none (.ld (some 10) (.v 9) none)) <|
    .st (.act none (.px (some 3) (.mv (.v 8)))) <|
    .st (.act none (.px (some 4) (.mv (.v 10)))) .done) K55_7)) K55_2
@[simp] def W55_8 := @C.wpe _ _ K55_8.eq_1
def K55_9 : C := .seq (.cond 8 (.v 8) (.skip) (.exit 0)) K55_8
@[simp] def W55_9 := @C.wpe _ _ K55_9.eq_1
def K55_10 : C := .seq (.pl <| .st (.ext 8 1) <|
    .st (.act none (.px (some 8) (.bin .lss (.v 7) (.v 6)))) .done) K55_9
@[simp] def W55_10 := @C.wpe _ _ K55_10.eq_1
def K55_11 : C := .block 0 (.loop 8 [2, 3, 4] K55_10)
@[simp] def W55_11 := @C.wpe _ _ K55_11.eq_1
def K55_12 : C := .seq (.seq (.pl <| .st (.ext 8 0) <|
    .st (.act none (.px (some 5) (.mv (.v 0)))) <|
    .st (.act none (.px (some 6) (.lenV (.v 5)))) <|
    .st (.act none (.px (some 7) (.mv (.c (.int .i64 0))))) .done) K55_11) K55_1
@[simp] def W55_12 := @C.wpe _ _ K55_12.eq_1
def B_impl_distinct : C := .seq (.pl <| .st (.ext 8 0) <|
    .st (.act none (.px (some 2) (.mv (.c (.bool false))))) .done) K55_12
@[simp] def WB_impl_distinct := @C.wpe _ _ B_impl_distinct.eq_1
def R_impl_distinct : FIR := ⟨B_impl_distinct, 8, [(2, none)]⟩
theorem IR_impl_distinct : cfun Tryz.prog H_impl_distinct Tryz.f55 = some R_impl_distinct := by kernel_rfl
theorem EN_impl_distinct {args : List Value} {h : Heap} {k : Value → Heap → Prop} (hargs : args.length = 2) (hw : B_impl_distinct.wp Tryz.prog (retQ [(2, none)] k) (env0 args 8) h) : CallE Tryz.prog fn_impl_distinct args h k := enter Tryz.func55 rfl IR_impl_distinct hargs hw

def H_laws_FnBuildGraph : Hint := ⟨[(0, false), (2, false), (3, true), (4, true), (5, false), (6, true), (7, false), (8, true), (10, false), (11, false), (12, false), (13, true), (14, false)], [[0, 1, 4, 5, 6, 9, 10, 11, 12], [0, 1, 4, 5, 6, 11, 12]]⟩
def K4_1 : Pl := .st (.act none (.px (some 22) (.pick (.v 15) (.v 21) (.c (.bool false))))) <|
    .st (.act none (.px (some 1) (.mv (.v 22)))) .done
@[simp] def W4_1 := @Pl.wpe _ _ K4_1.eq_1
def K4_2 : Pl := .st (.act none (.px (some 15) (.mv (.v 14)))) <|
    .st (.act (some (.v 15, true)) (.als 16 none 3)) <|
    .st (.act (some (.v 15, true)) (.pget (some 17) (some 16) 3 0 none)) <|
    .st (.act (some (.v 15, true)) (.px (some 18) (.ia 2 (.v 17) (.c (.int .i64 0))))) <|
    .st (.act (some (.v 15, true)) (.ld (some 19) (.v 18) (some 2))) <|
    .st (.act (some (.v 15, true)) (.pget (some 20) none 7 0 (some 2))) <|
    .st (.act (some (.v 15, true)) (.ex (some 21) (.call fn_impl_StateSame [.v 19, .v 20]))) K4_1
@[simp] def W4_2 := @Pl.wpe _ _ K4_2.eq_1
def K4_3 : C := .seq (.pl <| .st (.ext 13 10) <|
    .st (.act none (.pget (some 13) none 3 0 (some 2))) <|
    .st (.act none (.ex (some 14) (.call fn_impl_GraphValid [.v 13]))) K4_2) (.ret)
@[simp] def W4_3 := @C.wpe _ _ K4_3.eq_1
def K4_4 : C := .pl <| .st (.ext 13 2) <|
    .st (.act none (.px (some 13) (.mv (.v 8)))) <|
    .st (.act none (.px (some 14) (.bin .add (.v 13) (.c (.int .i64 1))))) <|
    .st (.act none (.px (some 8) (.mv (.v 14)))) .done
@[simp] def W4_4 := @C.wpe _ _ K4_4.eq_1
def K4_5 : C := .seq (.pl <| .st (.ext 13 0) <|
    .st (.act none (.px (some 1) (.mv (.c (.bool false))))) .done) (.ret)
@[simp] def W4_5 := @C.wpe _ _ K4_5.eq_1
def K4_6 : C := .cond 13 (.v 17) K4_5 (.skip)
@[simp] def W4_6 := @C.wpe _ _ K4_6.eq_1
def K4_7 : Pl := .st (.act none (.px (some 16) (.lenV (.v 15)))) <|
    .st (.act none (.px (some 17) (.bin .eql (.v 16) (.c (.int .i64 0))))) .done
@[simp] def W4_7 := @Pl.wpe _ _ K4_7.eq_1
def K4_8 : C := .seq (.pl <| .st (.ext 13 5) <|
    .st (.act none (.pget (some 13) none 3 0 (some 2))) <|
    .st (.act none (.px (some 14) (.mv (.v 8)))) <|
    .st (.act none (.ex (some 15) (.call fn_impl_ShortestPath [.v 13, .c (.int .i64 0), .v 14]))) K4_7) K4_6
@[simp] def W4_8 := @C.wpe _ _ K4_8.eq_1
def K4_9 : C := .pl <| .st (.ext 13 2) <|
    .st (.act none (.px (some 13) (.mv (.v 10)))) <|
    .st (.act none (.px (some 14) (.bin .add (.v 13) (.c (.int .i64 1))))) <|
    .st (.act none (.px (some 10) (.mv (.v 14)))) .done
@[simp] def W4_9 := @C.wpe _ _ K4_9.eq_1
def K4_10 : C := .seq (.pl <| .st (.ext 13 0) <|
    .st (.act none (.px (some 1) (.mv (.c (.bool false))))) .done) (.ret)
@[simp] def W4_10 := @C.wpe _ _ K4_10.eq_1
def K4_11 : C := .cond 13 (.v 32) K4_10 (.skip)
@[simp] def W4_11 := @C.wpe _ _ K4_11.eq_1
def K4_12 : Pl := .st (.act (some (.v 21, false)) (.px (some 31) (.un .not (.v 30)))) <|
    .st (.act none (.px (some 32) (.pick (.v 21) (.c (.bool true)) (.v 31)))) .done
@[simp] def W4_12 := @Pl.wpe _ _ K4_12.eq_1
def K4_13 : Pl := .st (.re 26 (.v 25) none (some (.v 21, false))) <|
    .st (.act (some (.v 21, false)) (.ex (some 30) (.call fn_laws_wpHas [.v 26, .v 29]))) K4_12
@[simp] def W4_13 := @Pl.wpe _ _ K4_13.eq_1
def K4_14 : Pl := .st (.act (some (.v 15, false)) (.px (some 19) (.bin .lss (.v 18) (.c (.int .i64 0))))) <|
    .st (.act none (.px (some 20) (.pick (.v 15) (.c (.bool true)) (.v 19)))) <|
    .st (.act none (.px (some 21) (.mv (.v 20)))) <|
    .st (.act (some (.v 21, false)) (.als 22 none 3)) <|
    .st (.act (some (.v 21, false)) (.pget (some 23) (some 22) 3 1 none)) <|
    .st (.act (some (.v 21, false)) (.px (some 24) (.mv (.v 8)))) <|
    .st (.act (some (.v 21, false)) (.px (some 25) (.ia 1 (.v 23) (.v 24)))) <|
    .st (.act (some (.v 21, false)) (.ld (some 26) (.v 25) none)) <|
    .st (.act (some (.v 21, false)) (.pget (some 27) none 3 0 (some 2))) <|
    .st (.act (some (.v 21, false)) (.pget (some 28) none 11 0 (some 2))) <|
    .st (.act (some (.v 21, false)) (.ex (some 29) (.call fn_laws_wpState [.v 27, .v 28]))) K4_13
@[simp] def W4_14 := @Pl.wpe _ _ K4_14.eq_1
def K4_15 : C := .seq (.pl <| .st (.ext 13 20) <|
    .st (.act none (.px (some 13) (.mv (.v 12)))) <|
    .st (.act none (.px (some 14) (.un .not (.v 13)))) <|
    .st (.act none (.px (some 15) (.mv (.v 14)))) <|
    .st (.act (some (.v 15, false)) (.pget (some 16) none 3 0 (some 2))) <|
    .st (.act (some (.v 15, false)) (.pget (some 17) none 11 0 (some 2))) <|
    .st (.act (some (.v 15, false)) (.ex (some 18) (.call fn_laws_wpState [.v 16, .v 17]))) K4_14) K4_11
@[simp] def W4_15 := @C.wpe _ _ K4_15.eq_1
def K4_16 : Pl := .st (.act none (.px (some 24) (.mv (.v 23)))) <|
    .st (.act none (.px (some 25) (.extract 0 (.v 24)))) <|
    .st (.act none (.px (some 26) (.extract 1 (.v 24)))) <|
    .st (.act none (.pset none 11 0 2 (.v 25))) <|
    .st (.act none (.px (some 12) (.mv (.v 26)))) .done
@[simp] def W4_16 := @Pl.wpe _ _ K4_16.eq_1
def K4_17 : C := .seq (.block 3 (.seq (.pl <| .st (.ext 13 14) <|
    .st (.act none (.pget (some 13) none 2 0 (some 2))) <|
    .st (.act none (.als 14 none 3)) <|
    .st (.act none (.pget (some 15) (some 14) 3 0 none)) <|
    .st (.act none (.px (some 16) (.mv (.v 8)))) <|
    .st (.act none (.px (some 17) (.ia 2 (.v 15) (.v 16)))) <|
    .st (.act none (.ld (some 18) (.v 17) (some 2))) <|
    .st (.act none (.px (some 19) (.mv (.v 9)))) <|
    .st (.act none (.px (some 20) (.mv (.v 10)))) <|
    .st (.act none (.px (some 21) (.ia 4 (.v 19) (.v 20)))) <|
    .st (.act none (.ld (some 22) (.v 21) (some 4))) <|
    .st (.act none (.pnew 11 (.c (.agg #[.slice none 0 0, .slice none 0 0])) [])) <|
    .st (.act none (.ex (some 23) (.call fn_impl_ApplyStep [.v 13, .v 18, .v 22]))) K4_16) K4_15)) K4_9
@[simp] def W4_17 := @C.wpe _ _ K4_17.eq_1
def K4_18 : C := .cond 13 (.v 16) (.skip) (.exit 2)
@[simp] def W4_18 := @C.wpe _ _ K4_18.eq_1
def K4_19 : C := .seq (.seq (.pl <| .st (.ext 13 4) <|
    .st (.act none (.px (some 13) (.mv (.v 10)))) <|
    .st (.act none (.px (some 14) (.mv (.v 9)))) <|
    .st (.act none (.px (some 15) (.lenV (.v 14)))) <|
    .st (.act none (.px (some 16) (.bin .lss (.v 13) (.v 15)))) .done) K4_18) K4_17
@[simp] def W4_19 := @C.wpe _ _ K4_19.eq_1
def K4_20 : C := .block 2 (.loop 13 [0, 1, 4, 5, 6, 11, 12] K4_19)
@[simp] def W4_20 := @C.wpe _ _ K4_20.eq_1
def K4_21 : C := .seq (.seq (.pl <| .st (.ext 13 0) <|
    .st (.act none (.px (some 10) (.mv (.c (.int .i64 0))))) .done) K4_20) K4_8
@[simp] def W4_21 := @C.wpe _ _ K4_21.eq_1
def K4_22 : Pl := .st (.act none (.px (some 9) (.mv (.v 19)))) .done
@[simp] def W4_22 := @Pl.wpe _ _ K4_22.eq_1
def K4_23 : C := .seq (.block 1 (.seq (.pl <| .st (.ext 13 7) <|
    .st (.act none (.pget (some 13) none 2 0 (some 2))) <|
    .st (.act none (.als 14 none 3)) <|
    .st (.act none (.pget (some 15) (some 14) 3 0 none)) <|
    .st (.act none (.px (some 16) (.mv (.v 8)))) <|
    .st (.act none (.px (some 17) (.ia 2 (.v 15) (.v 16)))) <|
    .st (.act none (.ld (some 18) (.v 17) (some 2))) <|
    .st (.act none (.ex (some 19) (.call fn_impl_EnabledSteps [.v 13, .v 18]))) K4_22) K4_21)) K4_4
@[simp] def W4_23 := @C.wpe _ _ K4_23.eq_1
def K4_24 : C := .cond 13 (.v 17) (.skip) (.exit 0)
@[simp] def W4_24 := @C.wpe _ _ K4_24.eq_1
def K4_25 : C := .seq (.seq (.pl <| .st (.ext 13 5) <|
    .st (.act none (.px (some 13) (.mv (.v 8)))) <|
    .st (.act none (.als 14 none 3)) <|
    .st (.act none (.pget (some 15) (some 14) 3 0 none)) <|
    .st (.act none (.px (some 16) (.lenV (.v 15)))) <|
    .st (.act none (.px (some 17) (.bin .lss (.v 13) (.v 16)))) .done) K4_24) K4_23
@[simp] def W4_25 := @C.wpe _ _ K4_25.eq_1
def K4_26 : C := .block 0 (.loop 13 [0, 1, 4, 5, 6, 9, 10, 11, 12] K4_25)
@[simp] def W4_26 := @C.wpe _ _ K4_26.eq_1
def K4_27 : C := .seq (.seq (.pl <| .st (.ext 13 0) <|
    .st (.act none (.px (some 8) (.mv (.c (.int .i64 0))))) .done) K4_26) K4_3
@[simp] def W4_27 := @C.wpe _ _ K4_27.eq_1
def K4_28 : Pl := .st (.act none (.px (some 15) (.mv (.v 14)))) <|
    .st (.act none (.px (some 16) (.extract 0 (.v 15)))) <|
    .st (.act none (.px (some 17) (.extract 1 (.v 15)))) <|
    .st (.act none (.pnew 7 (.c (.agg #[.slice none 0 0, .slice none 0 0])) [])) <|
    .st (.act none (.pset none 7 0 2 (.v 16))) <|
    .st (.act none (.px (some 18) (.mv (.v 17)))) .done
@[simp] def W4_28 := @Pl.wpe _ _ K4_28.eq_1
def K4_29 : C := .seq (.pl <| .st (.ext 13 6) <|
    .st (.act none (.pget (some 13) none 2 0 (some 2))) <|
    .st (.act none (.ex (some 14) (.call fn_impl_InitialState [.v 13]))) K4_28) K4_27
@[simp] def W4_29 := @C.wpe _ _ K4_29.eq_1
def K4_30 : Pl := .st (.act none (.px (some 20) (.pick (.v 16) (.v 19) (.c (.bool false))))) <|
    .st (.act none (.px (some 1) (.mv (.v 20)))) .done
@[simp] def W4_30 := @Pl.wpe _ _ K4_30.eq_1
def K4_31 : C := .seq (.pl <| .st (.ext 13 8) <|
    .st (.act none (.px (some 13) (.mv (.v 4)))) <|
    .st (.act none (.px (some 14) (.mv (.v 6)))) <|
    .st (.act none (.px (some 15) (.eqb false (.v 13) (.v 14)))) <|
    .st (.act none (.px (some 16) (.mv (.v 15)))) <|
    .st (.act (some (.v 16, true)) (.pget (some 17) none 3 0 (some 2))) <|
    .st (.act (some (.v 16, true)) (.pget (some 18) none 5 0 (some 2))) <|
    .st (.act (some (.v 16, true)) (.ex (some 19) (.call fn_impl_GraphSame [.v 17, .v 18]))) K4_30) (.ret)
@[simp] def W4_31 := @C.wpe _ _ K4_31.eq_1
def K4_32 : C := .cond 13 (.v 25) K4_31 (.skip)
@[simp] def W4_32 := @C.wpe _ _ K4_32.eq_1
def K4_33 : Pl := .st (.act (some (.v 16, false)) (.px (some 20) (.un .not (.v 19)))) <|
    .st (.act none (.px (some 21) (.pick (.v 16) (.c (.bool true)) (.v 20)))) <|
    .st (.act none (.px (some 22) (.mv (.v 21)))) <|
    .st (.act (some (.v 22, false)) (.px (some 23) (.mv (.v 4)))) <|
    .st (.act (some (.v 22, false)) (.px (some 24) (.un .not (.v 23)))) <|
    .st (.act none (.px (some 25) (.pick (.v 22) (.c (.bool true)) (.v 24)))) .done
@[simp] def W4_33 := @Pl.wpe _ _ K4_33.eq_1
def K4_34 : C := .seq (.seq (.pl <| .st (.ext 13 13) <|
    .st (.act none (.px (some 13) (.mv (.v 4)))) <|
    .st (.act none (.px (some 14) (.mv (.v 6)))) <|
    .st (.act none (.px (some 15) (.eqb true (.v 13) (.v 14)))) <|
    .st (.act none (.px (some 16) (.mv (.v 15)))) <|
    .st (.act (some (.v 16, false)) (.pget (some 17) none 3 0 (some 2))) <|
    .st (.act (some (.v 16, false)) (.pget (some 18) none 5 0 (some 2))) <|
    .st (.act (some (.v 16, false)) (.ex (some 19) (.call fn_impl_GraphSame [.v 17, .v 18]))) K4_33) K4_32) K4_29
@[simp] def W4_34 := @C.wpe _ _ K4_34.eq_1
def K4_35 : Pl := .st (.act none (.px (some 15) (.mv (.v 14)))) <|
    .st (.act none (.px (some 16) (.extract 0 (.v 15)))) <|
    .st (.act none (.px (some 17) (.extract 1 (.v 15)))) <|
    .st (.act none (.pnew 5 (.c (.agg #[.slice none 0 0, .slice none 0 0])) [])) <|
    .st (.act none (.pset none 5 0 2 (.v 16))) <|
    .st (.act none (.px (some 6) (.mv (.v 17)))) .done
@[simp] def W4_35 := @Pl.wpe _ _ K4_35.eq_1
def K4_36 : C := .seq (.pl <| .st (.ext 13 5) <|
    .st (.act none (.pget (some 13) none 2 0 (some 2))) <|
    .st (.act none (.ex (some 14) (.call fn_spec_BuildGraph [.v 13]))) K4_35) K4_34
@[simp] def W4_36 := @C.wpe _ _ K4_36.eq_1
def K4_37 : Pl := .st (.act none (.px (some 15) (.mv (.v 14)))) <|
    .st (.act none (.px (some 16) (.extract 0 (.v 15)))) <|
    .st (.act none (.px (some 17) (.extract 1 (.v 15)))) <|
    .st (.act none (.pnew 3 (.c (.agg #[.slice none 0 0, .slice none 0 0])) [])) <|
    .st (.act none (.pset none 3 0 2 (.v 16))) <|
    .st (.act none (.px (some 4) (.mv (.v 17)))) .done
@[simp] def W4_37 := @Pl.wpe _ _ K4_37.eq_1
def K4_38 : C := .seq (.pl <| .st (.ext 13 5) <|
    .st (.act none (.pget (some 13) none 2 0 (some 2))) <|
    .st (.act none (.ex (some 14) (.call fn_impl_BuildGraph [.v 13]))) K4_37) K4_36
@[simp] def W4_38 := @C.wpe _ _ K4_38.eq_1
def K4_39 : Pl := .st (.act none (.pnew 2 (.c (.agg #[.slice none 0 0, .slice none 0 0])) [])) <|
    .st (.act none (.pset none 2 0 2 (.v 14))) .done
@[simp] def W4_39 := @Pl.wpe _ _ K4_39.eq_1
def K4_40 : C := .seq (.pl <| .st (.ext 13 2) <|
    .st (.act none (.px (some 13) (.mv (.v 0)))) <|
    .st (.act none (.ex (some 14) (.call fn_spec_DrawBuildGraph [.v 13]))) K4_39) K4_38
@[simp] def W4_40 := @C.wpe _ _ K4_40.eq_1
def K4_41 : C := .seq (.pl <| .st (.ext 13 0) <|
    .st (.act none (.px (some 1) (.mv (.c (.bool true))))) .done) (.ret)
@[simp] def W4_41 := @C.wpe _ _ K4_41.eq_1
def K4_42 : C := .cond 13 (.v 15) K4_41 (.skip)
@[simp] def W4_42 := @C.wpe _ _ K4_42.eq_1
def K4_43 : C := .seq (.seq (.pl <| .st (.ext 13 3) <|
    .st (.act none (.px (some 13) (.mv (.v 0)))) <|
    .st (.act none (.px (some 14) (.lenV (.v 13)))) <|
    .st (.act none (.px (some 15) (.bin .gtr (.v 14) (.c (.int .i64 1048576))))) .done) K4_42) K4_40
@[simp] def W4_43 := @C.wpe _ _ K4_43.eq_1
def B_laws_FnBuildGraph : C := .seq (.pl <| .st (.ext 13 0) <|
    .st (.act none (.px (some 1) (.mv (.c (.bool false))))) .done) K4_43
@[simp] def WB_laws_FnBuildGraph := @C.wpe _ _ B_laws_FnBuildGraph.eq_1
def R_laws_FnBuildGraph : FIR := ⟨B_laws_FnBuildGraph, 13, [(1, none)]⟩
theorem IR_laws_FnBuildGraph : cfun Tryz.prog H_laws_FnBuildGraph Tryz.f4 = some R_laws_FnBuildGraph := by kernel_rfl
theorem EN_laws_FnBuildGraph {args : List Value} {h : Heap} {k : Value → Heap → Prop} (hargs : args.length = 1) (hw : B_laws_FnBuildGraph.wp Tryz.prog (retQ [(1, none)] k) (env0 args 13) h) : CallE Tryz.prog fn_laws_FnBuildGraph args h k := enter Tryz.func4 rfl IR_laws_FnBuildGraph hargs hw

def H_laws_wpHas : Hint := ⟨[(0, false), (1, false), (4, false), (5, false)], [[2]]⟩
def K19_1 : C := .seq (.pl <| .st (.ext 4 0) <|
    .st (.act none (.px (some 2) (.mv (.c (.bool false))))) .done) (.ret)
@[simp] def W19_1 := @C.wpe _ _ K19_1.eq_1
def K19_2 : C := .pl <| .st (.ext 4 2) <|
    .st (.act none (.px (some 4) (.mv (.v 3)))) <|
    .st (.act none (.px (some 5) (.bin .add (.v 4) (.c (.int .i64 1))))) <|
    .st (.act none (.px (some 3) (.mv (.v 5)))) .done
@[simp] def W19_2 := @C.wpe _ _ K19_2.eq_1
def K19_3 : C := .seq (.pl <| .st (.ext 4 0) <|
    .st (.act none (.px (some 2) (.mv (.c (.bool true))))) .done) (.ret)
@[simp] def W19_3 := @C.wpe _ _ K19_3.eq_1
def K19_4 : C := .cond 4 (.v 9) K19_3 (.skip)
@[simp] def W19_4 := @C.wpe _ _ K19_4.eq_1
def K19_5 : C := .seq (.block 1 (.seq (.pl <| .st (.ext 4 6) <|
    .st (.act none (.px (some 4) (.mv (.v 0)))) <|
    .st (.act none (.px (some 5) (.mv (.v 3)))) <|
    .st (.act none (.px (some 6) (.ia 1 (.v 4) (.v 5)))) <|
    .st (.act none (.ld (some 7) (.v 6) none)) <|
    .st (.act none (.px (some 8) (.mv (.v 1)))) <|
    .st (.act none (.px (some 9) (.bin .eql (.v 7) (.v 8)))) .done) K19_4)) K19_2
@[simp] def W19_5 := @C.wpe _ _ K19_5.eq_1
def K19_6 : C := .cond 4 (.v 7) (.skip) (.exit 0)
@[simp] def W19_6 := @C.wpe _ _ K19_6.eq_1
def K19_7 : C := .seq (.seq (.pl <| .st (.ext 4 4) <|
    .st (.act none (.px (some 4) (.mv (.v 3)))) <|
    .st (.act none (.px (some 5) (.mv (.v 0)))) <|
    .st (.act none (.px (some 6) (.lenV (.v 5)))) <|
    .st (.act none (.px (some 7) (.bin .lss (.v 4) (.v 6)))) .done) K19_6) K19_5
@[simp] def W19_7 := @C.wpe _ _ K19_7.eq_1
def K19_8 : C := .block 0 (.loop 4 [2] K19_7)
@[simp] def W19_8 := @C.wpe _ _ K19_8.eq_1
def K19_9 : C := .seq (.seq (.pl <| .st (.ext 4 0) <|
    .st (.act none (.px (some 3) (.mv (.c (.int .i64 0))))) .done) K19_8) K19_1
@[simp] def W19_9 := @C.wpe _ _ K19_9.eq_1
def B_laws_wpHas : C := .seq (.pl <| .st (.ext 4 0) <|
    .st (.act none (.px (some 2) (.mv (.c (.bool false))))) .done) K19_9
@[simp] def WB_laws_wpHas := @C.wpe _ _ B_laws_wpHas.eq_1
def R_laws_wpHas : FIR := ⟨B_laws_wpHas, 4, [(2, none)]⟩
theorem IR_laws_wpHas : cfun Tryz.prog H_laws_wpHas Tryz.f19 = some R_laws_wpHas := by kernel_rfl
theorem EN_laws_wpHas {args : List Value} {h : Heap} {k : Value → Heap → Prop} (hargs : args.length = 2) (hw : B_laws_wpHas.wp Tryz.prog (retQ [(2, none)] k) (env0 args 4) h) : CallE Tryz.prog fn_laws_wpHas args h k := enter Tryz.func19 rfl IR_laws_wpHas hargs hw

def H_laws_wpState : Hint := ⟨[(0, false), (1, false), (2, true), (3, true), (4, false), (5, false)], [[0, 1, 4]]⟩
def K18_1 : C := .seq (.pl <| .st (.ext 6 0) <|
    .st (.act none (.px (some 4) (.mv (.c (.int .i64 (-1)))))) .done) (.ret)
@[simp] def W18_1 := @C.wpe _ _ K18_1.eq_1
def K18_2 : C := .pl <| .st (.ext 6 2) <|
    .st (.act none (.px (some 6) (.mv (.v 5)))) <|
    .st (.act none (.px (some 7) (.bin .add (.v 6) (.c (.int .i64 1))))) <|
    .st (.act none (.px (some 5) (.mv (.v 7)))) .done
@[simp] def W18_2 := @C.wpe _ _ K18_2.eq_1
def K18_3 : C := .seq (.pl <| .st (.ext 6 1) <|
    .st (.act none (.px (some 6) (.mv (.v 5)))) <|
    .st (.act none (.px (some 4) (.mv (.v 6)))) .done) (.ret)
@[simp] def W18_3 := @C.wpe _ _ K18_3.eq_1
def K18_4 : C := .cond 6 (.v 12) K18_3 (.skip)
@[simp] def W18_4 := @C.wpe _ _ K18_4.eq_1
def K18_5 : C := .seq (.block 1 (.seq (.pl <| .st (.ext 6 7) <|
    .st (.act none (.als 6 none 2)) <|
    .st (.act none (.pget (some 7) (some 6) 2 0 none)) <|
    .st (.act none (.px (some 8) (.mv (.v 5)))) <|
    .st (.act none (.px (some 9) (.ia 2 (.v 7) (.v 8)))) <|
    .st (.act none (.ld (some 10) (.v 9) (some 2))) <|
    .st (.act none (.pget (some 11) none 3 0 (some 2))) <|
    .st (.act none (.ex (some 12) (.call fn_impl_StateSame [.v 10, .v 11]))) .done) K18_4)) K18_2
@[simp] def W18_5 := @C.wpe _ _ K18_5.eq_1
def K18_6 : C := .cond 6 (.v 10) (.skip) (.exit 0)
@[simp] def W18_6 := @C.wpe _ _ K18_6.eq_1
def K18_7 : C := .seq (.seq (.pl <| .st (.ext 6 5) <|
    .st (.act none (.px (some 6) (.mv (.v 5)))) <|
    .st (.act none (.als 7 none 2)) <|
    .st (.act none (.pget (some 8) (some 7) 2 0 none)) <|
    .st (.act none (.px (some 9) (.lenV (.v 8)))) <|
    .st (.act none (.px (some 10) (.bin .lss (.v 6) (.v 9)))) .done) K18_6) K18_5
@[simp] def W18_7 := @C.wpe _ _ K18_7.eq_1
def K18_8 : C := .block 0 (.loop 6 [0, 1, 4] K18_7)
@[simp] def W18_8 := @C.wpe _ _ K18_8.eq_1
def K18_9 : C := .seq (.seq (.pl <| .st (.ext 6 0) <|
    .st (.act none (.px (some 5) (.mv (.c (.int .i64 0))))) .done) K18_8) K18_1
@[simp] def W18_9 := @C.wpe _ _ K18_9.eq_1
def B_laws_wpState : C := .seq (.pl <| .st (.ext 6 0) <|
    .st (.act none (.pnew 2 (.v 0) [])) <|
    .st (.act none (.pnew 3 (.v 1) [])) <|
    .st (.act none (.px (some 4) (.mv (.c (.int .i64 0))))) .done) K18_9
@[simp] def WB_laws_wpState := @C.wpe _ _ B_laws_wpState.eq_1
def R_laws_wpState : FIR := ⟨B_laws_wpState, 6, [(4, none)]⟩
theorem IR_laws_wpState : cfun Tryz.prog H_laws_wpState Tryz.f18 = some R_laws_wpState := by kernel_rfl
theorem EN_laws_wpState {args : List Value} {h : Heap} {k : Value → Heap → Prop} (hargs : args.length = 2) (hw : B_laws_wpState.wp Tryz.prog (retQ [(4, none)] k) (env0 args 6) h) : CallE Tryz.prog fn_laws_wpState args h k := enter Tryz.func18 rfl IR_laws_wpState hargs hw

def H_slices_ContainsFunc_S_S_int_S_int : Hint := ⟨[(0, false), (1, false), (4, false)], []⟩
def K53_1 : Pl := .st (.act none (.px (some 6) (.bin .geq (.v 5) (.c (.int .i64 0))))) <|
    .st (.act none (.px (some 2) (.mv (.v 6)))) .done
@[simp] def W53_1 := @Pl.wpe _ _ K53_1.eq_1
def K53_2 : C := .seq (.pl <| .st (.ext 3 4) <|
    .st (.act none (.px (some 3) (.mv (.v 0)))) <|
    .st (.act none (.px (some 4) (.mv (.v 1)))) <|
    .st (.act none (.ex (some 5) (.call fn_slices_IndexFunc_S_S_int_S_int [.v 3, .v 4]))) K53_1) (.ret)
@[simp] def W53_2 := @C.wpe _ _ K53_2.eq_1
def B_slices_ContainsFunc_S_S_int_S_int : C := .seq (.pl <| .st (.ext 3 0) <|
    .st (.act none (.px (some 2) (.mv (.c (.bool false))))) .done) K53_2
@[simp] def WB_slices_ContainsFunc_S_S_int_S_int := @C.wpe _ _ B_slices_ContainsFunc_S_S_int_S_int.eq_1
def R_slices_ContainsFunc_S_S_int_S_int : FIR := ⟨B_slices_ContainsFunc_S_S_int_S_int, 3, [(2, none)]⟩
theorem IR_slices_ContainsFunc_S_S_int_S_int : cfun Tryz.prog H_slices_ContainsFunc_S_S_int_S_int Tryz.f53 = some R_slices_ContainsFunc_S_S_int_S_int := by kernel_rfl
theorem EN_slices_ContainsFunc_S_S_int_S_int {args : List Value} {h : Heap} {k : Value → Heap → Prop} (hargs : args.length = 2) (hw : B_slices_ContainsFunc_S_S_int_S_int.wp Tryz.prog (retQ [(2, none)] k) (env0 args 3) h) : CallE Tryz.prog fn_slices_ContainsFunc_S_S_int_S_int args h k := enter Tryz.func53 rfl IR_slices_ContainsFunc_S_S_int_S_int hargs hw

def H_slices_ContainsFunc_S_impl_State_impl_State : Hint := ⟨[(0, false), (1, false), (4, false)], []⟩
def K50_1 : Pl := .st (.act none (.px (some 6) (.bin .geq (.v 5) (.c (.int .i64 0))))) <|
    .st (.act none (.px (some 2) (.mv (.v 6)))) .done
@[simp] def W50_1 := @Pl.wpe _ _ K50_1.eq_1
def K50_2 : C := .seq (.pl <| .st (.ext 3 4) <|
    .st (.act none (.px (some 3) (.mv (.v 0)))) <|
    .st (.act none (.px (some 4) (.mv (.v 1)))) <|
    .st (.act none (.ex (some 5) (.call fn_slices_IndexFunc_S_impl_State_impl_State [.v 3, .v 4]))) K50_1) (.ret)
@[simp] def W50_2 := @C.wpe _ _ K50_2.eq_1
def B_slices_ContainsFunc_S_impl_State_impl_State : C := .seq (.pl <| .st (.ext 3 0) <|
    .st (.act none (.px (some 2) (.mv (.c (.bool false))))) .done) K50_2
@[simp] def WB_slices_ContainsFunc_S_impl_State_impl_State := @C.wpe _ _ B_slices_ContainsFunc_S_impl_State_impl_State.eq_1
def R_slices_ContainsFunc_S_impl_State_impl_State : FIR := ⟨B_slices_ContainsFunc_S_impl_State_impl_State, 3, [(2, none)]⟩
theorem IR_slices_ContainsFunc_S_impl_State_impl_State : cfun Tryz.prog H_slices_ContainsFunc_S_impl_State_impl_State Tryz.f50 = some R_slices_ContainsFunc_S_impl_State_impl_State := by kernel_rfl
theorem EN_slices_ContainsFunc_S_impl_State_impl_State {args : List Value} {h : Heap} {k : Value → Heap → Prop} (hargs : args.length = 2) (hw : B_slices_ContainsFunc_S_impl_State_impl_State.wp Tryz.prog (retQ [(2, none)] k) (env0 args 3) h) : CallE Tryz.prog fn_slices_ContainsFunc_S_impl_State_impl_State args h k := enter Tryz.func50 rfl IR_slices_ContainsFunc_S_impl_State_impl_State hargs hw

def H_slices_EqualFunc_S_S_int_S_S_int_S_int_S_int : Hint := ⟨[(0, false), (1, false), (2, false), (6, false), (7, false), (8, false), (9, false), (15, false), (16, false), (17, false)], [[0, 3, 4, 5, 6]]⟩
def K43_1 : C := .seq (.pl <| .st (.ext 10 0) <|
    .st (.act none (.px (some 3) (.mv (.c (.bool true))))) .done) (.ret)
@[simp] def W43_1 := @C.wpe _ _ K43_1.eq_1
def K43_2 : C := .pl <| .st (.ext 10 1) <|
    .st (.act none (.px (some 10) (.bin .add (.v 9) (.c (.int .i64 1))))) <|
    .st (.act none (.px (some 9) (.mv (.v 10)))) .done
@[simp] def W43_2 := @C.wpe _ _ K43_2.eq_1
def K43_3 : C := .seq (.pl <| .st (.ext 10 0) <|
    .st (.act none (.px (some 3) (.mv (.c (.bool false))))) .done) (.ret)
@[simp] def W43_3 := @C.wpe _ _ K43_3.eq_1
def K43_4 : C := .cond 10 (.v 14) K43_3 (.skip)
@[simp] def W43_4 := @C.wpe _ _ K43_4.eq_1
def K43_5 : Pl := .st (.act none (.px (some 14) (.un .not (.v 13)))) .done
@[simp] def W43_5 := @Pl.wpe _ _ K43_5.eq_1
def K43_6 : C := .seq (.pl <| .st (.ext 10 5) <|
    .st (.act none (.px (some 10) (.mv (.v 2)))) <|
    .st (.act none (.px (some 11) (.mv (.v 5)))) <|
    .st (.act none (.px (some 12) (.mv (.v 6)))) <|
    .st (.act none (.ex (some 13) (.callv (.v 10) [.v 11, .v 12]))) K43_5) K43_4
@[simp] def W43_6 := @C.wpe _ _ K43_6.eq_1
def K43_7 : C := .seq (.pl <| .st (.ext 10 4) <|
    .st (.act none (.px (some 10) (.mv (.v 1)))) <|
    .st (.act none (.px (some 11) (.mv (.v 4)))) <|
    .st (.act none (.px (some 12) (.ia 1 (.v 10) (.v 11)))) <|
    .st (.act none (.ld (some 13) (.v 12) none)) <|
    .st (.act none (.px (some 6) (.mv (.v 13)))) .done) K43_6
@[simp] def W43_7 := @C.wpe _ _ K43_7.eq_1
def K43_8 : C := .seq (.block 1 (.seq (.pl <| .st (.ext 10 3) <|
    .st (.act none (.px (some 10) (.mv (.v 9)))) <|
    .st (.act none (.px (some 11) (.ia 1 (.v 7) (.v 9)))) <|
    .st (.act none (.ld (some 12) (.v 11) none)) <|
    .st (.act none (.px (some 4) (.mv (.v 10)))) <|
    .st (.act none (.px (some 5) (.mv (.v 12)))) .done) K43_7)) K43_2
@[simp] def W43_8 := @C.wpe _ _ K43_8.eq_1
def K43_9 : C := .seq (.cond 10 (.v 10) (.skip) (.exit 0)) K43_8
@[simp] def W43_9 := @C.wpe _ _ K43_9.eq_1
def K43_10 : C := .seq (.pl <| .st (.ext 10 1) <|
    .st (.act none (.px (some 10) (.bin .lss (.v 9) (.v 8)))) .done) K43_9
@[simp] def W43_10 := @C.wpe _ _ K43_10.eq_1
def K43_11 : C := .block 0 (.loop 10 [0, 3, 4, 5, 6] K43_10)
@[simp] def W43_11 := @C.wpe _ _ K43_11.eq_1
def K43_12 : C := .seq (.seq (.pl <| .st (.ext 10 0) <|
    .st (.act none (.px (some 7) (.mv (.v 0)))) <|
    .st (.act none (.px (some 8) (.lenV (.v 7)))) <|
    .st (.act none (.px (some 9) (.mv (.c (.int .i64 0))))) .done) K43_11) K43_1
@[simp] def W43_12 := @C.wpe _ _ K43_12.eq_1
def K43_13 : C := .seq (.pl <| .st (.ext 10 0) <|
    .st (.act none (.px (some 3) (.mv (.c (.bool false))))) .done) (.ret)
@[simp] def W43_13 := @C.wpe _ _ K43_13.eq_1
def K43_14 : C := .cond 10 (.v 14) K43_13 (.skip)
@[simp] def W43_14 := @C.wpe _ _ K43_14.eq_1
def K43_15 : C := .seq (.seq (.pl <| .st (.ext 10 5) <|
    .st (.act none (.px (some 10) (.mv (.v 0)))) <|
    .st (.act none (.px (some 11) (.lenV (.v 10)))) <|
    .st (.act none (.px (some 12) (.mv (.v 1)))) <|
    .st (.act none (.px (some 13) (.lenV (.v 12)))) <|
    .st (.act none (.px (some 14) (.bin .neq (.v 11) (.v 13)))) .done) K43_14) K43_12
@[simp] def W43_15 := @C.wpe _ _ K43_15.eq_1
def B_slices_EqualFunc_S_S_int_S_S_int_S_int_S_int : C := .seq (.pl <| .st (.ext 10 0) <|
    .st (.act none (.px (some 3) (.mv (.c (.bool false))))) .done) K43_15
@[simp] def WB_slices_EqualFunc_S_S_int_S_S_int_S_int_S_int := @C.wpe _ _ B_slices_EqualFunc_S_S_int_S_S_int_S_int_S_int.eq_1
def R_slices_EqualFunc_S_S_int_S_S_int_S_int_S_int : FIR := ⟨B_slices_EqualFunc_S_S_int_S_S_int_S_int_S_int, 10, [(3, none)]⟩
theorem IR_slices_EqualFunc_S_S_int_S_S_int_S_int_S_int : cfun Tryz.prog H_slices_EqualFunc_S_S_int_S_S_int_S_int_S_int Tryz.f43 = some R_slices_EqualFunc_S_S_int_S_S_int_S_int_S_int := by kernel_rfl
theorem EN_slices_EqualFunc_S_S_int_S_S_int_S_int_S_int {args : List Value} {h : Heap} {k : Value → Heap → Prop} (hargs : args.length = 3) (hw : B_slices_EqualFunc_S_S_int_S_S_int_S_int_S_int.wp Tryz.prog (retQ [(3, none)] k) (env0 args 10) h) : CallE Tryz.prog fn_slices_EqualFunc_S_S_int_S_S_int_S_int_S_int args h k := enter Tryz.func43 rfl IR_slices_EqualFunc_S_S_int_S_S_int_S_int_S_int hargs hw

def H_slices_EqualFunc_S_impl_State_S_impl_State_impl_State_impl_State : Hint := ⟨[(0, false), (1, false), (2, false), (6, false), (7, false), (8, true), (9, true), (15, false), (16, false), (17, false)], [[0, 3, 4, 5, 6]]⟩
def K42_1 : C := .seq (.pl <| .st (.ext 10 0) <|
    .st (.act none (.px (some 3) (.mv (.c (.bool true))))) .done) (.ret)
@[simp] def W42_1 := @C.wpe _ _ K42_1.eq_1
def K42_2 : C := .pl <| .st (.ext 10 1) <|
    .st (.act none (.px (some 10) (.bin .add (.v 9) (.c (.int .i64 1))))) <|
    .st (.act none (.px (some 9) (.mv (.v 10)))) .done
@[simp] def W42_2 := @C.wpe _ _ K42_2.eq_1
def K42_3 : C := .seq (.pl <| .st (.ext 10 0) <|
    .st (.act none (.px (some 3) (.mv (.c (.bool false))))) .done) (.ret)
@[simp] def W42_3 := @C.wpe _ _ K42_3.eq_1
def K42_4 : C := .cond 10 (.v 14) K42_3 (.skip)
@[simp] def W42_4 := @C.wpe _ _ K42_4.eq_1
def K42_5 : Pl := .st (.act none (.px (some 14) (.un .not (.v 13)))) .done
@[simp] def W42_5 := @Pl.wpe _ _ K42_5.eq_1
def K42_6 : C := .seq (.pl <| .st (.ext 10 5) <|
    .st (.act none (.px (some 10) (.mv (.v 2)))) <|
    .st (.act none (.pget (some 11) none 5 0 (some 2))) <|
    .st (.act none (.pget (some 12) none 6 0 (some 2))) <|
    .st (.act none (.ex (some 13) (.callv (.v 10) [.v 11, .v 12]))) K42_5) K42_4
@[simp] def W42_6 := @C.wpe _ _ K42_6.eq_1
def K42_7 : C := .seq (.pl <| .st (.ext 10 4) <|
    .st (.act none (.px (some 10) (.mv (.v 1)))) <|
    .st (.act none (.px (some 11) (.mv (.v 4)))) <|
    .st (.act none (.px (some 12) (.ia 2 (.v 10) (.v 11)))) <|
    .st (.act none (.ld (some 13) (.v 12) (some 2))) <|
    .st (.act none (.pnew 6 (.c (.agg #[.slice none 0 0, .slice none 0 0])) [])) <|
    .st (.act none (.pset none 6 0 2 (.v 13))) .done) K42_6
@[simp] def W42_7 := @C.wpe _ _ K42_7.eq_1
def K42_8 : C := .seq (.block 1 (.seq (.pl <| .st (.ext 10 3) <|
    .st (.act none (.px (some 10) (.mv (.v 9)))) <|
    .st (.act none (.px (some 11) (.ia 2 (.v 7) (.v 9)))) <|
    .st (.act none (.ld (some 12) (.v 11) (some 2))) <|
    .st (.act none (.pnew 5 (.c (.agg #[.slice none 0 0, .slice none 0 0])) [])) <|
    .st (.act none (.px (some 4) (.mv (.v 10)))) <|
    .st (.act none (.pset none 5 0 2 (.v 12))) .done) K42_7)) K42_2
@[simp] def W42_8 := @C.wpe _ _ K42_8.eq_1
def K42_9 : C := .seq (.cond 10 (.v 10) (.skip) (.exit 0)) K42_8
@[simp] def W42_9 := @C.wpe _ _ K42_9.eq_1
def K42_10 : C := .seq (.pl <| .st (.ext 10 1) <|
    .st (.act none (.px (some 10) (.bin .lss (.v 9) (.v 8)))) .done) K42_9
@[simp] def W42_10 := @C.wpe _ _ K42_10.eq_1
def K42_11 : C := .block 0 (.loop 10 [0, 3, 4, 5, 6] K42_10)
@[simp] def W42_11 := @C.wpe _ _ K42_11.eq_1
def K42_12 : C := .seq (.seq (.pl <| .st (.ext 10 0) <|
    .st (.act none (.px (some 7) (.mv (.v 0)))) <|
    .st (.act none (.px (some 8) (.lenV (.v 7)))) <|
    .st (.act none (.px (some 9) (.mv (.c (.int .i64 0))))) .done) K42_11) K42_1
@[simp] def W42_12 := @C.wpe _ _ K42_12.eq_1
def K42_13 : C := .seq (.pl <| .st (.ext 10 0) <|
    .st (.act none (.px (some 3) (.mv (.c (.bool false))))) .done) (.ret)
@[simp] def W42_13 := @C.wpe _ _ K42_13.eq_1
def K42_14 : C := .cond 10 (.v 14) K42_13 (.skip)
@[simp] def W42_14 := @C.wpe _ _ K42_14.eq_1
def K42_15 : C := .seq (.seq (.pl <| .st (.ext 10 5) <|
    .st (.act none (.px (some 10) (.mv (.v 0)))) <|
    .st (.act none (.px (some 11) (.lenV (.v 10)))) <|
    .st (.act none (.px (some 12) (.mv (.v 1)))) <|
    .st (.act none (.px (some 13) (.lenV (.v 12)))) <|
    .st (.act none (.px (some 14) (.bin .neq (.v 11) (.v 13)))) .done) K42_14) K42_12
@[simp] def W42_15 := @C.wpe _ _ K42_15.eq_1
def B_slices_EqualFunc_S_impl_State_S_impl_State_impl_State_impl_State : C := .seq (.pl <| .st (.ext 10 0) <|
    .st (.act none (.px (some 3) (.mv (.c (.bool false))))) .done) K42_15
@[simp] def WB_slices_EqualFunc_S_impl_State_S_impl_State_impl_State_impl_State := @C.wpe _ _ B_slices_EqualFunc_S_impl_State_S_impl_State_impl_State_impl_State.eq_1
def R_slices_EqualFunc_S_impl_State_S_impl_State_impl_State_impl_State : FIR := ⟨B_slices_EqualFunc_S_impl_State_S_impl_State_impl_State_impl_State, 10, [(3, none)]⟩
theorem IR_slices_EqualFunc_S_impl_State_S_impl_State_impl_State_impl_State : cfun Tryz.prog H_slices_EqualFunc_S_impl_State_S_impl_State_impl_State_impl_State Tryz.f42 = some R_slices_EqualFunc_S_impl_State_S_impl_State_impl_State_impl_State := by kernel_rfl
theorem EN_slices_EqualFunc_S_impl_State_S_impl_State_impl_State_impl_State {args : List Value} {h : Heap} {k : Value → Heap → Prop} (hargs : args.length = 3) (hw : B_slices_EqualFunc_S_impl_State_S_impl_State_impl_State_impl_State.wp Tryz.prog (retQ [(3, none)] k) (env0 args 10) h) : CallE Tryz.prog fn_slices_EqualFunc_S_impl_State_S_impl_State_impl_State_impl_State args h k := enter Tryz.func42 rfl IR_slices_EqualFunc_S_impl_State_S_impl_State_impl_State_impl_State hargs hw

def H_slices_IndexFunc_S_S_int_S_int : Hint := ⟨[(0, false), (1, false), (4, false), (5, false), (7, false), (8, false)], [[2, 3]]⟩
def K99_1 : C := .seq (.pl <| .st (.ext 6 0) <|
    .st (.act none (.px (some 2) (.mv (.c (.int .i64 (-1)))))) .done) (.ret)
@[simp] def W99_1 := @C.wpe _ _ K99_1.eq_1
def K99_2 : C := .pl <| .st (.ext 6 1) <|
    .st (.act none (.px (some 6) (.bin .add (.v 5) (.c (.int .i64 1))))) <|
    .st (.act none (.px (some 5) (.mv (.v 6)))) .done
@[simp] def W99_2 := @C.wpe _ _ K99_2.eq_1
def K99_3 : C := .seq (.pl <| .st (.ext 6 1) <|
    .st (.act none (.px (some 6) (.mv (.v 3)))) <|
    .st (.act none (.px (some 2) (.mv (.v 6)))) .done) (.ret)
@[simp] def W99_3 := @C.wpe _ _ K99_3.eq_1
def K99_4 : C := .cond 6 (.v 11) K99_3 (.skip)
@[simp] def W99_4 := @C.wpe _ _ K99_4.eq_1
def K99_5 : C := .seq (.pl <| .st (.ext 6 6) <|
    .st (.act none (.px (some 6) (.mv (.v 1)))) <|
    .st (.act none (.px (some 7) (.mv (.v 0)))) <|
    .st (.act none (.px (some 8) (.mv (.v 3)))) <|
    .st (.act none (.px (some 9) (.ia 1 (.v 7) (.v 8)))) <|
    .st (.act none (.ld (some 10) (.v 9) none)) <|
    .st (.act none (.ex (some 11) (.callv (.v 6) [.v 10]))) .done) K99_4
@[simp] def W99_5 := @C.wpe _ _ K99_5.eq_1
def K99_6 : C := .seq (.block 1 (.seq (.pl <| .st (.ext 6 1) <|
    .st (.act none (.px (some 6) (.mv (.v 5)))) <|
    .st (.act none (.px (some 3) (.mv (.v 6)))) .done) K99_5)) K99_2
@[simp] def W99_6 := @C.wpe _ _ K99_6.eq_1
def K99_7 : C := .seq (.cond 6 (.v 6) (.skip) (.exit 0)) K99_6
@[simp] def W99_7 := @C.wpe _ _ K99_7.eq_1
def K99_8 : C := .seq (.pl <| .st (.ext 6 1) <|
    .st (.act none (.px (some 6) (.bin .lss (.v 5) (.v 4)))) .done) K99_7
@[simp] def W99_8 := @C.wpe _ _ K99_8.eq_1
def K99_9 : C := .block 0 (.loop 6 [2, 3] K99_8)
@[simp] def W99_9 := @C.wpe _ _ K99_9.eq_1
def K99_10 : C := .seq (.seq (.pl <| .st (.ext 6 1) <|
    .st (.act none (.px (some 6) (.mv (.v 0)))) <|
    .st (.act none (.px (some 4) (.lenV (.v 6)))) <|
    .st (.act none (.px (some 5) (.mv (.c (.int .i64 0))))) .done) K99_9) K99_1
@[simp] def W99_10 := @C.wpe _ _ K99_10.eq_1
def B_slices_IndexFunc_S_S_int_S_int : C := .seq (.pl <| .st (.ext 6 0) <|
    .st (.act none (.px (some 2) (.mv (.c (.int .i64 0))))) .done) K99_10
@[simp] def WB_slices_IndexFunc_S_S_int_S_int := @C.wpe _ _ B_slices_IndexFunc_S_S_int_S_int.eq_1
def R_slices_IndexFunc_S_S_int_S_int : FIR := ⟨B_slices_IndexFunc_S_S_int_S_int, 6, [(2, none)]⟩
theorem IR_slices_IndexFunc_S_S_int_S_int : cfun Tryz.prog H_slices_IndexFunc_S_S_int_S_int Tryz.f99 = some R_slices_IndexFunc_S_S_int_S_int := by kernel_rfl
theorem EN_slices_IndexFunc_S_S_int_S_int {args : List Value} {h : Heap} {k : Value → Heap → Prop} (hargs : args.length = 2) (hw : B_slices_IndexFunc_S_S_int_S_int.wp Tryz.prog (retQ [(2, none)] k) (env0 args 6) h) : CallE Tryz.prog fn_slices_IndexFunc_S_S_int_S_int args h k := enter Tryz.func99 rfl IR_slices_IndexFunc_S_S_int_S_int hargs hw

def H_spec_DrawBuildGraph : Hint := ⟨[(0, false), (2, true)], []⟩
def K12_1 : Pl := .st (.act none (.pset none 1 0 2 (.v 3))) .done
@[simp] def W12_1 := @Pl.wpe _ _ K12_1.eq_1
def K12_2 : C := .seq (.pl <| .st (.ext 2 2) <|
    .st (.act none (.px (some 2) (.mv (.v 0)))) <|
    .st (.act none (.ex (some 3) (.call fn_spec_DrawSystemValid [.v 2]))) K12_1) (.ret)
@[simp] def W12_2 := @C.wpe _ _ K12_2.eq_1
def B_spec_DrawBuildGraph : C := .seq (.pl <| .st (.ext 2 0) <|
    .st (.act none (.pnew 1 (.c (.agg #[.slice none 0 0, .slice none 0 0])) [])) .done) K12_2
@[simp] def WB_spec_DrawBuildGraph := @C.wpe _ _ B_spec_DrawBuildGraph.eq_1
def R_spec_DrawBuildGraph : FIR := ⟨B_spec_DrawBuildGraph, 2, [(1, some (some 2))]⟩
theorem IR_spec_DrawBuildGraph : cfun Tryz.prog H_spec_DrawBuildGraph Tryz.f12 = some R_spec_DrawBuildGraph := by kernel_rfl
theorem EN_spec_DrawBuildGraph {args : List Value} {h : Heap} {k : Value → Heap → Prop} (hargs : args.length = 1) (hw : B_spec_DrawBuildGraph.wp Tryz.prog (retQ [(1, some (some 2))] k) (env0 args 2) h) : CallE Tryz.prog fn_spec_DrawBuildGraph args h k := enter Tryz.func12 rfl IR_spec_DrawBuildGraph hargs hw


end Go.Proofs.YtonjglbachhdcaaGreat
