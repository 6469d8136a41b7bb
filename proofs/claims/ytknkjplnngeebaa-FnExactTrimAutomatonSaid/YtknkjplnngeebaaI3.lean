/-
  More bodies of functions in the small language, as a program printed them.
-/
import Derived.Test.YtknkjplnngeebaaI1
namespace Go.Proofs.Ytknkjplnngeebaa
open Go
set_option linter.all false
set_option linter.defProp false
set_option maxRecDepth 1000000

def H_spec_l7Cycle : Hint := ⟨[(0, false), (1, false), (2, true), (4, false), (5, false), (6, false), (7, false), (8, false), (9, false)], [[0, 3, 5, 6, 7, 8], [0, 3, 4, 8], [0, 3, 4]]⟩
def K91_1 : Pl := .st (.act none (.px (some 3) (.mv (.v 9)))) .done
@[simp] def W91_1 := @Pl.wpe _ _ K91_1.eq_1
def K91_2 : C := .seq (.pl <| .st (.ext 9 1) <|
    .st (.act none (.ex (some 9) (.bls 1 0 [.int .i64 0] []))) K91_1) (.ret)
@[simp] def W91_2 := @C.wpe _ _ K91_2.eq_1
def K91_3 : C := .pl <| .st (.ext 9 2) <|
    .st (.act none (.px (some 9) (.mv (.v 7)))) <|
    .st (.act none (.px (some 10) (.bin .add (.v 9) (.c (.int .i64 1))))) <|
    .st (.act none (.px (some 7) (.mv (.v 10)))) .done
@[simp] def W91_3 := @C.wpe _ _ K91_3.eq_1
def K91_4 : C := .pl <| .st (.ext 9 2) <|
    .st (.act none (.px (some 9) (.mv (.v 8)))) <|
    .st (.act none (.px (some 10) (.bin .add (.v 9) (.c (.int .i64 1))))) <|
    .st (.act none (.px (some 8) (.mv (.v 10)))) .done
@[simp] def W91_4 := @C.wpe _ _ K91_4.eq_1
def K91_5 : Pl := .st (.act none (.px (some 3) (.mv (.v 23)))) .done
@[simp] def W91_5 := @Pl.wpe _ _ K91_5.eq_1
def K91_6 : Pl := .st (.re 21 (.v 20) none none) <|
    .st (.act none (.ex (some 23) (.app 8 1 [.int .i64 0] (.o (.v 15)) (.p 1 22)))) K91_5
@[simp] def W91_6 := @Pl.wpe _ _ K91_6.eq_1
def K91_7 : C := .seq (.pl <| .st (.ext 9 15) <|
    .st (.act none (.pget (some 9) none 2 0 (some 3))) <|
    .st (.act none (.px (some 10) (.mv (.v 5)))) <|
    .st (.act none (.px (some 11) (.mv (.v 6)))) <|
    .st (.act none (.px (some 12) (.mv (.v 7)))) <|
    .st (.act none (.px (some 13) (.ia 1 (.v 11) (.v 12)))) <|
    .st (.act none (.ld (some 14) (.v 13) none)) <|
    .st (.act none (.als 16 none 2)) <|
    .st (.act none (.pget (some 17) (some 16) 2 2 none)) <|
    .st (.act none (.px (some 18) (.mv (.v 8)))) <|
    .st (.act none (.px (some 19) (.ia 4 (.v 17) (.v 18)))) <|
    .st (.act none (.px (some 20) (.fa 2 (.v 19)))) <|
    .st (.act none (.ld (some 21) (.v 20) none)) <|
    .st (.act none (.psl 22 [.int .i64 0] [(0, 1, .v 21)])) <|
    .st (.act none (.ex (some 15) (.call fn_spec_l7Letters [.v 9, .v 10, .v 14]))) K91_6) (.ret)
@[simp] def W91_7 := @C.wpe _ _ K91_7.eq_1
def K91_8 : C := .cond 9 (.v 29) K91_7 (.skip)
@[simp] def W91_8 := @C.wpe _ _ K91_8.eq_1
def K91_9 : C := .seq (.block 5 (.seq (.pl <| .st (.ext 9 21) <|
    .st (.act none (.als 9 none 2)) <|
    .st (.act none (.pget (some 10) (some 9) 2 2 none)) <|
    .st (.act none (.px (some 11) (.mv (.v 8)))) <|
    .st (.act none (.px (some 12) (.ia 4 (.v 10) (.v 11)))) <|
    .st (.act none (.px (some 13) (.fa 0 (.v 12)))) <|
    .st (.act none (.ld (some 14) (.v 13) none)) <|
    .st (.act none (.px (some 15) (.mv (.v 6)))) <|
    .st (.act none (.px (some 16) (.mv (.v 7)))) <|
    .st (.act none (.px (some 17) (.ia 1 (.v 15) (.v 16)))) <|
    .st (.act none (.ld (some 18) (.v 17) none)) <|
    .st (.act none (.px (some 19) (.bin .eql (.v 14) (.v 18)))) <|
    .st (.act none (.px (some 20) (.mv (.v 19)))) <|
    .st (.act (some (.v 20, true)) (.als 21 none 2)) <|
    .st (.act (some (.v 20, true)) (.pget (some 22) (some 21) 2 2 none)) <|
    .st (.act (some (.v 20, true)) (.px (some 23) (.mv (.v 8)))) <|
    .st (.act (some (.v 20, true)) (.px (some 24) (.ia 4 (.v 22) (.v 23)))) <|
    .st (.act (some (.v 20, true)) (.px (some 25) (.fa 3 (.v 24)))) <|
    .st (.act (some (.v 20, true)) (.ld (some 26) (.v 25) none)) <|
    .st (.act (some (.v 20, true)) (.px (some 27) (.mv (.v 1)))) <|
    .st (.act (some (.v 20, true)) (.px (some 28) (.bin .eql (.v 26) (.v 27)))) <|
    .st (.act none (.px (some 29) (.pick (.v 20) (.v 28) (.c (.bool false))))) .done) K91_8)) K91_4
@[simp] def W91_9 := @C.wpe _ _ K91_9.eq_1
def K91_10 : C := .cond 9 (.v 13) (.skip) (.exit 4)
@[simp] def W91_10 := @C.wpe _ _ K91_10.eq_1
def K91_11 : C := .seq (.seq (.pl <| .st (.ext 9 5) <|
    .st (.act none (.px (some 9) (.mv (.v 8)))) <|
    .st (.act none (.als 10 none 2)) <|
    .st (.act none (.pget (some 11) (some 10) 2 2 none)) <|
    .st (.act none (.px (some 12) (.lenV (.v 11)))) <|
    .st (.act none (.px (some 13) (.bin .lss (.v 9) (.v 12)))) .done) K91_10) K91_9
@[simp] def W91_11 := @C.wpe _ _ K91_11.eq_1
def K91_12 : C := .block 4 (.loop 9 [0, 3, 4] K91_11)
@[simp] def W91_12 := @C.wpe _ _ K91_12.eq_1
def K91_13 : C := .seq (.block 3 (.seq (.pl <| .st (.ext 9 0) <|
    .st (.act none (.px (some 8) (.mv (.c (.int .i64 0))))) .done) K91_12)) K91_3
@[simp] def W91_13 := @C.wpe _ _ K91_13.eq_1
def K91_14 : C := .cond 9 (.v 12) (.skip) (.exit 2)
@[simp] def W91_14 := @C.wpe _ _ K91_14.eq_1
def K91_15 : C := .seq (.seq (.pl <| .st (.ext 9 4) <|
    .st (.act none (.px (some 9) (.mv (.v 7)))) <|
    .st (.act none (.px (some 10) (.mv (.v 6)))) <|
    .st (.act none (.px (some 11) (.lenV (.v 10)))) <|
    .st (.act none (.px (some 12) (.bin .lss (.v 9) (.v 11)))) .done) K91_14) K91_13
@[simp] def W91_15 := @C.wpe _ _ K91_15.eq_1
def K91_16 : C := .block 2 (.loop 9 [0, 3, 4, 8] K91_15)
@[simp] def W91_16 := @C.wpe _ _ K91_16.eq_1
def K91_17 : C := .seq (.seq (.pl <| .st (.ext 9 0) <|
    .st (.act none (.px (some 7) (.mv (.c (.int .i64 0))))) .done) K91_16) K91_2
@[simp] def W91_17 := @C.wpe _ _ K91_17.eq_1
def K91_18 : Pl := .st (.act none (.px (some 13) (.mv (.v 12)))) <|
    .st (.act none (.px (some 14) (.extract 0 (.v 13)))) <|
    .st (.act none (.px (some 15) (.extract 1 (.v 13)))) <|
    .st (.act none (.px (some 5) (.mv (.v 14)))) <|
    .st (.act none (.px (some 6) (.mv (.v 15)))) .done
@[simp] def W91_18 := @Pl.wpe _ _ K91_18.eq_1
def K91_19 : Pl := .st (.act none (.ex (some 12) (.call fn_spec_l7Tree [.v 9, .v 11]))) K91_18
@[simp] def W91_19 := @Pl.wpe _ _ K91_19.eq_1
def K91_20 : C := .seq (.pl <| .st (.ext 9 7) <|
    .st (.act none (.pget (some 9) none 2 0 (some 3))) <|
    .st (.act none (.px (some 10) (.mv (.v 1)))) <|
    .st (.act none (.ex (some 11) (.bls 1 1 [.int .i64 0] [(0, 1, .v 10)]))) K91_19) K91_17
@[simp] def W91_20 := @C.wpe _ _ K91_20.eq_1
def K91_21 : C := .pl <| .st (.ext 9 2) <|
    .st (.act none (.px (some 9) (.mv (.v 4)))) <|
    .st (.act none (.px (some 10) (.bin .add (.v 9) (.c (.int .i64 1))))) <|
    .st (.act none (.px (some 4) (.mv (.v 10)))) .done
@[simp] def W91_21 := @C.wpe _ _ K91_21.eq_1
def K91_22 : Pl := .st (.act none (.px (some 3) (.mv (.v 15)))) .done
@[simp] def W91_22 := @Pl.wpe _ _ K91_22.eq_1
def K91_23 : C := .seq (.pl <| .st (.ext 9 7) <|
    .st (.act none (.als 9 none 2)) <|
    .st (.act none (.pget (some 10) (some 9) 2 2 none)) <|
    .st (.act none (.px (some 11) (.mv (.v 4)))) <|
    .st (.act none (.px (some 12) (.ia 4 (.v 10) (.v 11)))) <|
    .st (.act none (.px (some 13) (.fa 2 (.v 12)))) <|
    .st (.act none (.ld (some 14) (.v 13) none)) <|
    .st (.act none (.ex (some 15) (.bls 1 1 [.int .i64 0] [(0, 1, .v 14)]))) K91_22) (.ret)
@[simp] def W91_23 := @C.wpe _ _ K91_23.eq_1
def K91_24 : C := .cond 9 (.v 26) K91_23 (.skip)
@[simp] def W91_24 := @C.wpe _ _ K91_24.eq_1
def K91_25 : C := .seq (.block 1 (.seq (.pl <| .st (.ext 9 18) <|
    .st (.act none (.als 9 none 2)) <|
    .st (.act none (.pget (some 10) (some 9) 2 2 none)) <|
    .st (.act none (.px (some 11) (.mv (.v 4)))) <|
    .st (.act none (.px (some 12) (.ia 4 (.v 10) (.v 11)))) <|
    .st (.act none (.px (some 13) (.fa 0 (.v 12)))) <|
    .st (.act none (.ld (some 14) (.v 13) none)) <|
    .st (.act none (.px (some 15) (.mv (.v 1)))) <|
    .st (.act none (.px (some 16) (.bin .eql (.v 14) (.v 15)))) <|
    .st (.act none (.px (some 17) (.mv (.v 16)))) <|
    .st (.act (some (.v 17, true)) (.als 18 none 2)) <|
    .st (.act (some (.v 17, true)) (.pget (some 19) (some 18) 2 2 none)) <|
    .st (.act (some (.v 17, true)) (.px (some 20) (.mv (.v 4)))) <|
    .st (.act (some (.v 17, true)) (.px (some 21) (.ia 4 (.v 19) (.v 20)))) <|
    .st (.act (some (.v 17, true)) (.px (some 22) (.fa 3 (.v 21)))) <|
    .st (.act (some (.v 17, true)) (.ld (some 23) (.v 22) none)) <|
    .st (.act (some (.v 17, true)) (.px (some 24) (.mv (.v 1)))) <|
    .st (.act (some (.v 17, true)) (.px (some 25) (.bin .eql (.v 23) (.v 24)))) <|
    .st (.act none (.px (some 26) (.pick (.v 17) (.v 25) (.c (.bool false))))) .done) K91_24)) K91_21
@[simp] def W91_25 := @C.wpe _ _ K91_25.eq_1
def K91_26 : C := .cond 9 (.v 13) (.skip) (.exit 0)
@[simp] def W91_26 := @C.wpe _ _ K91_26.eq_1
def K91_27 : C := .seq (.seq (.pl <| .st (.ext 9 5) <|
    .st (.act none (.px (some 9) (.mv (.v 4)))) <|
    .st (.act none (.als 10 none 2)) <|
    .st (.act none (.pget (some 11) (some 10) 2 2 none)) <|
    .st (.act none (.px (some 12) (.lenV (.v 11)))) <|
    .st (.act none (.px (some 13) (.bin .lss (.v 9) (.v 12)))) .done) K91_26) K91_25
@[simp] def W91_27 := @C.wpe _ _ K91_27.eq_1
def K91_28 : C := .block 0 (.loop 9 [0, 3, 5, 6, 7, 8] K91_27)
@[simp] def W91_28 := @C.wpe _ _ K91_28.eq_1
def K91_29 : C := .seq (.seq (.pl <| .st (.ext 9 0) <|
    .st (.act none (.px (some 4) (.mv (.c (.int .i64 0))))) .done) K91_28) K91_20
@[simp] def W91_29 := @C.wpe _ _ K91_29.eq_1
def B_spec_l7Cycle : C := .seq (.pl <| .st (.ext 9 0) <|
    .st (.act none (.pnew 2 (.v 0) [])) <|
    .st (.act none (.px (some 3) (.mv (.c (.slice none 0 0))))) .done) K91_29
@[simp] def WB_spec_l7Cycle := @C.wpe _ _ B_spec_l7Cycle.eq_1
def R_spec_l7Cycle : FIR := ⟨B_spec_l7Cycle, 9, [(3, none)]⟩
theorem IR_spec_l7Cycle : cfun Try.prog H_spec_l7Cycle Try.f91 = some R_spec_l7Cycle := by kernel_rfl
theorem EN_spec_l7Cycle {args : List Value} {h : Heap} {k : Value → Heap → Prop} (hargs : args.length = 2) (hw : B_spec_l7Cycle.wp Try.prog (retQ [(3, none)] k) (env0 args 9) h) : CallE Try.prog fn_spec_l7Cycle args h k := enter Try.func91 rfl IR_spec_l7Cycle hargs hw

def H_spec_l7Edge : Hint := ⟨[(0, false), (1, false), (2, true), (4, false)], []⟩
def K59_1 : C := .seq (.pl <| .st (.ext 4 45) <|
    .st (.act none (.als 4 none 2)) <|
    .st (.act none (.pget (some 5) (some 4) 2 0 none)) <|
    .st (.act none (.px (some 6) (.bin .geq (.v 5) (.c (.int .i64 0))))) <|
    .st (.act none (.px (some 7) (.mv (.v 6)))) <|
    .st (.act (some (.v 7, true)) (.als 8 none 2)) <|
    .st (.act (some (.v 7, true)) (.pget (some 9) (some 8) 2 0 none)) <|
    .st (.act (some (.v 7, true)) (.px (some 10) (.mv (.v 1)))) <|
    .st (.act (some (.v 7, true)) (.px (some 11) (.bin .lss (.v 9) (.v 10)))) <|
    .st (.act none (.px (some 12) (.pick (.v 7) (.v 11) (.c (.bool false))))) <|
    .st (.act none (.px (some 13) (.mv (.v 12)))) <|
    .st (.act (some (.v 13, true)) (.als 14 none 2)) <|
    .st (.act (some (.v 13, true)) (.pget (some 15) (some 14) 2 3 none)) <|
    .st (.act (some (.v 13, true)) (.px (some 16) (.bin .geq (.v 15) (.c (.int .i64 0))))) <|
    .st (.act none (.px (some 17) (.pick (.v 13) (.v 16) (.c (.bool false))))) <|
    .st (.act none (.px (some 18) (.mv (.v 17)))) <|
    .st (.act (some (.v 18, true)) (.als 19 none 2)) <|
    .st (.act (some (.v 18, true)) (.pget (some 20) (some 19) 2 3 none)) <|
    .st (.act (some (.v 18, true)) (.px (some 21) (.mv (.v 1)))) <|
    .st (.act (some (.v 18, true)) (.px (some 22) (.bin .lss (.v 20) (.v 21)))) <|
    .st (.act none (.px (some 23) (.pick (.v 18) (.v 22) (.c (.bool false))))) <|
    .st (.act none (.px (some 24) (.mv (.v 23)))) <|
    .st (.act (some (.v 24, true)) (.als 25 none 2)) <|
    .st (.act (some (.v 24, true)) (.pget (some 26) (some 25) 2 1 none)) <|
    .st (.act (some (.v 24, true)) (.px (some 27) (.bin .geq (.v 26) (.c (.int .i64 0))))) <|
    .st (.act none (.px (some 28) (.pick (.v 24) (.v 27) (.c (.bool false))))) <|
    .st (.act none (.px (some 29) (.mv (.v 28)))) <|
    .st (.act (some (.v 29, true)) (.als 30 none 2)) <|
    .st (.act (some (.v 29, true)) (.pget (some 31) (some 30) 2 1 none)) <|
    .st (.act (some (.v 29, true)) (.px (some 32) (.bin .leq (.v 31) (.c (.int .i64 7))))) <|
    .st (.act none (.px (some 33) (.pick (.v 29) (.v 32) (.c (.bool false))))) <|
    .st (.act none (.px (some 34) (.mv (.v 33)))) <|
    .st (.act (some (.v 34, true)) (.als 35 none 2)) <|
    .st (.act (some (.v 34, true)) (.pget (some 36) (some 35) 2 2 none)) <|
    .st (.act (some (.v 34, true)) (.px (some 37) (.bin .geq (.v 36) (.c (.int .i64 0))))) <|
    .st (.act none (.px (some 38) (.pick (.v 34) (.v 37) (.c (.bool false))))) <|
    .st (.act none (.px (some 39) (.mv (.v 38)))) <|
    .st (.act (some (.v 39, true)) (.als 40 none 2)) <|
    .st (.act (some (.v 39, true)) (.pget (some 41) (some 40) 2 2 none)) <|
    .st (.act (some (.v 39, true)) (.als 42 none 2)) <|
    .st (.act (some (.v 39, true)) (.pget (some 43) (some 42) 2 1 none)) <|
    .st (.act (some (.v 39, true)) (.px (some 44) (.bin .and (.v 41) (.v 43)))) <|
    .st (.act (some (.v 39, true)) (.als 45 none 2)) <|
    .st (.act (some (.v 39, true)) (.pget (some 46) (some 45) 2 2 none)) <|
    .st (.act (some (.v 39, true)) (.px (some 47) (.bin .eql (.v 44) (.v 46)))) <|
    .st (.act none (.px (some 48) (.pick (.v 39) (.v 47) (.c (.bool false))))) <|
    .st (.act none (.px (some 3) (.mv (.v 48)))) .done) (.ret)
@[simp] def W59_1 := @C.wpe _ _ K59_1.eq_1
def B_spec_l7Edge : C := .seq (.pl <| .st (.ext 4 0) <|
    .st (.act none (.pnew 2 (.v 0) [])) <|
    .st (.act none (.px (some 3) (.mv (.c (.bool false))))) .done) K59_1
@[simp] def WB_spec_l7Edge := @C.wpe _ _ B_spec_l7Edge.eq_1
def R_spec_l7Edge : FIR := ⟨B_spec_l7Edge, 4, [(3, none)]⟩
theorem IR_spec_l7Edge : cfun Try.prog H_spec_l7Edge Try.f59 = some R_spec_l7Edge := by kernel_rfl
theorem EN_spec_l7Edge {args : List Value} {h : Heap} {k : Value → Heap → Prop} (hargs : args.length = 2) (hw : B_spec_l7Edge.wp Try.prog (retQ [(3, none)] k) (env0 args 4) h) : CallE Try.prog fn_spec_l7Edge args h k := enter Try.func59 rfl IR_spec_l7Edge hargs hw

def H_spec_l7Letters : Hint := ⟨[(0, false), (1, false), (2, false), (3, true), (6, false), (7, false), (8, true)], [[0, 4, 6]]⟩
def K92_1 : C := .seq (.pl <| .st (.ext 7 1) <|
    .st (.act none (.px (some 7) (.mv (.v 5)))) <|
    .st (.act none (.px (some 4) (.mv (.v 7)))) .done) (.ret)
@[simp] def W92_1 := @C.wpe _ _ K92_1.eq_1
def K92_2 : C := .pl <| .st (.ext 7 2) <|
    .st (.act none (.als 7 none 6)) <|
    .st (.act none (.pget (some 8) (some 7) 6 0 none)) <|
    .st (.act none (.px (some 2) (.mv (.v 8)))) .done
@[simp] def W92_2 := @C.wpe _ _ K92_2.eq_1
def K92_3 : Pl := .st (.act none (.px (some 5) (.mv (.v 11)))) .done
@[simp] def W92_3 := @Pl.wpe _ _ K92_3.eq_1
def K92_4 : Pl := .st (.act none (.px (some 10) (.mv (.v 5)))) <|
    .st (.act none (.ex (some 11) (.app 8 1 [.int .i64 0] (.o (.v 9)) (.o (.v 10))))) K92_3
@[simp] def W92_4 := @Pl.wpe _ _ K92_4.eq_1
def K92_5 : C := .seq (.pl <| .st (.ext 7 5) <|
    .st (.act none (.als 7 none 6)) <|
    .st (.act none (.pget (some 8) (some 7) 6 2 none)) <|
    .st (.act none (.ex (some 9) (.bls 1 1 [.int .i64 0] [(0, 1, .v 8)]))) K92_4) K92_2
@[simp] def W92_5 := @C.wpe _ _ K92_5.eq_1
def K92_6 : C := .block 1 (.seq (.pl <| .st (.ext 7 8) <|
    .st (.act none (.als 7 none 3)) <|
    .st (.act none (.pget (some 8) (some 7) 3 2 none)) <|
    .st (.act none (.px (some 9) (.mv (.v 1)))) <|
    .st (.act none (.px (some 10) (.mv (.v 2)))) <|
    .st (.act none (.px (some 11) (.ia 1 (.v 9) (.v 10)))) <|
    .st (.act none (.ld (some 12) (.v 11) none)) <|
    .st (.act none (.px (some 13) (.ia 4 (.v 8) (.v 12)))) <|
    .st (.act none (.ld (some 14) (.v 13) (some 4))) <|
    .st (.act none (.pnew 6 (.c (.agg #[.int .i64 0, .int .i64 0, .int .i64 0, .int .i64 0])) [])) <|
    .st (.act none (.pset none 6 0 4 (.v 14))) .done) K92_5)
@[simp] def W92_6 := @C.wpe _ _ K92_6.eq_1
def K92_7 : C := .cond 7 (.v 11) (.skip) (.exit 0)
@[simp] def W92_7 := @C.wpe _ _ K92_7.eq_1
def K92_8 : C := .seq (.seq (.pl <| .st (.ext 7 5) <|
    .st (.act none (.px (some 7) (.mv (.v 1)))) <|
    .st (.act none (.px (some 8) (.mv (.v 2)))) <|
    .st (.act none (.px (some 9) (.ia 1 (.v 7) (.v 8)))) <|
    .st (.act none (.ld (some 10) (.v 9) none)) <|
    .st (.act none (.px (some 11) (.bin .geq (.v 10) (.c (.int .i64 0))))) .done) K92_7) K92_6
@[simp] def W92_8 := @C.wpe _ _ K92_8.eq_1
def K92_9 : C := .seq (.block 0 (.loop 7 [0, 4, 6] K92_8)) K92_1
@[simp] def W92_9 := @C.wpe _ _ K92_9.eq_1
def K92_10 : Pl := .st (.act none (.px (some 5) (.mv (.v 7)))) .done
@[simp] def W92_10 := @Pl.wpe _ _ K92_10.eq_1
def K92_11 : C := .seq (.pl <| .st (.ext 7 1) <|
    .st (.act none (.ex (some 7) (.bls 1 0 [.int .i64 0] []))) K92_10) K92_9
@[simp] def W92_11 := @C.wpe _ _ K92_11.eq_1
def B_spec_l7Letters : C := .seq (.pl <| .st (.ext 7 0) <|
    .st (.act none (.pnew 3 (.v 0) [])) <|
    .st (.act none (.px (some 4) (.mv (.c (.slice none 0 0))))) .done) K92_11
@[simp] def WB_spec_l7Letters := @C.wpe _ _ B_spec_l7Letters.eq_1
def R_spec_l7Letters : FIR := ⟨B_spec_l7Letters, 7, [(4, none)]⟩
theorem IR_spec_l7Letters : cfun Try.prog H_spec_l7Letters Try.f92 = some R_spec_l7Letters := by kernel_rfl
theorem EN_spec_l7Letters {args : List Value} {h : Heap} {k : Value → Heap → Prop} (hargs : args.length = 3) (hw : B_spec_l7Letters.wp Try.prog (retQ [(4, none)] k) (env0 args 7) h) : CallE Try.prog fn_spec_l7Letters args h k := enter Try.func92 rfl IR_spec_l7Letters hargs hw

def H_spec_l7Loop : Hint := ⟨[(0, false), (1, false), (4, false), (5, false), (6, false), (7, false), (8, false), (9, false)], [[2, 4, 5, 6, 7], [2, 3, 7]]⟩
def K98_1 : C := .seq (.pl <| .st (.ext 8 0) <|
    .st (.act none (.px (some 2) (.mv (.c (.bool false))))) .done) (.ret)
@[simp] def W98_1 := @C.wpe _ _ K98_1.eq_1
def K98_2 : C := .pl <| .st (.ext 8 2) <|
    .st (.act none (.px (some 8) (.mv (.v 6)))) <|
    .st (.act none (.px (some 9) (.bin .add (.v 8) (.c (.int .i64 1))))) <|
    .st (.act none (.px (some 6) (.mv (.v 9)))) .done
@[simp] def W98_2 := @C.wpe _ _ K98_2.eq_1
def K98_3 : Pl := .st (.act none (.px (some 5) (.mv (.v 13)))) .done
@[simp] def W98_3 := @Pl.wpe _ _ K98_3.eq_1
def K98_4 : C := .pl <| .st (.ext 8 6) <|
    .st (.act none (.px (some 8) (.mv (.v 5)))) <|
    .st (.act none (.px (some 9) (.mv (.v 0)))) <|
    .st (.act none (.px (some 10) (.mv (.v 7)))) <|
    .st (.act none (.px (some 11) (.ia 1 (.v 9) (.v 10)))) <|
    .st (.act none (.ld (some 12) (.v 11) none)) <|
    .st (.act none (.ex (some 13) (.app 8 1 [.int .i64 0] (.o (.v 8)) (.o (.v 12))))) K98_3
@[simp] def W98_4 := @C.wpe _ _ K98_4.eq_1
def K98_5 : C := .seq (.pl <| .st (.ext 8 3) <|
    .st (.act none (.px (some 8) (.mv (.v 4)))) <|
    .st (.act none (.px (some 9) (.mv (.v 7)))) <|
    .st (.act none (.px (some 10) (.ia 1 (.v 8) (.v 9)))) <|
    .st (.act none (.ex none (.store 1 (.v 10) (.c (.bool true))))) .done) K98_4
@[simp] def W98_5 := @C.wpe _ _ K98_5.eq_1
def K98_6 : C := .cond 8 (.v 12) K98_5 (.skip)
@[simp] def W98_6 := @C.wpe _ _ K98_6.eq_1
def K98_7 : C := .seq (.pl <| .st (.ext 8 5) <|
    .st (.act none (.px (some 8) (.mv (.v 4)))) <|
    .st (.act none (.px (some 9) (.mv (.v 7)))) <|
    .st (.act none (.px (some 10) (.ia 1 (.v 8) (.v 9)))) <|
    .st (.act none (.ld (some 11) (.v 10) none)) <|
    .st (.act none (.px (some 12) (.un .not (.v 11)))) .done) K98_6
@[simp] def W98_7 := @C.wpe _ _ K98_7.eq_1
def K98_8 : C := .seq (.pl <| .st (.ext 8 0) <|
    .st (.act none (.px (some 2) (.mv (.c (.bool true))))) .done) (.ret)
@[simp] def W98_8 := @C.wpe _ _ K98_8.eq_1
def K98_9 : C := .cond 8 (.v 10) K98_8 (.skip)
@[simp] def W98_9 := @C.wpe _ _ K98_9.eq_1
def K98_10 : C := .seq (.seq (.pl <| .st (.ext 8 3) <|
    .st (.act none (.px (some 8) (.mv (.v 7)))) <|
    .st (.act none (.px (some 9) (.mv (.v 1)))) <|
    .st (.act none (.px (some 10) (.bin .eql (.v 8) (.v 9)))) .done) K98_9) K98_7
@[simp] def W98_10 := @C.wpe _ _ K98_10.eq_1
def K98_11 : C := .seq (.block 3 (.seq (.pl <| .st (.ext 8 4) <|
    .st (.act none (.px (some 8) (.mv (.v 5)))) <|
    .st (.act none (.px (some 9) (.mv (.v 6)))) <|
    .st (.act none (.px (some 10) (.ia 1 (.v 8) (.v 9)))) <|
    .st (.act none (.ld (some 11) (.v 10) none)) <|
    .st (.act none (.px (some 7) (.mv (.v 11)))) .done) K98_10)) K98_2
@[simp] def W98_11 := @C.wpe _ _ K98_11.eq_1
def K98_12 : C := .cond 8 (.v 11) (.skip) (.exit 2)
@[simp] def W98_12 := @C.wpe _ _ K98_12.eq_1
def K98_13 : C := .seq (.seq (.pl <| .st (.ext 8 4) <|
    .st (.act none (.px (some 8) (.mv (.v 6)))) <|
    .st (.act none (.px (some 9) (.mv (.v 5)))) <|
    .st (.act none (.px (some 10) (.lenV (.v 9)))) <|
    .st (.act none (.px (some 11) (.bin .lss (.v 8) (.v 10)))) .done) K98_12) K98_11
@[simp] def W98_13 := @C.wpe _ _ K98_13.eq_1
def K98_14 : C := .block 2 (.loop 8 [2, 3, 7] K98_13)
@[simp] def W98_14 := @C.wpe _ _ K98_14.eq_1
def K98_15 : C := .seq (.seq (.pl <| .st (.ext 8 0) <|
    .st (.act none (.px (some 6) (.mv (.c (.int .i64 0))))) .done) K98_14) K98_1
@[simp] def W98_15 := @C.wpe _ _ K98_15.eq_1
def K98_16 : Pl := .st (.act none (.px (some 5) (.mv (.v 13)))) .done
@[simp] def W98_16 := @Pl.wpe _ _ K98_16.eq_1
def K98_17 : C := .seq (.pl <| .st (.ext 8 6) <|
    .st (.act none (.psl 8 [] [])) <|
    .st (.act none (.px (some 9) (.mv (.v 0)))) <|
    .st (.act none (.px (some 10) (.mv (.v 1)))) <|
    .st (.act none (.px (some 11) (.ia 1 (.v 9) (.v 10)))) <|
    .st (.act none (.ld (some 12) (.v 11) none)) <|
    .st (.act none (.ex (some 13) (.app 8 1 [.int .i64 0] (.p 0 8) (.o (.v 12))))) K98_16) K98_15
@[simp] def W98_17 := @C.wpe _ _ K98_17.eq_1
def K98_18 : Pl := .st (.act none (.px (some 4) (.mv (.v 10)))) .done
@[simp] def W98_18 := @Pl.wpe _ _ K98_18.eq_1
def K98_19 : C := .seq (.pl <| .st (.ext 8 3) <|
    .st (.act none (.px (some 8) (.mv (.v 0)))) <|
    .st (.act none (.px (some 9) (.lenV (.v 8)))) <|
    .st (.act none (.ex (some 10) (.mks 1 1 [.bool false] (.v 9) (.v 9)))) K98_18) K98_17
@[simp] def W98_19 := @C.wpe _ _ K98_19.eq_1
def K98_20 : C := .pl <| .st (.ext 8 2) <|
    .st (.act none (.px (some 8) (.mv (.v 3)))) <|
    .st (.act none (.px (some 9) (.bin .add (.v 8) (.c (.int .i64 1))))) <|
    .st (.act none (.px (some 3) (.mv (.v 9)))) .done
@[simp] def W98_20 := @C.wpe _ _ K98_20.eq_1
def K98_21 : C := .seq (.pl <| .st (.ext 8 0) <|
    .st (.act none (.px (some 2) (.mv (.c (.bool true))))) .done) (.ret)
@[simp] def W98_21 := @C.wpe _ _ K98_21.eq_1
def K98_22 : C := .cond 8 (.v 16) K98_21 (.skip)
@[simp] def W98_22 := @C.wpe _ _ K98_22.eq_1
def K98_23 : C := .seq (.block 1 (.seq (.pl <| .st (.ext 8 9) <|
    .st (.act none (.px (some 8) (.mv (.v 0)))) <|
    .st (.act none (.px (some 9) (.mv (.v 1)))) <|
    .st (.act none (.px (some 10) (.ia 1 (.v 8) (.v 9)))) <|
    .st (.act none (.ld (some 11) (.v 10) none)) <|
    .st (.act none (.px (some 12) (.mv (.v 3)))) <|
    .st (.act none (.px (some 13) (.ia 1 (.v 11) (.v 12)))) <|
    .st (.act none (.ld (some 14) (.v 13) none)) <|
    .st (.act none (.px (some 15) (.mv (.v 1)))) <|
    .st (.act none (.px (some 16) (.bin .eql (.v 14) (.v 15)))) .done) K98_22)) K98_20
@[simp] def W98_23 := @C.wpe _ _ K98_23.eq_1
def K98_24 : C := .cond 8 (.v 14) (.skip) (.exit 0)
@[simp] def W98_24 := @C.wpe _ _ K98_24.eq_1
def K98_25 : C := .seq (.seq (.pl <| .st (.ext 8 7) <|
    .st (.act none (.px (some 8) (.mv (.v 3)))) <|
    .st (.act none (.px (some 9) (.mv (.v 0)))) <|
    .st (.act none (.px (some 10) (.mv (.v 1)))) <|
    .st (.act none (.px (some 11) (.ia 1 (.v 9) (.v 10)))) <|
    .st (.act none (.ld (some 12) (.v 11) none)) <|
    .st (.act none (.px (some 13) (.lenV (.v 12)))) <|
    .st (.act none (.px (some 14) (.bin .lss (.v 8) (.v 13)))) .done) K98_24) K98_23
@[simp] def W98_25 := @C.wpe _ _ K98_25.eq_1
def K98_26 : C := .block 0 (.loop 8 [2, 4, 5, 6, 7] K98_25)
@[simp] def W98_26 := @C.wpe _ _ K98_26.eq_1
def K98_27 : C := .seq (.seq (.pl <| .st (.ext 8 0) <|
    .st (.act none (.px (some 3) (.mv (.c (.int .i64 0))))) .done) K98_26) K98_19
@[simp] def W98_27 := @C.wpe _ _ K98_27.eq_1
def B_spec_l7Loop : C := .seq (.pl <| .st (.ext 8 0) <|
    .st (.act none (.px (some 2) (.mv (.c (.bool false))))) .done) K98_27
@[simp] def WB_spec_l7Loop := @C.wpe _ _ B_spec_l7Loop.eq_1
def R_spec_l7Loop : FIR := ⟨B_spec_l7Loop, 8, [(2, none)]⟩
theorem IR_spec_l7Loop : cfun Try.prog H_spec_l7Loop Try.f98 = some R_spec_l7Loop := by kernel_rfl
theorem EN_spec_l7Loop {args : List Value} {h : Heap} {k : Value → Heap → Prop} (hargs : args.length = 2) (hw : B_spec_l7Loop.wp Try.prog (retQ [(2, none)] k) (env0 args 8) h) : CallE Try.prog fn_spec_l7Loop args h k := enter Try.func98 rfl IR_spec_l7Loop hargs hw

def H_spec_l7Next : Hint := ⟨[(0, false), (1, true), (2, false), (3, false), (4, false), (5, true)], [[0, 2, 5]]⟩
def K62_1 : C := .seq (.pl <| .st (.ext 6 1) <|
    .st (.act none (.px (some 6) (.mv (.v 3)))) <|
    .st (.act none (.px (some 2) (.mv (.v 6)))) .done) (.ret)
@[simp] def W62_1 := @C.wpe _ _ K62_1.eq_1
def K62_2 : C := .pl <| .st (.ext 6 2) <|
    .st (.act none (.px (some 6) (.mv (.v 4)))) <|
    .st (.act none (.px (some 7) (.bin .add (.v 6) (.c (.int .i64 1))))) <|
    .st (.act none (.px (some 4) (.mv (.v 7)))) .done
@[simp] def W62_2 := @C.wpe _ _ K62_2.eq_1
def K62_3 : Pl := .st (.act none (.px (some 18) (.ia 1 (.v 6) (.v 8)))) <|
    .st (.act none (.ex none (.store 1 (.v 18) (.v 17)))) .done
@[simp] def W62_3 := @Pl.wpe _ _ K62_3.eq_1
def K62_4 : C := .pl <| .st (.ext 6 13) <|
    .st (.act none (.px (some 6) (.mv (.v 3)))) <|
    .st (.act none (.als 7 none 5)) <|
    .st (.act none (.pget (some 8) (some 7) 5 0 none)) <|
    .st (.act none (.px (some 9) (.mv (.v 3)))) <|
    .st (.act none (.als 10 none 5)) <|
    .st (.act none (.pget (some 11) (some 10) 5 0 none)) <|
    .st (.act none (.px (some 12) (.ia 1 (.v 9) (.v 11)))) <|
    .st (.act none (.ld (some 13) (.v 12) none)) <|
    .st (.act none (.als 14 none 5)) <|
    .st (.act none (.pget (some 15) (some 14) 5 3 none)) <|
    .st (.act none (.psl 16 [.int .i64 0] [(0, 1, .v 15)])) <|
    .st (.act none (.ex (some 17) (.app 8 1 [.int .i64 0] (.o (.v 13)) (.p 1 16)))) K62_3
@[simp] def W62_4 := @C.wpe _ _ K62_4.eq_1
def K62_5 : C := .cond 6 (.v 14) K62_4 (.skip)
@[simp] def W62_5 := @C.wpe _ _ K62_5.eq_1
def K62_6 : Pl := .st (.act none (.px (some 14) (.un .not (.v 13)))) .done
@[simp] def W62_6 := @Pl.wpe _ _ K62_6.eq_1
def K62_7 : C := .seq (.pl <| .st (.ext 6 9) <|
    .st (.act none (.px (some 6) (.mv (.v 3)))) <|
    .st (.act none (.als 7 none 5)) <|
    .st (.act none (.pget (some 8) (some 7) 5 0 none)) <|
    .st (.act none (.px (some 9) (.ia 1 (.v 6) (.v 8)))) <|
    .st (.act none (.ld (some 10) (.v 9) none)) <|
    .st (.act none (.als 11 none 5)) <|
    .st (.act none (.pget (some 12) (some 11) 5 3 none)) <|
    .st (.act none (.ex (some 13) (.call fn_spec_l4In [.v 10, .v 12]))) K62_6) K62_5
@[simp] def W62_7 := @C.wpe _ _ K62_7.eq_1
def K62_8 : C := .seq (.block 1 (.seq (.pl <| .st (.ext 6 5) <|
    .st (.act none (.als 6 none 1)) <|
    .st (.act none (.pget (some 7) (some 6) 1 2 none)) <|
    .st (.act none (.px (some 8) (.mv (.v 4)))) <|
    .st (.act none (.px (some 9) (.ia 4 (.v 7) (.v 8)))) <|
    .st (.act none (.ld (some 10) (.v 9) (some 4))) <|
    .st (.act none (.pnew 5 (.c (.agg #[.int .i64 0, .int .i64 0, .int .i64 0, .int .i64 0])) [])) <|
    .st (.act none (.pset none 5 0 4 (.v 10))) .done) K62_7)) K62_2
@[simp] def W62_8 := @C.wpe _ _ K62_8.eq_1
def K62_9 : C := .cond 6 (.v 10) (.skip) (.exit 0)
@[simp] def W62_9 := @C.wpe _ _ K62_9.eq_1
def K62_10 : C := .seq (.seq (.pl <| .st (.ext 6 5) <|
    .st (.act none (.px (some 6) (.mv (.v 4)))) <|
    .st (.act none (.als 7 none 1)) <|
    .st (.act none (.pget (some 8) (some 7) 1 2 none)) <|
    .st (.act none (.px (some 9) (.lenV (.v 8)))) <|
    .st (.act none (.px (some 10) (.bin .lss (.v 6) (.v 9)))) .done) K62_9) K62_8
@[simp] def W62_10 := @C.wpe _ _ K62_10.eq_1
def K62_11 : C := .block 0 (.loop 6 [0, 2, 5] K62_10)
@[simp] def W62_11 := @C.wpe _ _ K62_11.eq_1
def K62_12 : C := .seq (.seq (.pl <| .st (.ext 6 0) <|
    .st (.act none (.px (some 4) (.mv (.c (.int .i64 0))))) .done) K62_11) K62_1
@[simp] def W62_12 := @C.wpe _ _ K62_12.eq_1
def K62_13 : Pl := .st (.act none (.px (some 3) (.mv (.v 9)))) .done
@[simp] def W62_13 := @Pl.wpe _ _ K62_13.eq_1
def K62_14 : C := .seq (.pl <| .st (.ext 6 4) <|
    .st (.act none (.als 6 none 1)) <|
    .st (.act none (.pget (some 7) (some 6) 1 1 none)) <|
    .st (.act none (.px (some 8) (.lenV (.v 7)))) <|
    .st (.act none (.ex (some 9) (.mks 24 1 [.slice none 0 0] (.v 8) (.v 8)))) K62_13) K62_12
@[simp] def W62_14 := @C.wpe _ _ K62_14.eq_1
def B_spec_l7Next : C := .seq (.pl <| .st (.ext 6 0) <|
    .st (.act none (.pnew 1 (.v 0) [])) <|
    .st (.act none (.px (some 2) (.mv (.c (.slice none 0 0))))) .done) K62_14
@[simp] def WB_spec_l7Next := @C.wpe _ _ B_spec_l7Next.eq_1
def R_spec_l7Next : FIR := ⟨B_spec_l7Next, 6, [(2, none)]⟩
theorem IR_spec_l7Next : cfun Try.prog H_spec_l7Next Try.f62 = some R_spec_l7Next := by kernel_rfl
theorem EN_spec_l7Next {args : List Value} {h : Heap} {k : Value → Heap → Prop} (hargs : args.length = 1) (hw : B_spec_l7Next.wp Try.prog (retQ [(2, none)] k) (env0 args 6) h) : CallE Try.prog fn_spec_l7Next args h k := enter Try.func62 rfl IR_spec_l7Next hargs hw

def H_spec_l7On : Hint := ⟨[(0, false), (1, false), (2, true), (4, false)], []⟩
def K104_1 : C := .seq (.pl <| .st (.ext 4 7) <|
    .st (.act none (.px (some 4) (.mv (.v 1)))) <|
    .st (.act none (.als 5 none 2)) <|
    .st (.act none (.pget (some 6) (some 5) 2 1 none)) <|
    .st (.act none (.px (some 7) (.bin .and (.v 4) (.v 6)))) <|
    .st (.act none (.als 8 none 2)) <|
    .st (.act none (.pget (some 9) (some 8) 2 2 none)) <|
    .st (.act none (.px (some 10) (.bin .eql (.v 7) (.v 9)))) <|
    .st (.act none (.px (some 3) (.mv (.v 10)))) .done) (.ret)
@[simp] def W104_1 := @C.wpe _ _ K104_1.eq_1
def B_spec_l7On : C := .seq (.pl <| .st (.ext 4 0) <|
    .st (.act none (.pnew 2 (.v 0) [])) <|
    .st (.act none (.px (some 3) (.mv (.c (.bool false))))) .done) K104_1
@[simp] def WB_spec_l7On := @C.wpe _ _ B_spec_l7On.eq_1
def R_spec_l7On : FIR := ⟨B_spec_l7On, 4, [(3, none)]⟩
theorem IR_spec_l7On : cfun Try.prog H_spec_l7On Try.f104 = some R_spec_l7On := by kernel_rfl
theorem EN_spec_l7On {args : List Value} {h : Heap} {k : Value → Heap → Prop} (hargs : args.length = 2) (hw : B_spec_l7On.wp Try.prog (retQ [(3, none)] k) (env0 args 4) h) : CallE Try.prog fn_spec_l7On args h k := enter Try.func104 rfl IR_spec_l7On hargs hw

def H_spec_l7Reach : Hint := ⟨[(0, false), (1, false), (4, false), (5, false), (6, false), (7, false), (8, false), (9, false), (10, false)], [[2, 6, 7, 8], [1, 2, 5, 7, 8], [1, 2, 5, 8]]⟩
def K61_1 : C := .seq (.pl <| .st (.ext 9 1) <|
    .st (.act none (.px (some 9) (.mv (.v 4)))) <|
    .st (.act none (.px (some 2) (.mv (.v 9)))) .done) (.ret)
@[simp] def W61_1 := @C.wpe _ _ K61_1.eq_1
def K61_2 : C := .pl <| .st (.ext 9 2) <|
    .st (.act none (.px (some 9) (.mv (.v 6)))) <|
    .st (.act none (.px (some 10) (.bin .add (.v 9) (.c (.int .i64 1))))) <|
    .st (.act none (.px (some 6) (.mv (.v 10)))) .done
@[simp] def W61_2 := @C.wpe _ _ K61_2.eq_1
def K61_3 : C := .pl <| .st (.ext 9 2) <|
    .st (.act none (.px (some 9) (.mv (.v 7)))) <|
    .st (.act none (.px (some 10) (.bin .add (.v 9) (.c (.int .i64 1))))) <|
    .st (.act none (.px (some 7) (.mv (.v 10)))) .done
@[simp] def W61_3 := @C.wpe _ _ K61_3.eq_1
def K61_4 : Pl := .st (.act none (.px (some 4) (.mv (.v 12)))) .done
@[simp] def W61_4 := @Pl.wpe _ _ K61_4.eq_1
def K61_5 : C := .pl <| .st (.ext 9 4) <|
    .st (.act none (.px (some 9) (.mv (.v 4)))) <|
    .st (.act none (.px (some 10) (.mv (.v 8)))) <|
    .st (.act none (.psl 11 [.int .i64 0] [(0, 1, .v 10)])) <|
    .st (.act none (.ex (some 12) (.app 8 1 [.int .i64 0] (.o (.v 9)) (.p 1 11)))) K61_4
@[simp] def W61_5 := @C.wpe _ _ K61_5.eq_1
def K61_6 : C := .seq (.pl <| .st (.ext 9 3) <|
    .st (.act none (.px (some 9) (.mv (.v 3)))) <|
    .st (.act none (.px (some 10) (.mv (.v 8)))) <|
    .st (.act none (.px (some 11) (.ia 1 (.v 9) (.v 10)))) <|
    .st (.act none (.ex none (.store 1 (.v 11) (.c (.bool true))))) .done) K61_5
@[simp] def W61_6 := @C.wpe _ _ K61_6.eq_1
def K61_7 : C := .cond 9 (.v 13) K61_6 (.skip)
@[simp] def W61_7 := @C.wpe _ _ K61_7.eq_1
def K61_8 : C := .seq (.pl <| .st (.ext 9 5) <|
    .st (.act none (.px (some 9) (.mv (.v 3)))) <|
    .st (.act none (.px (some 10) (.mv (.v 8)))) <|
    .st (.act none (.px (some 11) (.ia 1 (.v 9) (.v 10)))) <|
    .st (.act none (.ld (some 12) (.v 11) none)) <|
    .st (.act none (.px (some 13) (.un .not (.v 12)))) .done) K61_7
@[simp] def W61_8 := @C.wpe _ _ K61_8.eq_1
def K61_9 : C := .seq (.block 5 (.seq (.pl <| .st (.ext 9 10) <|
    .st (.act none (.px (some 9) (.mv (.v 0)))) <|
    .st (.act none (.px (some 10) (.mv (.v 4)))) <|
    .st (.act none (.px (some 11) (.mv (.v 6)))) <|
    .st (.act none (.px (some 12) (.ia 1 (.v 10) (.v 11)))) <|
    .st (.act none (.ld (some 13) (.v 12) none)) <|
    .st (.act none (.px (some 14) (.ia 1 (.v 9) (.v 13)))) <|
    .st (.act none (.ld (some 15) (.v 14) none)) <|
    .st (.act none (.px (some 16) (.mv (.v 7)))) <|
    .st (.act none (.px (some 17) (.ia 1 (.v 15) (.v 16)))) <|
    .st (.act none (.ld (some 18) (.v 17) none)) <|
    .st (.act none (.px (some 8) (.mv (.v 18)))) .done) K61_8)) K61_3
@[simp] def W61_9 := @C.wpe _ _ K61_9.eq_1
def K61_10 : C := .cond 9 (.v 18) (.skip) (.exit 4)
@[simp] def W61_10 := @C.wpe _ _ K61_10.eq_1
def K61_11 : C := .seq (.seq (.pl <| .st (.ext 9 10) <|
    .st (.act none (.px (some 9) (.mv (.v 7)))) <|
    .st (.act none (.px (some 10) (.mv (.v 0)))) <|
    .st (.act none (.px (some 11) (.mv (.v 4)))) <|
    .st (.act none (.px (some 12) (.mv (.v 6)))) <|
    .st (.act none (.px (some 13) (.ia 1 (.v 11) (.v 12)))) <|
    .st (.act none (.ld (some 14) (.v 13) none)) <|
    .st (.act none (.px (some 15) (.ia 1 (.v 10) (.v 14)))) <|
    .st (.act none (.ld (some 16) (.v 15) none)) <|
    .st (.act none (.px (some 17) (.lenV (.v 16)))) <|
    .st (.act none (.px (some 18) (.bin .lss (.v 9) (.v 17)))) .done) K61_10) K61_9
@[simp] def W61_11 := @C.wpe _ _ K61_11.eq_1
def K61_12 : C := .block 4 (.loop 9 [1, 2, 5, 8] K61_11)
@[simp] def W61_12 := @C.wpe _ _ K61_12.eq_1
def K61_13 : C := .seq (.block 3 (.seq (.pl <| .st (.ext 9 0) <|
    .st (.act none (.px (some 7) (.mv (.c (.int .i64 0))))) .done) K61_12)) K61_2
@[simp] def W61_13 := @C.wpe _ _ K61_13.eq_1
def K61_14 : C := .cond 9 (.v 12) (.skip) (.exit 2)
@[simp] def W61_14 := @C.wpe _ _ K61_14.eq_1
def K61_15 : C := .seq (.seq (.pl <| .st (.ext 9 4) <|
    .st (.act none (.px (some 9) (.mv (.v 6)))) <|
    .st (.act none (.px (some 10) (.mv (.v 4)))) <|
    .st (.act none (.px (some 11) (.lenV (.v 10)))) <|
    .st (.act none (.px (some 12) (.bin .lss (.v 9) (.v 11)))) .done) K61_14) K61_13
@[simp] def W61_15 := @C.wpe _ _ K61_15.eq_1
def K61_16 : C := .block 2 (.loop 9 [1, 2, 5, 7, 8] K61_15)
@[simp] def W61_16 := @C.wpe _ _ K61_16.eq_1
def K61_17 : C := .seq (.seq (.pl <| .st (.ext 9 0) <|
    .st (.act none (.px (some 6) (.mv (.c (.int .i64 0))))) .done) K61_16) K61_1
@[simp] def W61_17 := @C.wpe _ _ K61_17.eq_1
def K61_18 : C := .pl <| .st (.ext 9 2) <|
    .st (.act none (.px (some 9) (.mv (.v 5)))) <|
    .st (.act none (.px (some 10) (.bin .add (.v 9) (.c (.int .i64 1))))) <|
    .st (.act none (.px (some 5) (.mv (.v 10)))) .done
@[simp] def W61_18 := @C.wpe _ _ K61_18.eq_1
def K61_19 : Pl := .st (.act none (.px (some 4) (.mv (.v 15)))) .done
@[simp] def W61_19 := @Pl.wpe _ _ K61_19.eq_1
def K61_20 : C := .pl <| .st (.ext 9 7) <|
    .st (.act none (.px (some 9) (.mv (.v 4)))) <|
    .st (.act none (.px (some 10) (.mv (.v 1)))) <|
    .st (.act none (.px (some 11) (.mv (.v 5)))) <|
    .st (.act none (.px (some 12) (.ia 1 (.v 10) (.v 11)))) <|
    .st (.act none (.ld (some 13) (.v 12) none)) <|
    .st (.act none (.psl 14 [.int .i64 0] [(0, 1, .v 13)])) <|
    .st (.act none (.ex (some 15) (.app 8 1 [.int .i64 0] (.o (.v 9)) (.p 1 14)))) K61_19
@[simp] def W61_20 := @C.wpe _ _ K61_20.eq_1
def K61_21 : C := .seq (.pl <| .st (.ext 9 6) <|
    .st (.act none (.px (some 9) (.mv (.v 3)))) <|
    .st (.act none (.px (some 10) (.mv (.v 1)))) <|
    .st (.act none (.px (some 11) (.mv (.v 5)))) <|
    .st (.act none (.px (some 12) (.ia 1 (.v 10) (.v 11)))) <|
    .st (.act none (.ld (some 13) (.v 12) none)) <|
    .st (.act none (.px (some 14) (.ia 1 (.v 9) (.v 13)))) <|
    .st (.act none (.ex none (.store 1 (.v 14) (.c (.bool true))))) .done) K61_20
@[simp] def W61_21 := @C.wpe _ _ K61_21.eq_1
def K61_22 : C := .cond 9 (.v 16) K61_21 (.skip)
@[simp] def W61_22 := @C.wpe _ _ K61_22.eq_1
def K61_23 : C := .seq (.block 1 (.seq (.pl <| .st (.ext 9 8) <|
    .st (.act none (.px (some 9) (.mv (.v 3)))) <|
    .st (.act none (.px (some 10) (.mv (.v 1)))) <|
    .st (.act none (.px (some 11) (.mv (.v 5)))) <|
    .st (.act none (.px (some 12) (.ia 1 (.v 10) (.v 11)))) <|
    .st (.act none (.ld (some 13) (.v 12) none)) <|
    .st (.act none (.px (some 14) (.ia 1 (.v 9) (.v 13)))) <|
    .st (.act none (.ld (some 15) (.v 14) none)) <|
    .st (.act none (.px (some 16) (.un .not (.v 15)))) .done) K61_22)) K61_18
@[simp] def W61_23 := @C.wpe _ _ K61_23.eq_1
def K61_24 : C := .cond 9 (.v 12) (.skip) (.exit 0)
@[simp] def W61_24 := @C.wpe _ _ K61_24.eq_1
def K61_25 : C := .seq (.seq (.pl <| .st (.ext 9 4) <|
    .st (.act none (.px (some 9) (.mv (.v 5)))) <|
    .st (.act none (.px (some 10) (.mv (.v 1)))) <|
    .st (.act none (.px (some 11) (.lenV (.v 10)))) <|
    .st (.act none (.px (some 12) (.bin .lss (.v 9) (.v 11)))) .done) K61_24) K61_23
@[simp] def W61_25 := @C.wpe _ _ K61_25.eq_1
def K61_26 : C := .block 0 (.loop 9 [2, 6, 7, 8] K61_25)
@[simp] def W61_26 := @C.wpe _ _ K61_26.eq_1
def K61_27 : C := .seq (.seq (.pl <| .st (.ext 9 0) <|
    .st (.act none (.px (some 5) (.mv (.c (.int .i64 0))))) .done) K61_26) K61_17
@[simp] def W61_27 := @C.wpe _ _ K61_27.eq_1
def K61_28 : Pl := .st (.act none (.px (some 4) (.mv (.v 9)))) .done
@[simp] def W61_28 := @Pl.wpe _ _ K61_28.eq_1
def K61_29 : C := .seq (.pl <| .st (.ext 9 1) <|
    .st (.act none (.ex (some 9) (.bls 1 0 [.int .i64 0] []))) K61_28) K61_27
@[simp] def W61_29 := @C.wpe _ _ K61_29.eq_1
def K61_30 : Pl := .st (.act none (.px (some 3) (.mv (.v 11)))) .done
@[simp] def W61_30 := @Pl.wpe _ _ K61_30.eq_1
def K61_31 : C := .seq (.pl <| .st (.ext 9 3) <|
    .st (.act none (.px (some 9) (.mv (.v 0)))) <|
    .st (.act none (.px (some 10) (.lenV (.v 9)))) <|
    .st (.act none (.ex (some 11) (.mks 1 1 [.bool false] (.v 10) (.v 10)))) K61_30) K61_29
@[simp] def W61_31 := @C.wpe _ _ K61_31.eq_1
def B_spec_l7Reach : C := .seq (.pl <| .st (.ext 9 0) <|
    .st (.act none (.px (some 2) (.mv (.c (.slice none 0 0))))) .done) K61_31
@[simp] def WB_spec_l7Reach := @C.wpe _ _ B_spec_l7Reach.eq_1
def R_spec_l7Reach : FIR := ⟨B_spec_l7Reach, 9, [(2, none)]⟩
theorem IR_spec_l7Reach : cfun Try.prog H_spec_l7Reach Try.f61 = some R_spec_l7Reach := by kernel_rfl
theorem EN_spec_l7Reach {args : List Value} {h : Heap} {k : Value → Heap → Prop} (hargs : args.length = 2) (hw : B_spec_l7Reach.wp Try.prog (retQ [(2, none)] k) (env0 args 9) h) : CallE Try.prog fn_spec_l7Reach args h k := enter Try.func61 rfl IR_spec_l7Reach hargs hw

def H_spec_l7Tree : Hint := ⟨[(0, false), (1, false), (2, true), (4, false), (5, false), (6, false), (7, false), (8, false), (9, false), (10, false), (11, false), (12, false)], [[0, 3, 4, 8, 9, 10, 11], [0, 3, 4, 7, 10, 11], [0, 1, 3, 4, 7, 9, 11], [0, 1, 3, 4, 7, 9]]⟩
def K90_1 : C := .seq (.pl <| .st (.ext 12 2) <|
    .st (.act none (.px (some 12) (.mv (.v 5)))) <|
    .st (.act none (.px (some 13) (.mv (.v 8)))) <|
    .st (.act none (.px (some 3) (.mv (.v 12)))) <|
    .st (.act none (.px (some 4) (.mv (.v 13)))) .done) (.ret)
@[simp] def W90_1 := @C.wpe _ _ K90_1.eq_1
def K90_2 : C := .pl <| .st (.ext 12 2) <|
    .st (.act none (.px (some 12) (.mv (.v 10)))) <|
    .st (.act none (.px (some 13) (.bin .add (.v 12) (.c (.int .i64 1))))) <|
    .st (.act none (.px (some 10) (.mv (.v 13)))) .done
@[simp] def W90_2 := @C.wpe _ _ K90_2.eq_1
def K90_3 : C := .pl <| .st (.ext 12 2) <|
    .st (.act none (.px (some 12) (.mv (.v 11)))) <|
    .st (.act none (.px (some 13) (.bin .add (.v 12) (.c (.int .i64 1))))) <|
    .st (.act none (.px (some 11) (.mv (.v 13)))) .done
@[simp] def W90_3 := @C.wpe _ _ K90_3.eq_1
def K90_4 : Pl := .st (.act none (.px (some 8) (.mv (.v 20)))) .done
@[simp] def W90_4 := @Pl.wpe _ _ K90_4.eq_1
def K90_5 : C := .pl <| .st (.ext 12 9) <|
    .st (.act none (.px (some 12) (.mv (.v 8)))) <|
    .st (.act none (.als 13 none 2)) <|
    .st (.act none (.pget (some 14) (some 13) 2 2 none)) <|
    .st (.act none (.px (some 15) (.mv (.v 11)))) <|
    .st (.act none (.px (some 16) (.ia 4 (.v 14) (.v 15)))) <|
    .st (.act none (.px (some 17) (.fa 3 (.v 16)))) <|
    .st (.act none (.ld (some 18) (.v 17) none)) <|
    .st (.act none (.psl 19 [.int .i64 0] [(0, 1, .v 18)])) <|
    .st (.act none (.ex (some 20) (.app 8 1 [.int .i64 0] (.o (.v 12)) (.p 1 19)))) K90_4
@[simp] def W90_5 := @C.wpe _ _ K90_5.eq_1
def K90_6 : C := .seq (.pl <| .st (.ext 12 9) <|
    .st (.act none (.px (some 12) (.mv (.v 5)))) <|
    .st (.act none (.als 13 none 2)) <|
    .st (.act none (.pget (some 14) (some 13) 2 2 none)) <|
    .st (.act none (.px (some 15) (.mv (.v 11)))) <|
    .st (.act none (.px (some 16) (.ia 4 (.v 14) (.v 15)))) <|
    .st (.act none (.px (some 17) (.fa 3 (.v 16)))) <|
    .st (.act none (.ld (some 18) (.v 17) none)) <|
    .st (.act none (.px (some 19) (.mv (.v 11)))) <|
    .st (.act none (.px (some 20) (.ia 1 (.v 12) (.v 18)))) <|
    .st (.act none (.ex none (.store 1 (.v 20) (.v 19)))) .done) K90_5
@[simp] def W90_6 := @C.wpe _ _ K90_6.eq_1
def K90_7 : C := .seq (.pl <| .st (.ext 12 8) <|
    .st (.act none (.px (some 12) (.mv (.v 6)))) <|
    .st (.act none (.als 13 none 2)) <|
    .st (.act none (.pget (some 14) (some 13) 2 2 none)) <|
    .st (.act none (.px (some 15) (.mv (.v 11)))) <|
    .st (.act none (.px (some 16) (.ia 4 (.v 14) (.v 15)))) <|
    .st (.act none (.px (some 17) (.fa 3 (.v 16)))) <|
    .st (.act none (.ld (some 18) (.v 17) none)) <|
    .st (.act none (.px (some 19) (.ia 1 (.v 12) (.v 18)))) <|
    .st (.act none (.ex none (.store 1 (.v 19) (.c (.bool true))))) .done) K90_6
@[simp] def W90_7 := @C.wpe _ _ K90_7.eq_1
def K90_8 : C := .cond 12 (.v 34) K90_7 (.skip)
@[simp] def W90_8 := @C.wpe _ _ K90_8.eq_1
def K90_9 : C := .seq (.block 7 (.seq (.pl <| .st (.ext 12 23) <|
    .st (.act none (.als 12 none 2)) <|
    .st (.act none (.pget (some 13) (some 12) 2 2 none)) <|
    .st (.act none (.px (some 14) (.mv (.v 11)))) <|
    .st (.act none (.px (some 15) (.ia 4 (.v 13) (.v 14)))) <|
    .st (.act none (.px (some 16) (.fa 0 (.v 15)))) <|
    .st (.act none (.ld (some 17) (.v 16) none)) <|
    .st (.act none (.px (some 18) (.mv (.v 8)))) <|
    .st (.act none (.px (some 19) (.mv (.v 10)))) <|
    .st (.act none (.px (some 20) (.ia 1 (.v 18) (.v 19)))) <|
    .st (.act none (.ld (some 21) (.v 20) none)) <|
    .st (.act none (.px (some 22) (.bin .eql (.v 17) (.v 21)))) <|
    .st (.act none (.px (some 23) (.mv (.v 22)))) <|
    .st (.act (some (.v 23, true)) (.px (some 24) (.mv (.v 6)))) <|
    .st (.act (some (.v 23, true)) (.als 25 none 2)) <|
    .st (.act (some (.v 23, true)) (.pget (some 26) (some 25) 2 2 none)) <|
    .st (.act (some (.v 23, true)) (.px (some 27) (.mv (.v 11)))) <|
    .st (.act (some (.v 23, true)) (.px (some 28) (.ia 4 (.v 26) (.v 27)))) <|
    .st (.act (some (.v 23, true)) (.px (some 29) (.fa 3 (.v 28)))) <|
    .st (.act (some (.v 23, true)) (.ld (some 30) (.v 29) none)) <|
    .st (.act (some (.v 23, true)) (.px (some 31) (.ia 1 (.v 24) (.v 30)))) <|
    .st (.act (some (.v 23, true)) (.ld (some 32) (.v 31) none)) <|
    .st (.act (some (.v 23, true)) (.px (some 33) (.un .not (.v 32)))) <|
    .st (.act none (.px (some 34) (.pick (.v 23) (.v 33) (.c (.bool false))))) .done) K90_8)) K90_3
@[simp] def W90_9 := @C.wpe _ _ K90_9.eq_1
def K90_10 : C := .cond 12 (.v 16) (.skip) (.exit 6)
@[simp] def W90_10 := @C.wpe _ _ K90_10.eq_1
def K90_11 : C := .seq (.seq (.pl <| .st (.ext 12 5) <|
    .st (.act none (.px (some 12) (.mv (.v 11)))) <|
    .st (.act none (.als 13 none 2)) <|
    .st (.act none (.pget (some 14) (some 13) 2 2 none)) <|
    .st (.act none (.px (some 15) (.lenV (.v 14)))) <|
    .st (.act none (.px (some 16) (.bin .lss (.v 12) (.v 15)))) .done) K90_10) K90_9
@[simp] def W90_11 := @C.wpe _ _ K90_11.eq_1
def K90_12 : C := .block 6 (.loop 12 [0, 1, 3, 4, 7, 9] K90_11)
@[simp] def W90_12 := @C.wpe _ _ K90_12.eq_1
def K90_13 : C := .seq (.block 5 (.seq (.pl <| .st (.ext 12 0) <|
    .st (.act none (.px (some 11) (.mv (.c (.int .i64 0))))) .done) K90_12)) K90_2
@[simp] def W90_13 := @C.wpe _ _ K90_13.eq_1
def K90_14 : C := .cond 12 (.v 15) (.skip) (.exit 4)
@[simp] def W90_14 := @C.wpe _ _ K90_14.eq_1
def K90_15 : C := .seq (.seq (.pl <| .st (.ext 12 4) <|
    .st (.act none (.px (some 12) (.mv (.v 10)))) <|
    .st (.act none (.px (some 13) (.mv (.v 8)))) <|
    .st (.act none (.px (some 14) (.lenV (.v 13)))) <|
    .st (.act none (.px (some 15) (.bin .lss (.v 12) (.v 14)))) .done) K90_14) K90_13
@[simp] def W90_15 := @C.wpe _ _ K90_15.eq_1
def K90_16 : C := .block 4 (.loop 12 [0, 1, 3, 4, 7, 9, 11] K90_15)
@[simp] def W90_16 := @C.wpe _ _ K90_16.eq_1
def K90_17 : C := .seq (.seq (.pl <| .st (.ext 12 0) <|
    .st (.act none (.px (some 10) (.mv (.c (.int .i64 0))))) .done) K90_16) K90_1
@[simp] def W90_17 := @C.wpe _ _ K90_17.eq_1
def K90_18 : C := .pl <| .st (.ext 12 2) <|
    .st (.act none (.px (some 12) (.mv (.v 9)))) <|
    .st (.act none (.px (some 13) (.bin .add (.v 12) (.c (.int .i64 1))))) <|
    .st (.act none (.px (some 9) (.mv (.v 13)))) .done
@[simp] def W90_18 := @C.wpe _ _ K90_18.eq_1
def K90_19 : C := .seq (.block 3 (.pl <| .st (.ext 12 6) <|
    .st (.act none (.px (some 12) (.mv (.v 6)))) <|
    .st (.act none (.px (some 13) (.mv (.v 1)))) <|
    .st (.act none (.px (some 14) (.mv (.v 9)))) <|
    .st (.act none (.px (some 15) (.ia 1 (.v 13) (.v 14)))) <|
    .st (.act none (.ld (some 16) (.v 15) none)) <|
    .st (.act none (.px (some 17) (.ia 1 (.v 12) (.v 16)))) <|
    .st (.act none (.ex none (.store 1 (.v 17) (.c (.bool true))))) .done)) K90_18
@[simp] def W90_19 := @C.wpe _ _ K90_19.eq_1
def K90_20 : C := .cond 12 (.v 15) (.skip) (.exit 2)
@[simp] def W90_20 := @C.wpe _ _ K90_20.eq_1
def K90_21 : C := .seq (.seq (.pl <| .st (.ext 12 4) <|
    .st (.act none (.px (some 12) (.mv (.v 9)))) <|
    .st (.act none (.px (some 13) (.mv (.v 1)))) <|
    .st (.act none (.px (some 14) (.lenV (.v 13)))) <|
    .st (.act none (.px (some 15) (.bin .lss (.v 12) (.v 14)))) .done) K90_20) K90_19
@[simp] def W90_21 := @C.wpe _ _ K90_21.eq_1
def K90_22 : C := .block 2 (.loop 12 [0, 3, 4, 7, 10, 11] K90_21)
@[simp] def W90_22 := @C.wpe _ _ K90_22.eq_1
def K90_23 : C := .seq (.seq (.pl <| .st (.ext 12 0) <|
    .st (.act none (.px (some 9) (.mv (.c (.int .i64 0))))) .done) K90_22) K90_17
@[simp] def W90_23 := @C.wpe _ _ K90_23.eq_1
def K90_24 : Pl := .st (.act none (.px (some 8) (.mv (.v 14)))) .done
@[simp] def W90_24 := @Pl.wpe _ _ K90_24.eq_1
def K90_25 : C := .seq (.pl <| .st (.ext 12 3) <|
    .st (.act none (.psl 12 [] [])) <|
    .st (.act none (.px (some 13) (.mv (.v 1)))) <|
    .st (.act none (.ex (some 14) (.app 8 1 [.int .i64 0] (.p 0 12) (.o (.v 13))))) K90_24) K90_23
@[simp] def W90_25 := @C.wpe _ _ K90_25.eq_1
def K90_26 : C := .pl <| .st (.ext 12 2) <|
    .st (.act none (.px (some 12) (.mv (.v 7)))) <|
    .st (.act none (.px (some 13) (.bin .add (.v 12) (.c (.int .i64 1))))) <|
    .st (.act none (.px (some 7) (.mv (.v 13)))) .done
@[simp] def W90_26 := @C.wpe _ _ K90_26.eq_1
def K90_27 : Pl := .st (.act none (.px (some 5) (.mv (.v 14)))) .done
@[simp] def W90_27 := @Pl.wpe _ _ K90_27.eq_1
def K90_28 : C := .seq (.block 1 (.pl <| .st (.ext 12 3) <|
    .st (.act none (.px (some 12) (.mv (.v 5)))) <|
    .st (.act none (.psl 13 [.int .i64 0] [(0, 1, .c (.int .i64 (-1)))])) <|
    .st (.act none (.ex (some 14) (.app 8 1 [.int .i64 0] (.o (.v 12)) (.p 1 13)))) K90_27)) K90_26
@[simp] def W90_28 := @C.wpe _ _ K90_28.eq_1
def K90_29 : C := .cond 12 (.v 16) (.skip) (.exit 0)
@[simp] def W90_29 := @C.wpe _ _ K90_29.eq_1
def K90_30 : C := .seq (.seq (.pl <| .st (.ext 12 5) <|
    .st (.act none (.px (some 12) (.mv (.v 7)))) <|
    .st (.act none (.als 13 none 2)) <|
    .st (.act none (.pget (some 14) (some 13) 2 1 none)) <|
    .st (.act none (.px (some 15) (.lenV (.v 14)))) <|
    .st (.act none (.px (some 16) (.bin .lss (.v 12) (.v 15)))) .done) K90_29) K90_28
@[simp] def W90_30 := @C.wpe _ _ K90_30.eq_1
def K90_31 : C := .block 0 (.loop 12 [0, 3, 4, 8, 9, 10, 11] K90_30)
@[simp] def W90_31 := @C.wpe _ _ K90_31.eq_1
def K90_32 : C := .seq (.seq (.pl <| .st (.ext 12 0) <|
    .st (.act none (.px (some 7) (.mv (.c (.int .i64 0))))) .done) K90_31) K90_25
@[simp] def W90_32 := @C.wpe _ _ K90_32.eq_1
def K90_33 : Pl := .st (.act none (.px (some 6) (.mv (.v 15)))) .done
@[simp] def W90_33 := @Pl.wpe _ _ K90_33.eq_1
def K90_34 : C := .seq (.pl <| .st (.ext 12 4) <|
    .st (.act none (.als 12 none 2)) <|
    .st (.act none (.pget (some 13) (some 12) 2 1 none)) <|
    .st (.act none (.px (some 14) (.lenV (.v 13)))) <|
    .st (.act none (.ex (some 15) (.mks 1 1 [.bool false] (.v 14) (.v 14)))) K90_33) K90_32
@[simp] def W90_34 := @C.wpe _ _ K90_34.eq_1
def K90_35 : Pl := .st (.act none (.px (some 5) (.mv (.v 12)))) .done
@[simp] def W90_35 := @Pl.wpe _ _ K90_35.eq_1
def K90_36 : C := .seq (.pl <| .st (.ext 12 1) <|
    .st (.act none (.ex (some 12) (.bls 1 0 [.int .i64 0] []))) K90_35) K90_34
@[simp] def W90_36 := @C.wpe _ _ K90_36.eq_1
def B_spec_l7Tree : C := .seq (.pl <| .st (.ext 12 0) <|
    .st (.act none (.pnew 2 (.v 0) [])) <|
    .st (.act none (.px (some 3) (.mv (.c (.slice none 0 0))))) <|
    .st (.act none (.px (some 4) (.mv (.c (.slice none 0 0))))) .done) K90_36
@[simp] def WB_spec_l7Tree := @C.wpe _ _ B_spec_l7Tree.eq_1
def R_spec_l7Tree : FIR := ⟨B_spec_l7Tree, 12, [(3, none), (4, none)]⟩
theorem IR_spec_l7Tree : cfun Try.prog H_spec_l7Tree Try.f90 = some R_spec_l7Tree := by kernel_rfl
theorem EN_spec_l7Tree {args : List Value} {h : Heap} {k : Value → Heap → Prop} (hargs : args.length = 2) (hw : B_spec_l7Tree.wp Try.prog (retQ [(3, none), (4, none)] k) (env0 args 12) h) : CallE Try.prog fn_spec_l7Tree args h k := enter Try.func90 rfl IR_spec_l7Tree hargs hw


end Go.Proofs.Ytknkjplnngeebaa
