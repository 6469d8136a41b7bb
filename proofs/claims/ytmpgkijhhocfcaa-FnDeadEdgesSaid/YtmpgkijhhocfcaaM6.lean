/-
  Texts of this proof, one behind the other.
-/
import Derived.Test.YtmpgkijhhocfcaaM5
/-
  Bodies of functions in the small language, as a program printed them, and that each is what the translation gives.
-/
namespace Go.Proofs.Ytmpgkijhhocfcaa
open Go
set_option linter.all false
set_option linter.defProp false
set_option maxRecDepth 1000000

def H_impl_BuildGraph : Hint := ⟨[(0, false), (1, true), (2, true), (3, false)], []⟩
def K12_1 : Pl := .st (.act none (.px (some 6) (.extract 0 (.v 5)))) <|
    .st (.act none (.px (some 7) (.extract 1 (.v 5)))) <|
    .st (.act none (.pset none 2 0 2 (.v 6))) <|
    .st (.act none (.px (some 3) (.mv (.v 7)))) .done
@[simp] def W12_1 := @Pl.wpe _ _ K12_1.eq_1
def K12_2 : C := .seq (.pl <| .st (.ext 4 4) <|
    .st (.act none (.pget (some 4) none 1 0 (some 2))) <|
    .st (.act none (.ex (some 5) (.call fn_impl_System_build [.v 4]))) K12_1) (.ret)
@[simp] def W12_2 := @C.wpe _ _ K12_2.eq_1
def K12_3 : C := .seq (.pl <| .st (.ext 4 1) <|
    .st (.act none (.px (some 4) (.build [.slice none 0 0, .slice none 0 0] []))) <|
    .st (.act none (.pset none 2 0 2 (.v 4))) <|
    .st (.act none (.px (some 3) (.mv (.c (.bool false))))) .done) (.ret)
@[simp] def W12_3 := @C.wpe _ _ K12_3.eq_1
def K12_4 : C := .cond 4 (.v 6) K12_3 (.skip)
@[simp] def W12_4 := @C.wpe _ _ K12_4.eq_1
def K12_5 : Pl := .st (.act none (.px (some 6) (.un .not (.v 5)))) .done
@[simp] def W12_5 := @Pl.wpe _ _ K12_5.eq_1
def K12_6 : C := .seq (.seq (.pl <| .st (.ext 4 3) <|
    .st (.act none (.pget (some 4) none 1 0 (some 2))) <|
    .st (.act none (.ex (some 5) (.call fn_impl_SystemValid [.v 4]))) K12_5) K12_4) K12_2
@[simp] def W12_6 := @C.wpe _ _ K12_6.eq_1
def B_impl_BuildGraph : C := .seq (.pl <| .st (.ext 4 0) <|
    .st (.act none (.pnew 1 (.v 0) [])) <|
    .st (.act none (.pnew 2 (.c (.agg #[.slice none 0 0, .slice none 0 0])) [])) <|
    .st (.act none (.px (some 3) (.mv (.c (.bool false))))) .done) K12_6
@[simp] def WB_impl_BuildGraph := @C.wpe _ _ B_impl_BuildGraph.eq_1
def R_impl_BuildGraph : FIR := ⟨B_impl_BuildGraph, 4, [(2, some (some 2)), (3, none)]⟩
theorem IR_impl_BuildGraph : cfun Try.prog H_impl_BuildGraph Try.f12 = some R_impl_BuildGraph := by kernel_rfl
theorem EN_impl_BuildGraph {args : List Value} {h : Heap} {k : Value → Heap → Prop} (hargs : args.length = 1) (hw : B_impl_BuildGraph.wp Try.prog (retQ [(2, some (some 2)), (3, none)] k) (env0 args 4) h) : CallE Try.prog fn_impl_BuildGraph args h k := enter Try.func12 rfl IR_impl_BuildGraph hargs hw

def H_impl_DeadEdges : Hint := ⟨[(0, false), (1, false), (2, true), (4, false), (5, false), (6, true), (7, false), (8, false), (9, false), (11, true), (13, true), (39, false), (40, false), (48, false), (49, false), (50, false), (56, false), (57, false), (58, false)], [[0, 3, 4, 6, 8, 9, 10, 13, 14, 15, 16, 17, 18], [0, 3, 4, 5, 6, 8, 9, 10, 11, 12, 16, 17, 18], [0, 3, 4, 5, 6, 8, 9, 10, 11, 12]]⟩
def K9_1 : C := .seq (.pl <| .st (.ext 19 1) <|
    .st (.act none (.px (some 19) (.mv (.v 7)))) <|
    .st (.act none (.px (some 3) (.mv (.v 19)))) <|
    .st (.act none (.px (some 4) (.mv (.c (.bool true))))) .done) (.ret)
@[simp] def W9_1 := @C.wpe _ _ K9_1.eq_1
def K9_2 : C := .pl <| .st (.ext 19 1) <|
    .st (.act none (.px (some 19) (.bin .add (.v 15) (.c (.int .i64 1))))) <|
    .st (.act none (.px (some 15) (.mv (.v 19)))) .done
@[simp] def W9_2 := @C.wpe _ _ K9_2.eq_1
def K9_3 : C := .pl <| .st (.ext 19 1) <|
    .st (.act none (.px (some 19) (.bin .add (.v 18) (.c (.int .i64 1))))) <|
    .st (.act none (.px (some 18) (.mv (.v 19)))) .done
@[simp] def W9_3 := @C.wpe _ _ K9_3.eq_1
def K9_4 : C := .pl <| .st (.ext 19 4) <|
    .st (.act none (.px (some 19) (.mv (.v 7)))) <|
    .st (.act none (.als 20 none 10)) <|
    .st (.act none (.pget (some 21) (some 20) 10 3 none)) <|
    .st (.act none (.px (some 22) (.ia 1 (.v 19) (.v 21)))) <|
    .st (.act none (.ex none (.store 1 (.v 22) (.c (.bool false))))) .done
@[simp] def W9_4 := @C.wpe _ _ K9_4.eq_1
def K9_5 : C := .cond 19 (.v 22) K9_4 (.skip)
@[simp] def W9_5 := @C.wpe _ _ K9_5.eq_1
def K9_6 : C := .seq (.pl <| .st (.ext 19 4) <|
    .st (.act none (.als 19 none 10)) <|
    .st (.act none (.pget (some 20) (some 19) 10 2 none)) <|
    .st (.act none (.px (some 21) (.mv (.v 1)))) <|
    .st (.act none (.px (some 22) (.bin .eql (.v 20) (.v 21)))) .done) K9_5
@[simp] def W9_6 := @C.wpe _ _ K9_6.eq_1
def K9_7 : C := .pl <| .st (.ext 19 4) <|
    .st (.act none (.px (some 19) (.mv (.v 7)))) <|
    .st (.act none (.als 20 none 10)) <|
    .st (.act none (.pget (some 21) (some 20) 10 1 none)) <|
    .st (.act none (.px (some 22) (.ia 1 (.v 19) (.v 21)))) <|
    .st (.act none (.ex none (.store 1 (.v 22) (.c (.bool false))))) .done
@[simp] def W9_7 := @C.wpe _ _ K9_7.eq_1
def K9_8 : C := .cond 19 (.v 22) K9_7 (.skip)
@[simp] def W9_8 := @C.wpe _ _ K9_8.eq_1
def K9_9 : C := .seq (.seq (.pl <| .st (.ext 19 4) <|
    .st (.act none (.als 19 none 10)) <|
    .st (.act none (.pget (some 20) (some 19) 10 0 none)) <|
    .st (.act none (.px (some 21) (.mv (.v 1)))) <|
    .st (.act none (.px (some 22) (.bin .eql (.v 20) (.v 21)))) .done) K9_8) K9_6
@[simp] def W9_9 := @C.wpe _ _ K9_9.eq_1
def K9_10 : C := .seq (.block 5 (.seq (.pl <| .st (.ext 19 2) <|
    .st (.act none (.px (some 19) (.ia 4 (.v 16) (.v 18)))) <|
    .st (.act none (.ld (some 20) (.v 19) (some 4))) <|
    .st (.act none (.pnew 10 (.c (.agg #[.int .i64 0, .int .i64 0, .int .i64 0, .int .i64 0])) [])) <|
    .st (.act none (.pset none 10 0 4 (.v 20))) .done) K9_9)) K9_3
@[simp] def W9_10 := @C.wpe _ _ K9_10.eq_1
def K9_11 : C := .seq (.cond 19 (.v 19) (.skip) (.exit 4)) K9_10
@[simp] def W9_11 := @C.wpe _ _ K9_11.eq_1
def K9_12 : C := .seq (.pl <| .st (.ext 19 1) <|
    .st (.act none (.px (some 19) (.bin .lss (.v 18) (.v 17)))) .done) K9_11
@[simp] def W9_12 := @C.wpe _ _ K9_12.eq_1
def K9_13 : C := .block 4 (.loop 19 [0, 3, 4, 5, 6, 8, 9, 10, 11, 12] K9_12)
@[simp] def W9_13 := @C.wpe _ _ K9_13.eq_1
def K9_14 : Pl := .st (.act none (.px (some 17) (.lenV (.v 16)))) <|
    .st (.act none (.px (some 18) (.mv (.c (.int .i64 0))))) .done
@[simp] def W9_14 := @Pl.wpe _ _ K9_14.eq_1
def K9_15 : C := .seq (.pl <| .st (.ext 19 2) <|
    .st (.act none (.pget (some 19) none 2 0 (some 2))) <|
    .st (.act none (.pget (some 20) none 9 0 (some 2))) <|
    .st (.act none (.ex (some 16) (.call fn_impl_System_enabled [.v 19, .v 20]))) K9_14) K9_13
@[simp] def W9_15 := @C.wpe _ _ K9_15.eq_1
def K9_16 : C := .seq (.block 3 (.seq (.pl <| .st (.ext 19 2) <|
    .st (.act none (.px (some 19) (.ia 2 (.v 13) (.v 15)))) <|
    .st (.act none (.ld (some 20) (.v 19) (some 2))) <|
    .st (.act none (.pnew 9 (.c (.agg #[.slice none 0 0, .slice none 0 0])) [])) <|
    .st (.act none (.pset none 9 0 2 (.v 20))) .done) K9_15)) K9_2
@[simp] def W9_16 := @C.wpe _ _ K9_16.eq_1
def K9_17 : C := .seq (.cond 19 (.v 19) (.skip) (.exit 2)) K9_16
@[simp] def W9_17 := @C.wpe _ _ K9_17.eq_1
def K9_18 : C := .seq (.pl <| .st (.ext 19 1) <|
    .st (.act none (.px (some 19) (.bin .lss (.v 15) (.v 14)))) .done) K9_17
@[simp] def W9_18 := @C.wpe _ _ K9_18.eq_1
def K9_19 : C := .block 2 (.loop 19 [0, 3, 4, 5, 6, 8, 9, 10, 11, 12, 16, 17, 18] K9_18)
@[simp] def W9_19 := @C.wpe _ _ K9_19.eq_1
def K9_20 : C := .seq (.seq (.pl <| .st (.ext 19 1) <|
    .st (.act none (.als 19 none 5)) <|
    .st (.act none (.pget (some 13) (some 19) 5 0 none)) <|
    .st (.act none (.px (some 14) (.lenV (.v 13)))) <|
    .st (.act none (.px (some 15) (.mv (.c (.int .i64 0))))) .done) K9_19) K9_1
@[simp] def W9_20 := @C.wpe _ _ K9_20.eq_1
def K9_21 : C := .pl <| .st (.ext 19 1) <|
    .st (.act none (.px (some 19) (.bin .add (.v 12) (.c (.int .i64 1))))) <|
    .st (.act none (.px (some 12) (.mv (.v 19)))) .done
@[simp] def W9_21 := @C.wpe _ _ K9_21.eq_1
def K9_22 : C := .pl <| .st (.ext 19 3) <|
    .st (.act none (.px (some 19) (.mv (.v 7)))) <|
    .st (.act none (.px (some 20) (.mv (.v 8)))) <|
    .st (.act none (.px (some 21) (.ia 1 (.v 19) (.v 20)))) <|
    .st (.act none (.ex none (.store 1 (.v 21) (.c (.bool true))))) .done
@[simp] def W9_22 := @C.wpe _ _ K9_22.eq_1
def K9_23 : C := .seq (.block 1 (.seq (.pl <| .st (.ext 19 1) <|
    .st (.act none (.px (some 19) (.mv (.v 12)))) <|
    .st (.act none (.px (some 8) (.mv (.v 19)))) .done) K9_22)) K9_21
@[simp] def W9_23 := @C.wpe _ _ K9_23.eq_1
def K9_24 : C := .seq (.cond 19 (.v 19) (.skip) (.exit 0)) K9_23
@[simp] def W9_24 := @C.wpe _ _ K9_24.eq_1
def K9_25 : C := .seq (.pl <| .st (.ext 19 1) <|
    .st (.act none (.px (some 19) (.bin .lss (.v 12) (.v 11)))) .done) K9_24
@[simp] def W9_25 := @C.wpe _ _ K9_25.eq_1
def K9_26 : C := .block 0 (.loop 19 [0, 3, 4, 6, 8, 9, 10, 13, 14, 15, 16, 17, 18] K9_25)
@[simp] def W9_26 := @C.wpe _ _ K9_26.eq_1
def K9_27 : C := .seq (.seq (.pl <| .st (.ext 19 1) <|
    .st (.act none (.px (some 19) (.mv (.v 7)))) <|
    .st (.act none (.px (some 11) (.lenV (.v 19)))) <|
    .st (.act none (.px (some 12) (.mv (.c (.int .i64 0))))) .done) K9_26) K9_20
@[simp] def W9_27 := @C.wpe _ _ K9_27.eq_1
def K9_28 : Pl := .st (.act none (.px (some 7) (.mv (.v 26)))) .done
@[simp] def W9_28 := @Pl.wpe _ _ K9_28.eq_1
def K9_29 : C := .seq (.pl <| .st (.ext 19 8) <|
    .st (.act none (.als 19 none 2)) <|
    .st (.act none (.pget (some 20) (some 19) 2 1 none)) <|
    .st (.act none (.px (some 21) (.mv (.v 1)))) <|
    .st (.act none (.px (some 22) (.ia 2 (.v 20) (.v 21)))) <|
    .st (.act none (.px (some 23) (.fa 1 (.v 22)))) <|
    .st (.act none (.ld (some 24) (.v 23) none)) <|
    .st (.act none (.px (some 25) (.lenV (.v 24)))) <|
    .st (.act none (.ex (some 26) (.mks 1 1 [.bool false] (.v 25) (.v 25)))) K9_28) K9_27
@[simp] def W9_29 := @C.wpe _ _ K9_29.eq_1
def K9_30 : C := .seq (.pl <| .st (.ext 19 0) <|
    .st (.act none (.px (some 3) (.mv (.c (.slice none 0 0))))) <|
    .st (.act none (.px (some 4) (.mv (.c (.bool false))))) .done) (.ret)
@[simp] def W9_30 := @C.wpe _ _ K9_30.eq_1
def K9_31 : C := .cond 19 (.v 29) K9_30 (.skip)
@[simp] def W9_31 := @C.wpe _ _ K9_31.eq_1
def K9_32 : Pl := .st (.act (some (.v 21, false)) (.px (some 28) (.un .not (.v 27)))) <|
    .st (.act none (.px (some 29) (.pick (.v 21) (.c (.bool true)) (.v 28)))) .done
@[simp] def W9_32 := @Pl.wpe _ _ K9_32.eq_1
def K9_33 : C := .seq (.seq (.pl <| .st (.ext 19 11) <|
    .st (.act none (.px (some 19) (.mv (.v 6)))) <|
    .st (.act none (.px (some 20) (.un .not (.v 19)))) <|
    .st (.act none (.px (some 21) (.mv (.v 20)))) <|
    .st (.act (some (.v 21, false)) (.px (some 22) (.mv (.v 1)))) <|
    .st (.act (some (.v 21, false)) (.als 23 none 2)) <|
    .st (.act (some (.v 21, false)) (.pget (some 24) (some 23) 2 1 none)) <|
    .st (.act (some (.v 21, false)) (.px (some 25) (.lenV (.v 24)))) <|
    .st (.act (some (.v 21, false)) (.px (some 26) (.bin .sub (.v 25) (.c (.int .i64 1))))) <|
    .st (.act (some (.v 21, false)) (.ex (some 27) (.call fn_impl_in [.v 22, .c (.int .i64 0), .v 26]))) K9_32) K9_31) K9_29
@[simp] def W9_33 := @C.wpe _ _ K9_33.eq_1
def K9_34 : Pl := .st (.act none (.px (some 21) (.mv (.v 20)))) <|
    .st (.act none (.px (some 22) (.extract 0 (.v 21)))) <|
    .st (.act none (.px (some 23) (.extract 1 (.v 21)))) <|
    .st (.act none (.pnew 5 (.c (.agg #[.slice none 0 0, .slice none 0 0])) [])) <|
    .st (.act none (.pset none 5 0 2 (.v 22))) <|
    .st (.act none (.px (some 6) (.mv (.v 23)))) .done
@[simp] def W9_34 := @Pl.wpe _ _ K9_34.eq_1
def K9_35 : C := .seq (.pl <| .st (.ext 19 5) <|
    .st (.act none (.pget (some 19) none 2 0 (some 2))) <|
    .st (.act none (.ex (some 20) (.call fn_impl_BuildGraph [.v 19]))) K9_34) K9_33
@[simp] def W9_35 := @C.wpe _ _ K9_35.eq_1
def B_impl_DeadEdges : C := .seq (.pl <| .st (.ext 19 0) <|
    .st (.act none (.pnew 2 (.v 0) [])) <|
    .st (.act none (.px (some 3) (.mv (.c (.slice none 0 0))))) <|
    .st (.act none (.px (some 4) (.mv (.c (.bool false))))) .done) K9_35
@[simp] def WB_impl_DeadEdges := @C.wpe _ _ B_impl_DeadEdges.eq_1
def R_impl_DeadEdges : FIR := ⟨B_impl_DeadEdges, 19, [(3, none), (4, none)]⟩
theorem IR_impl_DeadEdges : cfun Try.prog H_impl_DeadEdges Try.f9 = some R_impl_DeadEdges := by kernel_rfl
theorem EN_impl_DeadEdges {args : List Value} {h : Heap} {k : Value → Heap → Prop} (hargs : args.length = 2) (hw : B_impl_DeadEdges.wp Try.prog (retQ [(3, none), (4, none)] k) (env0 args 19) h) : CallE Try.prog fn_impl_DeadEdges args h k := enter Try.func9 rfl IR_impl_DeadEdges hargs hw

def H_impl_EnabledSteps : Hint := ⟨[(0, false), (1, false), (2, true), (3, true), (4, false)], []⟩
def K13_1 : Pl := .st (.act none (.px (some 4) (.mv (.v 7)))) .done
@[simp] def W13_1 := @Pl.wpe _ _ K13_1.eq_1
def K13_2 : C := .seq (.pl <| .st (.ext 5 3) <|
    .st (.act none (.pget (some 5) none 2 0 (some 2))) <|
    .st (.act none (.pget (some 6) none 3 0 (some 2))) <|
    .st (.act none (.ex (some 7) (.call fn_impl_System_enabled [.v 5, .v 6]))) K13_1) (.ret)
@[simp] def W13_2 := @C.wpe _ _ K13_2.eq_1
def K13_3 : C := .seq (.pl <| .st (.ext 5 0) <|
    .st (.act none (.px (some 4) (.mv (.c (.slice none 0 0))))) .done) (.ret)
@[simp] def W13_3 := @C.wpe _ _ K13_3.eq_1
def K13_4 : C := .cond 5 (.v 8) K13_3 (.skip)
@[simp] def W13_4 := @C.wpe _ _ K13_4.eq_1
def K13_5 : Pl := .st (.act none (.px (some 8) (.un .not (.v 7)))) .done
@[simp] def W13_5 := @Pl.wpe _ _ K13_5.eq_1
def K13_6 : C := .seq (.seq (.pl <| .st (.ext 5 4) <|
    .st (.act none (.pget (some 5) none 2 0 (some 2))) <|
    .st (.act none (.pget (some 6) none 3 0 (some 2))) <|
    .st (.act none (.ex (some 7) (.call fn_impl_StateValid [.v 5, .v 6]))) K13_5) K13_4) K13_2
@[simp] def W13_6 := @C.wpe _ _ K13_6.eq_1
def B_impl_EnabledSteps : C := .seq (.pl <| .st (.ext 5 0) <|
    .st (.act none (.pnew 2 (.v 0) [])) <|
    .st (.act none (.pnew 3 (.v 1) [])) <|
    .st (.act none (.px (some 4) (.mv (.c (.slice none 0 0))))) .done) K13_6
@[simp] def WB_impl_EnabledSteps := @C.wpe _ _ B_impl_EnabledSteps.eq_1
def R_impl_EnabledSteps : FIR := ⟨B_impl_EnabledSteps, 5, [(4, none)]⟩
theorem IR_impl_EnabledSteps : cfun Try.prog H_impl_EnabledSteps Try.f13 = some R_impl_EnabledSteps := by kernel_rfl
theorem EN_impl_EnabledSteps {args : List Value} {h : Heap} {k : Value → Heap → Prop} (hargs : args.length = 2) (hw : B_impl_EnabledSteps.wp Try.prog (retQ [(4, none)] k) (env0 args 5) h) : CallE Try.prog fn_impl_EnabledSteps args h k := enter Try.func13 rfl IR_impl_EnabledSteps hargs hw

def H_impl_StateValid : Hint := ⟨[(0, false), (1, false), (2, true), (3, true), (4, false)], []⟩
def K36_1 : Pl := .st (.act none (.px (some 11) (.pick (.v 7) (.v 10) (.c (.bool false))))) <|
    .st (.act none (.px (some 4) (.mv (.v 11)))) .done
@[simp] def W36_1 := @Pl.wpe _ _ K36_1.eq_1
def K36_2 : Pl := .st (.act none (.px (some 7) (.mv (.v 6)))) <|
    .st (.act (some (.v 7, true)) (.pget (some 8) none 2 0 (some 2))) <|
    .st (.act (some (.v 7, true)) (.pget (some 9) none 3 0 (some 2))) <|
    .st (.act (some (.v 7, true)) (.ex (some 10) (.call fn_impl_System_has [.v 8, .v 9]))) K36_1
@[simp] def W36_2 := @Pl.wpe _ _ K36_2.eq_1
def K36_3 : C := .seq (.pl <| .st (.ext 5 7) <|
    .st (.act none (.pget (some 5) none 2 0 (some 2))) <|
    .st (.act none (.ex (some 6) (.call fn_impl_SystemValid [.v 5]))) K36_2) (.ret)
@[simp] def W36_3 := @C.wpe _ _ K36_3.eq_1
def B_impl_StateValid : C := .seq (.pl <| .st (.ext 5 0) <|
    .st (.act none (.pnew 2 (.v 0) [])) <|
    .st (.act none (.pnew 3 (.v 1) [])) <|
    .st (.act none (.px (some 4) (.mv (.c (.bool false))))) .done) K36_3
@[simp] def WB_impl_StateValid := @C.wpe _ _ B_impl_StateValid.eq_1
def R_impl_StateValid : FIR := ⟨B_impl_StateValid, 5, [(4, none)]⟩
theorem IR_impl_StateValid : cfun Try.prog H_impl_StateValid Try.f36 = some R_impl_StateValid := by kernel_rfl
theorem EN_impl_StateValid {args : List Value} {h : Heap} {k : Value → Heap → Prop} (hargs : args.length = 2) (hw : B_impl_StateValid.wp Try.prog (retQ [(4, none)] k) (env0 args 5) h) : CallE Try.prog fn_impl_StateValid args h k := enter Try.func36 rfl IR_impl_StateValid hargs hw

def H_impl_System_has : Hint := ⟨[(0, false), (1, false), (2, true), (3, true), (4, false), (5, false), (6, false), (21, false), (22, false), (23, false)], [[0, 1, 3, 4, 5, 6]]⟩
def K74_1 : C := .seq (.pl <| .st (.ext 10 0) <|
    .st (.act none (.px (some 4) (.mv (.c (.bool true))))) .done) (.ret)
@[simp] def W74_1 := @C.wpe _ _ K74_1.eq_1
def K74_2 : C := .pl <| .st (.ext 10 1) <|
    .st (.act none (.px (some 10) (.bin .add (.v 9) (.c (.int .i64 1))))) <|
    .st (.act none (.px (some 9) (.mv (.v 10)))) .done
@[simp] def W74_2 := @C.wpe _ _ K74_2.eq_1
def K74_3 : C := .seq (.pl <| .st (.ext 10 0) <|
    .st (.act none (.px (some 4) (.mv (.c (.bool false))))) .done) (.ret)
@[simp] def W74_3 := @C.wpe _ _ K74_3.eq_1
def K74_4 : C := .cond 10 (.v 19) K74_3 (.skip)
@[simp] def W74_4 := @C.wpe _ _ K74_4.eq_1
def K74_5 : Pl := .st (.act none (.px (some 19) (.un .not (.v 18)))) .done
@[simp] def W74_5 := @Pl.wpe _ _ K74_5.eq_1
def K74_6 : C := .seq (.pl <| .st (.ext 10 10) <|
    .st (.act none (.px (some 10) (.mv (.v 6)))) <|
    .st (.act none (.als 11 none 2)) <|
    .st (.act none (.pget (some 12) (some 11) 2 1 none)) <|
    .st (.act none (.px (some 13) (.mv (.v 5)))) <|
    .st (.act none (.px (some 14) (.ia 2 (.v 12) (.v 13)))) <|
    .st (.act none (.px (some 15) (.fa 0 (.v 14)))) <|
    .st (.act none (.ld (some 16) (.v 15) none)) <|
    .st (.act none (.px (some 17) (.bin .sub (.v 16) (.c (.int .i64 1))))) <|
    .st (.act none (.ex (some 18) (.call fn_impl_in [.v 10, .c (.int .i64 0), .v 17]))) K74_5) K74_4
@[simp] def W74_6 := @C.wpe _ _ K74_6.eq_1
def K74_7 : C := .seq (.block 1 (.seq (.pl <| .st (.ext 10 3) <|
    .st (.act none (.px (some 10) (.mv (.v 9)))) <|
    .st (.act none (.px (some 11) (.ia 1 (.v 7) (.v 9)))) <|
    .st (.act none (.ld (some 12) (.v 11) none)) <|
    .st (.act none (.px (some 5) (.mv (.v 10)))) <|
    .st (.act none (.px (some 6) (.mv (.v 12)))) .done) K74_6)) K74_2
@[simp] def W74_7 := @C.wpe _ _ K74_7.eq_1
def K74_8 : C := .seq (.cond 10 (.v 10) (.skip) (.exit 0)) K74_7
@[simp] def W74_8 := @C.wpe _ _ K74_8.eq_1
def K74_9 : C := .seq (.pl <| .st (.ext 10 1) <|
    .st (.act none (.px (some 10) (.bin .lss (.v 9) (.v 8)))) .done) K74_8
@[simp] def W74_9 := @C.wpe _ _ K74_9.eq_1
def K74_10 : C := .block 0 (.loop 10 [0, 1, 3, 4, 5, 6] K74_9)
@[simp] def W74_10 := @C.wpe _ _ K74_10.eq_1
def K74_11 : C := .seq (.seq (.pl <| .st (.ext 10 1) <|
    .st (.act none (.als 10 none 3)) <|
    .st (.act none (.pget (some 7) (some 10) 3 0 none)) <|
    .st (.act none (.px (some 8) (.lenV (.v 7)))) <|
    .st (.act none (.px (some 9) (.mv (.c (.int .i64 0))))) .done) K74_10) K74_1
@[simp] def W74_11 := @C.wpe _ _ K74_11.eq_1
def K74_12 : C := .seq (.pl <| .st (.ext 10 0) <|
    .st (.act none (.px (some 4) (.mv (.c (.bool false))))) .done) (.ret)
@[simp] def W74_12 := @C.wpe _ _ K74_12.eq_1
def K74_13 : C := .cond 10 (.v 22) K74_12 (.skip)
@[simp] def W74_13 := @C.wpe _ _ K74_13.eq_1
def K74_14 : Pl := .st (.act (some (.v 17, false)) (.px (some 21) (.un .not (.v 20)))) <|
    .st (.act none (.px (some 22) (.pick (.v 17) (.c (.bool true)) (.v 21)))) .done
@[simp] def W74_14 := @Pl.wpe _ _ K74_14.eq_1
def K74_15 : C := .seq (.seq (.pl <| .st (.ext 10 13) <|
    .st (.act none (.als 10 none 3)) <|
    .st (.act none (.pget (some 11) (some 10) 3 0 none)) <|
    .st (.act none (.px (some 12) (.lenV (.v 11)))) <|
    .st (.act none (.als 13 none 2)) <|
    .st (.act none (.pget (some 14) (some 13) 2 1 none)) <|
    .st (.act none (.px (some 15) (.lenV (.v 14)))) <|
    .st (.act none (.px (some 16) (.bin .neq (.v 12) (.v 15)))) <|
    .st (.act none (.px (some 17) (.mv (.v 16)))) <|
    .st (.act (some (.v 17, false)) (.als 18 none 3)) <|
    .st (.act (some (.v 17, false)) (.pget (some 19) (some 18) 3 1 none)) <|
    .st (.act (some (.v 17, false)) (.ex (some 20) (.call fn_impl_valsOk [.v 19]))) K74_14) K74_13) K74_11
@[simp] def W74_15 := @C.wpe _ _ K74_15.eq_1
def B_impl_System_has : C := .seq (.pl <| .st (.ext 10 0) <|
    .st (.act none (.pnew 2 (.v 0) [])) <|
    .st (.act none (.pnew 3 (.v 1) [])) <|
    .st (.act none (.px (some 4) (.mv (.c (.bool false))))) .done) K74_15
@[simp] def WB_impl_System_has := @C.wpe _ _ B_impl_System_has.eq_1
def R_impl_System_has : FIR := ⟨B_impl_System_has, 10, [(4, none)]⟩
theorem IR_impl_System_has : cfun Try.prog H_impl_System_has Try.f74 = some R_impl_System_has := by kernel_rfl
theorem EN_impl_System_has {args : List Value} {h : Heap} {k : Value → Heap → Prop} (hargs : args.length = 2) (hw : B_impl_System_has.wp Try.prog (retQ [(4, none)] k) (env0 args 10) h) : CallE Try.prog fn_impl_System_has args h k := enter Try.func74 rfl IR_impl_System_has hargs hw

def H_laws_FnDeadEdges : Hint := ⟨[(0, false), (2, false), (3, true), (4, false), (5, false), (6, false), (7, false), (8, false), (9, true), (10, false), (11, false), (12, false), (13, false)], [[0, 1, 5, 6, 7, 11, 12], [0, 1, 5, 6, 7]]⟩
def K4_1 : C := .seq (.pl <| .st (.ext 13 13) <|
    .st (.act none (.px (some 13) (.mv (.v 9)))) <|
    .st (.act none (.px (some 14) (.mv (.v 13)))) <|
    .st (.act (some (.v 14, true)) (.px (some 15) (.mv (.v 4)))) <|
    .st (.act (some (.v 14, true)) (.px (some 16) (.lenV (.v 15)))) <|
    .st (.act (some (.v 14, true)) (.als 17 none 2)) <|
    .st (.act (some (.v 14, true)) (.pget (some 18) (some 17) 2 1 none)) <|
    .st (.act (some (.v 14, true)) (.px (some 19) (.mv (.v 3)))) <|
    .st (.act (some (.v 14, true)) (.px (some 20) (.ia 2 (.v 18) (.v 19)))) <|
    .st (.act (some (.v 14, true)) (.px (some 21) (.fa 1 (.v 20)))) <|
    .st (.act (some (.v 14, true)) (.ld (some 22) (.v 21) none)) <|
    .st (.act (some (.v 14, true)) (.px (some 23) (.lenV (.v 22)))) <|
    .st (.act (some (.v 14, true)) (.px (some 24) (.bin .eql (.v 16) (.v 23)))) <|
    .st (.act none (.px (some 25) (.pick (.v 14) (.v 24) (.c (.bool false))))) <|
    .st (.act none (.px (some 1) (.mv (.v 25)))) .done) (.ret)
@[simp] def W4_1 := @C.wpe _ _ K4_1.eq_1
def K4_2 : C := .pl <| .st (.ext 13 2) <|
    .st (.act none (.px (some 13) (.mv (.v 10)))) <|
    .st (.act none (.px (some 14) (.bin .add (.v 13) (.c (.int .i64 1))))) <|
    .st (.act none (.px (some 10) (.mv (.v 14)))) .done
@[simp] def W4_2 := @C.wpe _ _ K4_2.eq_1
def K4_3 : C := .pl <| .st (.ext 13 2) <|
    .st (.act none (.px (some 13) (.mv (.v 12)))) <|
    .st (.act none (.px (some 14) (.bin .add (.v 13) (.c (.int .i64 1))))) <|
    .st (.act none (.px (some 12) (.mv (.v 14)))) .done
@[simp] def W4_3 := @C.wpe _ _ K4_3.eq_1
def K4_4 : C := .seq (.pl <| .st (.ext 13 0) <|
    .st (.act none (.px (some 1) (.mv (.c (.bool false))))) .done) (.ret)
@[simp] def W4_4 := @C.wpe _ _ K4_4.eq_1
def K4_5 : C := .cond 13 (.v 48) K4_4 (.skip)
@[simp] def W4_5 := @C.wpe _ _ K4_5.eq_1
def K4_6 : C := .seq (.block 3 (.seq (.pl <| .st (.ext 13 36) <|
    .st (.act none (.px (some 13) (.mv (.v 11)))) <|
    .st (.act none (.px (some 14) (.mv (.v 12)))) <|
    .st (.act none (.px (some 15) (.ia 4 (.v 13) (.v 14)))) <|
    .st (.act none (.px (some 16) (.fa 0 (.v 15)))) <|
    .st (.act none (.ld (some 17) (.v 16) none)) <|
    .st (.act none (.px (some 18) (.mv (.v 3)))) <|
    .st (.act none (.px (some 19) (.bin .eql (.v 17) (.v 18)))) <|
    .st (.act none (.px (some 20) (.mv (.v 19)))) <|
    .st (.act (some (.v 20, true)) (.px (some 21) (.mv (.v 4)))) <|
    .st (.act (some (.v 20, true)) (.px (some 22) (.mv (.v 11)))) <|
    .st (.act (some (.v 20, true)) (.px (some 23) (.mv (.v 12)))) <|
    .st (.act (some (.v 20, true)) (.px (some 24) (.ia 4 (.v 22) (.v 23)))) <|
    .st (.act (some (.v 20, true)) (.px (some 25) (.fa 1 (.v 24)))) <|
    .st (.act (some (.v 20, true)) (.ld (some 26) (.v 25) none)) <|
    .st (.act (some (.v 20, true)) (.px (some 27) (.ia 1 (.v 21) (.v 26)))) <|
    .st (.act (some (.v 20, true)) (.ld (some 28) (.v 27) none)) <|
    .st (.act none (.px (some 29) (.pick (.v 20) (.v 28) (.c (.bool false))))) <|
    .st (.act none (.px (some 30) (.mv (.v 29)))) <|
    .st (.act (some (.v 30, false)) (.px (some 31) (.mv (.v 11)))) <|
    .st (.act (some (.v 30, false)) (.px (some 32) (.mv (.v 12)))) <|
    .st (.act (some (.v 30, false)) (.px (some 33) (.ia 4 (.v 31) (.v 32)))) <|
    .st (.act (some (.v 30, false)) (.px (some 34) (.fa 2 (.v 33)))) <|
    .st (.act (some (.v 30, false)) (.ld (some 35) (.v 34) none)) <|
    .st (.act (some (.v 30, false)) (.px (some 36) (.mv (.v 3)))) <|
    .st (.act (some (.v 30, false)) (.px (some 37) (.bin .eql (.v 35) (.v 36)))) <|
    .st (.act (some (.v 30, false)) (.px (some 38) (.mv (.v 37)))) <|
    .st (.act (some (.v 38, true)) (.px (some 39) (.mv (.v 4)))) <|
    .st (.act (some (.v 38, true)) (.px (some 40) (.mv (.v 11)))) <|
    .st (.act (some (.v 38, true)) (.px (some 41) (.mv (.v 12)))) <|
    .st (.act (some (.v 38, true)) (.px (some 42) (.ia 4 (.v 40) (.v 41)))) <|
    .st (.act (some (.v 38, true)) (.px (some 43) (.fa 3 (.v 42)))) <|
    .st (.act (some (.v 38, true)) (.ld (some 44) (.v 43) none)) <|
    .st (.act (some (.v 38, true)) (.px (some 45) (.ia 1 (.v 39) (.v 44)))) <|
    .st (.act (some (.v 38, true)) (.ld (some 46) (.v 45) none)) <|
    .st (.act (some (.v 30, false)) (.px (some 47) (.pick (.v 38) (.v 46) (.c (.bool false))))) <|
    .st (.act none (.px (some 48) (.pick (.v 30) (.c (.bool true)) (.v 47)))) .done) K4_5)) K4_3
@[simp] def W4_6 := @C.wpe _ _ K4_6.eq_1
def K4_7 : C := .cond 13 (.v 16) (.skip) (.exit 2)
@[simp] def W4_7 := @C.wpe _ _ K4_7.eq_1
def K4_8 : C := .seq (.seq (.pl <| .st (.ext 13 4) <|
    .st (.act none (.px (some 13) (.mv (.v 12)))) <|
    .st (.act none (.px (some 14) (.mv (.v 11)))) <|
    .st (.act none (.px (some 15) (.lenV (.v 14)))) <|
    .st (.act none (.px (some 16) (.bin .lss (.v 13) (.v 15)))) .done) K4_7) K4_6
@[simp] def W4_8 := @C.wpe _ _ K4_8.eq_1
def K4_9 : C := .block 2 (.loop 13 [0, 1, 5, 6, 7] K4_8)
@[simp] def W4_9 := @C.wpe _ _ K4_9.eq_1
def K4_10 : C := .seq (.pl <| .st (.ext 13 0) <|
    .st (.act none (.px (some 12) (.mv (.c (.int .i64 0))))) .done) K4_9
@[simp] def W4_10 := @C.wpe _ _ K4_10.eq_1
def K4_11 : Pl := .st (.act none (.px (some 11) (.mv (.v 19)))) .done
@[simp] def W4_11 := @Pl.wpe _ _ K4_11.eq_1
def K4_12 : C := .seq (.block 1 (.seq (.pl <| .st (.ext 13 7) <|
    .st (.act none (.pget (some 13) none 2 0 (some 2))) <|
    .st (.act none (.als 14 none 8)) <|
    .st (.act none (.pget (some 15) (some 14) 8 0 none)) <|
    .st (.act none (.px (some 16) (.mv (.v 10)))) <|
    .st (.act none (.px (some 17) (.ia 2 (.v 15) (.v 16)))) <|
    .st (.act none (.ld (some 18) (.v 17) (some 2))) <|
    .st (.act none (.ex (some 19) (.call fn_impl_EnabledSteps [.v 13, .v 18]))) K4_11) K4_10)) K4_2
@[simp] def W4_12 := @C.wpe _ _ K4_12.eq_1
def K4_13 : C := .cond 13 (.v 17) (.skip) (.exit 0)
@[simp] def W4_13 := @C.wpe _ _ K4_13.eq_1
def K4_14 : C := .seq (.seq (.pl <| .st (.ext 13 5) <|
    .st (.act none (.px (some 13) (.mv (.v 10)))) <|
    .st (.act none (.als 14 none 8)) <|
    .st (.act none (.pget (some 15) (some 14) 8 0 none)) <|
    .st (.act none (.px (some 16) (.lenV (.v 15)))) <|
    .st (.act none (.px (some 17) (.bin .lss (.v 13) (.v 16)))) .done) K4_13) K4_12
@[simp] def W4_14 := @C.wpe _ _ K4_14.eq_1
def K4_15 : C := .block 0 (.loop 13 [0, 1, 5, 6, 7, 11, 12] K4_14)
@[simp] def W4_15 := @C.wpe _ _ K4_15.eq_1
def K4_16 : C := .seq (.seq (.pl <| .st (.ext 13 0) <|
    .st (.act none (.px (some 10) (.mv (.c (.int .i64 0))))) .done) K4_15) K4_1
@[simp] def W4_16 := @C.wpe _ _ K4_16.eq_1
def K4_17 : Pl := .st (.act none (.px (some 15) (.mv (.v 14)))) <|
    .st (.act none (.px (some 16) (.extract 0 (.v 15)))) <|
    .st (.act none (.px (some 17) (.extract 1 (.v 15)))) <|
    .st (.act none (.pnew 8 (.c (.agg #[.slice none 0 0, .slice none 0 0])) [])) <|
    .st (.act none (.pset none 8 0 2 (.v 16))) <|
    .st (.act none (.px (some 9) (.mv (.v 17)))) .done
@[simp] def W4_17 := @Pl.wpe _ _ K4_17.eq_1
def K4_18 : C := .seq (.pl <| .st (.ext 13 5) <|
    .st (.act none (.pget (some 13) none 2 0 (some 2))) <|
    .st (.act none (.ex (some 14) (.call fn_impl_BuildGraph [.v 13]))) K4_17) K4_16
@[simp] def W4_18 := @C.wpe _ _ K4_18.eq_1
def K4_19 : Pl := .st (.act none (.px (some 20) (.pick (.v 16) (.v 19) (.c (.bool false))))) <|
    .st (.act none (.px (some 1) (.mv (.v 20)))) .done
@[simp] def W4_19 := @Pl.wpe _ _ K4_19.eq_1
def K4_20 : C := .seq (.pl <| .st (.ext 13 8) <|
    .st (.act none (.px (some 13) (.mv (.v 5)))) <|
    .st (.act none (.px (some 14) (.mv (.v 7)))) <|
    .st (.act none (.px (some 15) (.eqb false (.v 13) (.v 14)))) <|
    .st (.act none (.px (some 16) (.mv (.v 15)))) <|
    .st (.act (some (.v 16, true)) (.px (some 17) (.mv (.v 4)))) <|
    .st (.act (some (.v 16, true)) (.px (some 18) (.mv (.v 6)))) <|
    .st (.act (some (.v 16, true)) (.ex (some 19) (.call fn_laws_wpBools [.v 17, .v 18]))) K4_19) (.ret)
@[simp] def W4_20 := @C.wpe _ _ K4_20.eq_1
def K4_21 : C := .cond 13 (.v 25) K4_20 (.skip)
@[simp] def W4_21 := @C.wpe _ _ K4_21.eq_1
def K4_22 : Pl := .st (.act (some (.v 16, false)) (.px (some 20) (.un .not (.v 19)))) <|
    .st (.act none (.px (some 21) (.pick (.v 16) (.c (.bool true)) (.v 20)))) <|
    .st (.act none (.px (some 22) (.mv (.v 21)))) <|
    .st (.act (some (.v 22, false)) (.px (some 23) (.mv (.v 5)))) <|
    .st (.act (some (.v 22, false)) (.px (some 24) (.un .not (.v 23)))) <|
    .st (.act none (.px (some 25) (.pick (.v 22) (.c (.bool true)) (.v 24)))) .done
@[simp] def W4_22 := @Pl.wpe _ _ K4_22.eq_1
def K4_23 : C := .seq (.seq (.pl <| .st (.ext 13 13) <|
    .st (.act none (.px (some 13) (.mv (.v 5)))) <|
    .st (.act none (.px (some 14) (.mv (.v 7)))) <|
    .st (.act none (.px (some 15) (.eqb true (.v 13) (.v 14)))) <|
    .st (.act none (.px (some 16) (.mv (.v 15)))) <|
    .st (.act (some (.v 16, false)) (.px (some 17) (.mv (.v 4)))) <|
    .st (.act (some (.v 16, false)) (.px (some 18) (.mv (.v 6)))) <|
    .st (.act (some (.v 16, false)) (.ex (some 19) (.call fn_laws_wpBools [.v 17, .v 18]))) K4_22) K4_21) K4_18
@[simp] def W4_23 := @C.wpe _ _ K4_23.eq_1
def K4_24 : Pl := .st (.act none (.px (some 16) (.mv (.v 15)))) <|
    .st (.act none (.px (some 17) (.extract 0 (.v 16)))) <|
    .st (.act none (.px (some 18) (.extract 1 (.v 16)))) <|
    .st (.act none (.px (some 6) (.mv (.v 17)))) <|
    .st (.act none (.px (some 7) (.mv (.v 18)))) .done
@[simp] def W4_24 := @Pl.wpe _ _ K4_24.eq_1
def K4_25 : C := .seq (.pl <| .st (.ext 13 6) <|
    .st (.act none (.pget (some 13) none 2 0 (some 2))) <|
    .st (.act none (.px (some 14) (.mv (.v 3)))) <|
    .st (.act none (.ex (some 15) (.call fn_spec_DeadEdges [.v 13, .v 14]))) K4_24) K4_23
@[simp] def W4_25 := @C.wpe _ _ K4_25.eq_1
def K4_26 : Pl := .st (.act none (.px (some 16) (.mv (.v 15)))) <|
    .st (.act none (.px (some 17) (.extract 0 (.v 16)))) <|
    .st (.act none (.px (some 18) (.extract 1 (.v 16)))) <|
    .st (.act none (.px (some 4) (.mv (.v 17)))) <|
    .st (.act none (.px (some 5) (.mv (.v 18)))) .done
@[simp] def W4_26 := @Pl.wpe _ _ K4_26.eq_1
def K4_27 : C := .seq (.pl <| .st (.ext 13 6) <|
    .st (.act none (.pget (some 13) none 2 0 (some 2))) <|
    .st (.act none (.px (some 14) (.mv (.v 3)))) <|
    .st (.act none (.ex (some 15) (.call fn_impl_DeadEdges [.v 13, .v 14]))) K4_26) K4_25
@[simp] def W4_27 := @C.wpe _ _ K4_27.eq_1
def K4_28 : Pl := .st (.act none (.px (some 15) (.mv (.v 14)))) <|
    .st (.act none (.px (some 16) (.extract 0 (.v 15)))) <|
    .st (.act none (.px (some 17) (.extract 1 (.v 15)))) <|
    .st (.act none (.pnew 2 (.c (.agg #[.slice none 0 0, .slice none 0 0])) [])) <|
    .st (.act none (.pset none 2 0 2 (.v 16))) <|
    .st (.act none (.px (some 3) (.mv (.v 17)))) .done
@[simp] def W4_28 := @Pl.wpe _ _ K4_28.eq_1
def K4_29 : C := .seq (.pl <| .st (.ext 13 5) <|
    .st (.act none (.px (some 13) (.mv (.v 0)))) <|
    .st (.act none (.ex (some 14) (.call fn_spec_DrawDeadEdges [.v 13]))) K4_28) K4_27
@[simp] def W4_29 := @C.wpe _ _ K4_29.eq_1
def K4_30 : C := .seq (.pl <| .st (.ext 13 0) <|
    .st (.act none (.px (some 1) (.mv (.c (.bool true))))) .done) (.ret)
@[simp] def W4_30 := @C.wpe _ _ K4_30.eq_1
def K4_31 : C := .cond 13 (.v 15) K4_30 (.skip)
@[simp] def W4_31 := @C.wpe _ _ K4_31.eq_1
def K4_32 : C := .seq (.seq (.pl <| .st (.ext 13 3) <|
    .st (.act none (.px (some 13) (.mv (.v 0)))) <|
    .st (.act none (.px (some 14) (.lenV (.v 13)))) <|
    .st (.act none (.px (some 15) (.bin .gtr (.v 14) (.c (.int .i64 1048576))))) .done) K4_31) K4_29
@[simp] def W4_32 := @C.wpe _ _ K4_32.eq_1
def B_laws_FnDeadEdges : C := .seq (.pl <| .st (.ext 13 0) <|
    .st (.act none (.px (some 1) (.mv (.c (.bool false))))) .done) K4_32
@[simp] def WB_laws_FnDeadEdges := @C.wpe _ _ B_laws_FnDeadEdges.eq_1
def R_laws_FnDeadEdges : FIR := ⟨B_laws_FnDeadEdges, 13, [(1, none)]⟩
theorem IR_laws_FnDeadEdges : cfun Try.prog H_laws_FnDeadEdges Try.f4 = some R_laws_FnDeadEdges := by kernel_rfl
theorem EN_laws_FnDeadEdges {args : List Value} {h : Heap} {k : Value → Heap → Prop} (hargs : args.length = 1) (hw : B_laws_FnDeadEdges.wp Try.prog (retQ [(1, none)] k) (env0 args 13) h) : CallE Try.prog fn_laws_FnDeadEdges args h k := enter Try.func4 rfl IR_laws_FnDeadEdges hargs hw

def H_laws_wpBools : Hint := ⟨[(0, false), (1, false), (4, false), (5, false)], [[2]]⟩
def K11_1 : C := .seq (.pl <| .st (.ext 4 0) <|
    .st (.act none (.px (some 2) (.mv (.c (.bool true))))) .done) (.ret)
@[simp] def W11_1 := @C.wpe _ _ K11_1.eq_1
def K11_2 : C := .pl <| .st (.ext 4 2) <|
    .st (.act none (.px (some 4) (.mv (.v 3)))) <|
    .st (.act none (.px (some 5) (.bin .add (.v 4) (.c (.int .i64 1))))) <|
    .st (.act none (.px (some 3) (.mv (.v 5)))) .done
@[simp] def W11_2 := @C.wpe _ _ K11_2.eq_1
def K11_3 : C := .seq (.pl <| .st (.ext 4 0) <|
    .st (.act none (.px (some 2) (.mv (.c (.bool false))))) .done) (.ret)
@[simp] def W11_3 := @C.wpe _ _ K11_3.eq_1
def K11_4 : C := .cond 4 (.v 12) K11_3 (.skip)
@[simp] def W11_4 := @C.wpe _ _ K11_4.eq_1
def K11_5 : C := .seq (.block 1 (.seq (.pl <| .st (.ext 4 9) <|
    .st (.act none (.px (some 4) (.mv (.v 0)))) <|
    .st (.act none (.px (some 5) (.mv (.v 3)))) <|
    .st (.act none (.px (some 6) (.ia 1 (.v 4) (.v 5)))) <|
    .st (.act none (.ld (some 7) (.v 6) none)) <|
    .st (.act none (.px (some 8) (.mv (.v 1)))) <|
    .st (.act none (.px (some 9) (.mv (.v 3)))) <|
    .st (.act none (.px (some 10) (.ia 1 (.v 8) (.v 9)))) <|
    .st (.act none (.ld (some 11) (.v 10) none)) <|
    .st (.act none (.px (some 12) (.eqb true (.v 7) (.v 11)))) .done) K11_4)) K11_2
@[simp] def W11_5 := @C.wpe _ _ K11_5.eq_1
def K11_6 : C := .cond 4 (.v 7) (.skip) (.exit 0)
@[simp] def W11_6 := @C.wpe _ _ K11_6.eq_1
def K11_7 : C := .seq (.seq (.pl <| .st (.ext 4 4) <|
    .st (.act none (.px (some 4) (.mv (.v 3)))) <|
    .st (.act none (.px (some 5) (.mv (.v 0)))) <|
    .st (.act none (.px (some 6) (.lenV (.v 5)))) <|
    .st (.act none (.px (some 7) (.bin .lss (.v 4) (.v 6)))) .done) K11_6) K11_5
@[simp] def W11_7 := @C.wpe _ _ K11_7.eq_1
def K11_8 : C := .block 0 (.loop 4 [2] K11_7)
@[simp] def W11_8 := @C.wpe _ _ K11_8.eq_1
def K11_9 : C := .seq (.seq (.pl <| .st (.ext 4 0) <|
    .st (.act none (.px (some 3) (.mv (.c (.int .i64 0))))) .done) K11_8) K11_1
@[simp] def W11_9 := @C.wpe _ _ K11_9.eq_1
def K11_10 : C := .seq (.pl <| .st (.ext 4 0) <|
    .st (.act none (.px (some 2) (.mv (.c (.bool false))))) .done) (.ret)
@[simp] def W11_10 := @C.wpe _ _ K11_10.eq_1
def K11_11 : C := .cond 4 (.v 8) K11_10 (.skip)
@[simp] def W11_11 := @C.wpe _ _ K11_11.eq_1
def K11_12 : C := .seq (.seq (.pl <| .st (.ext 4 5) <|
    .st (.act none (.px (some 4) (.mv (.v 0)))) <|
    .st (.act none (.px (some 5) (.lenV (.v 4)))) <|
    .st (.act none (.px (some 6) (.mv (.v 1)))) <|
    .st (.act none (.px (some 7) (.lenV (.v 6)))) <|
    .st (.act none (.px (some 8) (.bin .neq (.v 5) (.v 7)))) .done) K11_11) K11_9
@[simp] def W11_12 := @C.wpe _ _ K11_12.eq_1
def B_laws_wpBools : C := .seq (.pl <| .st (.ext 4 0) <|
    .st (.act none (.px (some 2) (.mv (.c (.bool false))))) .done) K11_12
@[simp] def WB_laws_wpBools := @C.wpe _ _ B_laws_wpBools.eq_1
def R_laws_wpBools : FIR := ⟨B_laws_wpBools, 4, [(2, none)]⟩
theorem IR_laws_wpBools : cfun Try.prog H_laws_wpBools Try.f11 = some R_laws_wpBools := by kernel_rfl
theorem EN_laws_wpBools {args : List Value} {h : Heap} {k : Value → Heap → Prop} (hargs : args.length = 2) (hw : B_laws_wpBools.wp Try.prog (retQ [(2, none)] k) (env0 args 4) h) : CallE Try.prog fn_laws_wpBools args h k := enter Try.func11 rfl IR_laws_wpBools hargs hw

def H_spec_DeadEdges : Hint := ⟨[(0, false), (1, false), (2, true), (4, false), (5, false), (6, true), (7, false), (8, false), (9, false), (10, false), (11, false), (12, false)], [[0, 3, 4, 6, 9, 10, 11], [0, 3, 4, 6, 8, 10, 11], [0, 3, 4, 6, 8]]⟩
def K10_1 : C := .seq (.pl <| .st (.ext 12 1) <|
    .st (.act none (.px (some 12) (.mv (.v 7)))) <|
    .st (.act none (.px (some 3) (.mv (.v 12)))) <|
    .st (.act none (.px (some 4) (.mv (.c (.bool true))))) .done) (.ret)
@[simp] def W10_1 := @C.wpe _ _ K10_1.eq_1
def K10_2 : C := .pl <| .st (.ext 12 2) <|
    .st (.act none (.px (some 12) (.mv (.v 9)))) <|
    .st (.act none (.px (some 13) (.bin .add (.v 12) (.c (.int .i64 1))))) <|
    .st (.act none (.px (some 9) (.mv (.v 13)))) .done
@[simp] def W10_2 := @C.wpe _ _ K10_2.eq_1
def K10_3 : C := .pl <| .st (.ext 12 2) <|
    .st (.act none (.px (some 12) (.mv (.v 11)))) <|
    .st (.act none (.px (some 13) (.bin .add (.v 12) (.c (.int .i64 1))))) <|
    .st (.act none (.px (some 11) (.mv (.v 13)))) .done
@[simp] def W10_3 := @C.wpe _ _ K10_3.eq_1
def K10_4 : C := .pl <| .st (.ext 12 7) <|
    .st (.act none (.px (some 12) (.mv (.v 7)))) <|
    .st (.act none (.px (some 13) (.mv (.v 10)))) <|
    .st (.act none (.px (some 14) (.mv (.v 11)))) <|
    .st (.act none (.px (some 15) (.ia 4 (.v 13) (.v 14)))) <|
    .st (.act none (.px (some 16) (.fa 3 (.v 15)))) <|
    .st (.act none (.ld (some 17) (.v 16) none)) <|
    .st (.act none (.px (some 18) (.ia 1 (.v 12) (.v 17)))) <|
    .st (.act none (.ex none (.store 1 (.v 18) (.c (.bool false))))) .done
@[simp] def W10_4 := @C.wpe _ _ K10_4.eq_1
def K10_5 : C := .cond 12 (.v 18) K10_4 (.skip)
@[simp] def W10_5 := @C.wpe _ _ K10_5.eq_1
def K10_6 : C := .seq (.pl <| .st (.ext 12 7) <|
    .st (.act none (.px (some 12) (.mv (.v 10)))) <|
    .st (.act none (.px (some 13) (.mv (.v 11)))) <|
    .st (.act none (.px (some 14) (.ia 4 (.v 12) (.v 13)))) <|
    .st (.act none (.px (some 15) (.fa 2 (.v 14)))) <|
    .st (.act none (.ld (some 16) (.v 15) none)) <|
    .st (.act none (.px (some 17) (.mv (.v 1)))) <|
    .st (.act none (.px (some 18) (.bin .eql (.v 16) (.v 17)))) .done) K10_5
@[simp] def W10_6 := @C.wpe _ _ K10_6.eq_1
def K10_7 : C := .pl <| .st (.ext 12 7) <|
    .st (.act none (.px (some 12) (.mv (.v 7)))) <|
    .st (.act none (.px (some 13) (.mv (.v 10)))) <|
    .st (.act none (.px (some 14) (.mv (.v 11)))) <|
    .st (.act none (.px (some 15) (.ia 4 (.v 13) (.v 14)))) <|
    .st (.act none (.px (some 16) (.fa 1 (.v 15)))) <|
    .st (.act none (.ld (some 17) (.v 16) none)) <|
    .st (.act none (.px (some 18) (.ia 1 (.v 12) (.v 17)))) <|
    .st (.act none (.ex none (.store 1 (.v 18) (.c (.bool false))))) .done
@[simp] def W10_7 := @C.wpe _ _ K10_7.eq_1
def K10_8 : C := .cond 12 (.v 18) K10_7 (.skip)
@[simp] def W10_8 := @C.wpe _ _ K10_8.eq_1
def K10_9 : C := .seq (.block 5 (.seq (.seq (.pl <| .st (.ext 12 7) <|
    .st (.act none (.px (some 12) (.mv (.v 10)))) <|
    .st (.act none (.px (some 13) (.mv (.v 11)))) <|
    .st (.act none (.px (some 14) (.ia 4 (.v 12) (.v 13)))) <|
    .st (.act none (.px (some 15) (.fa 0 (.v 14)))) <|
    .st (.act none (.ld (some 16) (.v 15) none)) <|
    .st (.act none (.px (some 17) (.mv (.v 1)))) <|
    .st (.act none (.px (some 18) (.bin .eql (.v 16) (.v 17)))) .done) K10_8) K10_6)) K10_3
@[simp] def W10_9 := @C.wpe _ _ K10_9.eq_1
def K10_10 : C := .cond 12 (.v 15) (.skip) (.exit 4)
@[simp] def W10_10 := @C.wpe _ _ K10_10.eq_1
def K10_11 : C := .seq (.seq (.pl <| .st (.ext 12 4) <|
    .st (.act none (.px (some 12) (.mv (.v 11)))) <|
    .st (.act none (.px (some 13) (.mv (.v 10)))) <|
    .st (.act none (.px (some 14) (.lenV (.v 13)))) <|
    .st (.act none (.px (some 15) (.bin .lss (.v 12) (.v 14)))) .done) K10_10) K10_9
@[simp] def W10_11 := @C.wpe _ _ K10_11.eq_1
def K10_12 : C := .block 4 (.loop 12 [0, 3, 4, 6, 8] K10_11)
@[simp] def W10_12 := @C.wpe _ _ K10_12.eq_1
def K10_13 : C := .seq (.pl <| .st (.ext 12 0) <|
    .st (.act none (.px (some 11) (.mv (.c (.int .i64 0))))) .done) K10_12
@[simp] def W10_13 := @C.wpe _ _ K10_13.eq_1
def K10_14 : Pl := .st (.act none (.px (some 10) (.mv (.v 18)))) .done
@[simp] def W10_14 := @Pl.wpe _ _ K10_14.eq_1
def K10_15 : C := .seq (.block 3 (.seq (.pl <| .st (.ext 12 7) <|
    .st (.act none (.pget (some 12) none 2 0 (some 2))) <|
    .st (.act none (.als 13 none 5)) <|
    .st (.act none (.pget (some 14) (some 13) 5 0 none)) <|
    .st (.act none (.px (some 15) (.mv (.v 9)))) <|
    .st (.act none (.px (some 16) (.ia 2 (.v 14) (.v 15)))) <|
    .st (.act none (.ld (some 17) (.v 16) (some 2))) <|
    .st (.act none (.ex (some 18) (.call fn_spec_l3Steps [.v 12, .v 17]))) K10_14) K10_13)) K10_2
@[simp] def W10_15 := @C.wpe _ _ K10_15.eq_1
def K10_16 : C := .cond 12 (.v 16) (.skip) (.exit 2)
@[simp] def W10_16 := @C.wpe _ _ K10_16.eq_1
def K10_17 : C := .seq (.seq (.pl <| .st (.ext 12 5) <|
    .st (.act none (.px (some 12) (.mv (.v 9)))) <|
    .st (.act none (.als 13 none 5)) <|
    .st (.act none (.pget (some 14) (some 13) 5 0 none)) <|
    .st (.act none (.px (some 15) (.lenV (.v 14)))) <|
    .st (.act none (.px (some 16) (.bin .lss (.v 12) (.v 15)))) .done) K10_16) K10_15
@[simp] def W10_17 := @C.wpe _ _ K10_17.eq_1
def K10_18 : C := .block 2 (.loop 12 [0, 3, 4, 6, 8, 10, 11] K10_17)
@[simp] def W10_18 := @C.wpe _ _ K10_18.eq_1
def K10_19 : C := .seq (.seq (.pl <| .st (.ext 12 0) <|
    .st (.act none (.px (some 9) (.mv (.c (.int .i64 0))))) .done) K10_18) K10_1
@[simp] def W10_19 := @C.wpe _ _ K10_19.eq_1
def K10_20 : C := .pl <| .st (.ext 12 2) <|
    .st (.act none (.px (some 12) (.mv (.v 8)))) <|
    .st (.act none (.px (some 13) (.bin .add (.v 12) (.c (.int .i64 1))))) <|
    .st (.act none (.px (some 8) (.mv (.v 13)))) .done
@[simp] def W10_20 := @C.wpe _ _ K10_20.eq_1
def K10_21 : Pl := .st (.act none (.px (some 7) (.mv (.v 14)))) .done
@[simp] def W10_21 := @Pl.wpe _ _ K10_21.eq_1
def K10_22 : C := .seq (.block 1 (.pl <| .st (.ext 12 3) <|
    .st (.act none (.px (some 12) (.mv (.v 7)))) <|
    .st (.act none (.psl 13 [.bool false] [(0, 1, .c (.bool true))])) <|
    .st (.act none (.ex (some 14) (.app 1 1 [.bool false] (.o (.v 12)) (.p 1 13)))) K10_21)) K10_20
@[simp] def W10_22 := @C.wpe _ _ K10_22.eq_1
def K10_23 : C := .cond 12 (.v 20) (.skip) (.exit 0)
@[simp] def W10_23 := @C.wpe _ _ K10_23.eq_1
def K10_24 : C := .seq (.seq (.pl <| .st (.ext 12 9) <|
    .st (.act none (.px (some 12) (.mv (.v 8)))) <|
    .st (.act none (.als 13 none 2)) <|
    .st (.act none (.pget (some 14) (some 13) 2 1 none)) <|
    .st (.act none (.px (some 15) (.mv (.v 1)))) <|
    .st (.act none (.px (some 16) (.ia 2 (.v 14) (.v 15)))) <|
    .st (.act none (.px (some 17) (.fa 1 (.v 16)))) <|
    .st (.act none (.ld (some 18) (.v 17) none)) <|
    .st (.act none (.px (some 19) (.lenV (.v 18)))) <|
    .st (.act none (.px (some 20) (.bin .lss (.v 12) (.v 19)))) .done) K10_23) K10_22
@[simp] def W10_24 := @C.wpe _ _ K10_24.eq_1
def K10_25 : C := .block 0 (.loop 12 [0, 3, 4, 6, 9, 10, 11] K10_24)
@[simp] def W10_25 := @C.wpe _ _ K10_25.eq_1
def K10_26 : C := .seq (.seq (.pl <| .st (.ext 12 0) <|
    .st (.act none (.px (some 8) (.mv (.c (.int .i64 0))))) .done) K10_25) K10_19
@[simp] def W10_26 := @C.wpe _ _ K10_26.eq_1
def K10_27 : Pl := .st (.act none (.px (some 7) (.mv (.v 12)))) .done
@[simp] def W10_27 := @Pl.wpe _ _ K10_27.eq_1
def K10_28 : C := .seq (.pl <| .st (.ext 12 1) <|
    .st (.act none (.ex (some 12) (.bls 1 0 [.bool false] []))) K10_27) K10_26
@[simp] def W10_28 := @C.wpe _ _ K10_28.eq_1
def K10_29 : Pl := .st (.act none (.px (some 3) (.mv (.v 12)))) <|
    .st (.act none (.px (some 4) (.mv (.c (.bool false))))) .done
@[simp] def W10_29 := @Pl.wpe _ _ K10_29.eq_1
def K10_30 : C := .seq (.pl <| .st (.ext 12 1) <|
    .st (.act none (.ex (some 12) (.bls 1 0 [.bool false] []))) K10_29) (.ret)
@[simp] def W10_30 := @C.wpe _ _ K10_30.eq_1
def K10_31 : C := .cond 12 (.v 24) K10_30 (.skip)
@[simp] def W10_31 := @C.wpe _ _ K10_31.eq_1
def K10_32 : C := .seq (.seq (.pl <| .st (.ext 12 13) <|
    .st (.act none (.px (some 12) (.mv (.v 6)))) <|
    .st (.act none (.px (some 13) (.un .not (.v 12)))) <|
    .st (.act none (.px (some 14) (.mv (.v 13)))) <|
    .st (.act (some (.v 14, false)) (.px (some 15) (.mv (.v 1)))) <|
    .st (.act (some (.v 14, false)) (.px (some 16) (.bin .lss (.v 15) (.c (.int .i64 0))))) <|
    .st (.act none (.px (some 17) (.pick (.v 14) (.c (.bool true)) (.v 16)))) <|
    .st (.act none (.px (some 18) (.mv (.v 17)))) <|
    .st (.act (some (.v 18, false)) (.px (some 19) (.mv (.v 1)))) <|
    .st (.act (some (.v 18, false)) (.als 20 none 2)) <|
    .st (.act (some (.v 18, false)) (.pget (some 21) (some 20) 2 1 none)) <|
    .st (.act (some (.v 18, false)) (.px (some 22) (.lenV (.v 21)))) <|
    .st (.act (some (.v 18, false)) (.px (some 23) (.bin .geq (.v 19) (.v 22)))) <|
    .st (.act none (.px (some 24) (.pick (.v 18) (.c (.bool true)) (.v 23)))) .done) K10_31) K10_28
@[simp] def W10_32 := @C.wpe _ _ K10_32.eq_1
def K10_33 : Pl := .st (.act none (.px (some 14) (.mv (.v 13)))) <|
    .st (.act none (.px (some 15) (.extract 0 (.v 14)))) <|
    .st (.act none (.px (some 16) (.extract 1 (.v 14)))) <|
    .st (.act none (.pnew 5 (.c (.agg #[.slice none 0 0, .slice none 0 0])) [])) <|
    .st (.act none (.pset none 5 0 2 (.v 15))) <|
    .st (.act none (.px (some 6) (.mv (.v 16)))) .done
@[simp] def W10_33 := @Pl.wpe _ _ K10_33.eq_1
def K10_34 : C := .seq (.pl <| .st (.ext 12 5) <|
    .st (.act none (.pget (some 12) none 2 0 (some 2))) <|
    .st (.act none (.ex (some 13) (.call fn_spec_BuildGraph [.v 12]))) K10_33) K10_32
@[simp] def W10_34 := @C.wpe _ _ K10_34.eq_1
def B_spec_DeadEdges : C := .seq (.pl <| .st (.ext 12 0) <|
    .st (.act none (.pnew 2 (.v 0) [])) <|
    .st (.act none (.px (some 3) (.mv (.c (.slice none 0 0))))) <|
    .st (.act none (.px (some 4) (.mv (.c (.bool false))))) .done) K10_34
@[simp] def WB_spec_DeadEdges := @C.wpe _ _ B_spec_DeadEdges.eq_1
def R_spec_DeadEdges : FIR := ⟨B_spec_DeadEdges, 12, [(3, none), (4, none)]⟩
theorem IR_spec_DeadEdges : cfun Try.prog H_spec_DeadEdges Try.f10 = some R_spec_DeadEdges := by kernel_rfl
theorem EN_spec_DeadEdges {args : List Value} {h : Heap} {k : Value → Heap → Prop} (hargs : args.length = 2) (hw : B_spec_DeadEdges.wp Try.prog (retQ [(3, none), (4, none)] k) (env0 args 12) h) : CallE Try.prog fn_spec_DeadEdges args h k := enter Try.func10 rfl IR_spec_DeadEdges hargs hw

def H_spec_DrawDeadEdges : Hint := ⟨[(0, false), (2, true), (3, false), (4, false), (5, true)], []⟩
def K8_1 : Pl := .st (.act none (.pset none 1 0 2 (.v 5))) <|
    .st (.act none (.px (some 2) (.mv (.v 8)))) .done
@[simp] def W8_1 := @Pl.wpe _ _ K8_1.eq_1
def K8_2 : Pl := .st (.act none (.ex (some 8) (.call fn_spec_l16Rd_num [.v 6, .v 7]))) K8_1
@[simp] def W8_2 := @Pl.wpe _ _ K8_2.eq_1
def K8_3 : C := .seq (.pl <| .st (.ext 5 4) <|
    .st (.act none (.pget (some 5) none 4 0 (some 2))) <|
    .st (.act none (.px (some 6) (.mv (.v 3)))) <|
    .st (.act none (.ex (some 7) (.bls 1 6 [.int .i64 0] [(0, 1, .c (.int .i64 0)), (1, 1, .c (.int .i64 1)), (2, 1, .c (.int .i64 0)), (3, 1, .c (.int .i64 2)), (4, 1, .c (.int .i64 (-1))), (5, 1, .c (.int .i64 3))]))) K8_2) (.ret)
@[simp] def W8_3 := @C.wpe _ _ K8_3.eq_1
def K8_4 : Pl := .st (.act none (.pnew 4 (.c (.agg #[.slice none 0 0, .slice none 0 0])) [])) <|
    .st (.act none (.pset none 4 0 2 (.v 8))) .done
@[simp] def W8_4 := @Pl.wpe _ _ K8_4.eq_1
def K8_5 : Pl := .st (.act none (.ex (some 8) (.call fn_spec_l2Mutate [.v 5, .v 7]))) K8_4
@[simp] def W8_5 := @Pl.wpe _ _ K8_5.eq_1
def K8_6 : C := .seq (.pl <| .st (.ext 5 4) <|
    .st (.act none (.px (some 5) (.mv (.v 3)))) <|
    .st (.act none (.px (some 6) (.mv (.v 3)))) <|
    .st (.act none (.ex (some 7) (.call fn_spec_l2System [.v 6]))) K8_5) K8_3
@[simp] def W8_6 := @C.wpe _ _ K8_6.eq_1
def K8_7 : Pl := .st (.act none (.px (some 3) (.mv (.v 6)))) .done
@[simp] def W8_7 := @Pl.wpe _ _ K8_7.eq_1
def K8_8 : C := .seq (.pl <| .st (.ext 5 2) <|
    .st (.act none (.px (some 5) (.mv (.v 0)))) <|
    .st (.act none (.ex (some 6) (.call fn_spec_l16Open [.v 5]))) K8_7) K8_6
@[simp] def W8_8 := @C.wpe _ _ K8_8.eq_1
def B_spec_DrawDeadEdges : C := .seq (.pl <| .st (.ext 5 0) <|
    .st (.act none (.pnew 1 (.c (.agg #[.slice none 0 0, .slice none 0 0])) [])) <|
    .st (.act none (.px (some 2) (.mv (.c (.int .i64 0))))) .done) K8_8
@[simp] def WB_spec_DrawDeadEdges := @C.wpe _ _ B_spec_DrawDeadEdges.eq_1
def R_spec_DrawDeadEdges : FIR := ⟨B_spec_DrawDeadEdges, 5, [(1, some (some 2)), (2, none)]⟩
theorem IR_spec_DrawDeadEdges : cfun Try.prog H_spec_DrawDeadEdges Try.f8 = some R_spec_DrawDeadEdges := by kernel_rfl
theorem EN_spec_DrawDeadEdges {args : List Value} {h : Heap} {k : Value → Heap → Prop} (hargs : args.length = 1) (hw : B_spec_DrawDeadEdges.wp Try.prog (retQ [(1, some (some 2)), (2, none)] k) (env0 args 5) h) : CallE Try.prog fn_spec_DrawDeadEdges args h k := enter Try.func8 rfl IR_spec_DrawDeadEdges hargs hw


end Go.Proofs.Ytmpgkijhhocfcaa

/-
  Bodies of functions in the small language, as a program printed them, and that each is what the translation gives.
-/
namespace Go.Proofs.Ytmpgkijhhocfcaa
open Go
set_option linter.all false
set_option linter.defProp false
set_option maxRecDepth 1000000

end Go.Proofs.Ytmpgkijhhocfcaa

/-
  Arguments of laws: expressions that are drawn.
-/
namespace Go.Proofs.Ytmpgkijhhocfcaa
open Go
set_option linter.all false
set_option linter.unusedVariables false
set_option linter.unusedSimpArgs false
set_option linter.defProp false
set_option maxRecDepth 1000000

theorem okL {xs : List Int} (h : ∀ x ∈ xs, -9223372036854775808 ≤ x ∧ x < 9223372036854775808) : ∀ x ∈ xs, Flat.ok x := h
theorem Exq.nods_append : ∀ {l l2 : List Exq}, Exq.nods (l ++ l2) = Exq.nods l + Exq.nods l2
  | [], _ => by simp [Exq.nods]
  | x :: l, l2 => by simp [Exq.nods, Exq.nods_append (l := l) (l2 := l2)]; omega
theorem Exq.arity_le {k : Int} : Exq.arity k ≤ 2 := by
  unfold Exq.arity; repeat' split
  all_goals omega
theorem Exq.arity_ge {k : Int} : -1 ≤ Exq.arity k := by
  unfold Exq.arity; repeat' split
  all_goals omega

theorem c_l1Random {b : Nat} {sl : Value} {l : List (BitVec 8)} : ∀ (d : Nat), d ≤ 4 → ∀ {g h : Heap} {Γ : List HP} {p : Int}, Rep g sl l → HS g (rb b sl p :: Γ) h → 0 ≤ p → p + 4 * (2 ^ d : Nat) ≤ 1000000000000 →
    CallE Try.prog fn_spec_l1Random [.pointer (some ⟨b, 0, none⟩), .int .i64 d] h (fun u h' => ∃ (y : Exq) (p' : Int), HS g (ow u y :: rb b sl p' :: Γ) h' ∧ y.nod < 2 ^ (d + 1) ∧ p ≤ p' ∧ p' ≤ p + (4 * (2 ^ d : Nat) - 2)) := by
  intro d
  induction d with
  | zero =>
    intro _ g h Γ p R H hp hp2
    refine CallE.gen fun k hk => EN_spec_l1Random rfl ?_
    simp -implicitDefEqProofs (disch := first | omega | (simp only [List.length_set, List.length_replicate, List.length_append, List.length_map, List.length_take, List.length_cons, List.length_nil]; omega)) [wrap64]
    refine (c_pick R H (by omega) (by omega) ⟨by decide, by decide⟩).go ?_
    rintro _ hL1 ⟨r1, rfl, o1, z1, y1, H⟩
    by_cases c1 : r1 = 0
    · simp -implicitDefEqProofs (disch := first | omega | (simp only [List.length_set, List.length_replicate, List.length_append, List.length_map, List.length_take, List.length_cons, List.length_nil]; omega)) [wrap64, c1]
      refine (c_pick R H (by omega) (by omega) ⟨by decide, by decide⟩).go ?_
      rintro _ hL2 ⟨r2, rfl, o2, z2, y2, H⟩
      simp -implicitDefEqProofs (disch := first | omega | (simp only [List.length_set, List.length_replicate, List.length_append, List.length_map, List.length_take, List.length_cons, List.length_nil]; omega)) [wrap64, setC]
      exact RetK.keep (hk _ _ ⟨Exq.mk 1 r2 [], _, HS.mkExq' H.nil_ow ⟨by decide, by decide⟩ o2, by simp [Exq.nod, Exq.nods] <;> omega, by omega, by omega⟩)
    · simp -implicitDefEqProofs (disch := first | omega | (simp only [List.length_set, List.length_replicate, List.length_append, List.length_map, List.length_take, List.length_cons, List.length_nil]; omega)) [wrap64, c1]
      refine H.bls [(0 : Int), 1, 0, 2] rfl rfl (okL (by decide)) (by decide) fun v hL2 H => ?_
      simp -implicitDefEqProofs (disch := first | omega | (simp only [List.length_set, List.length_replicate, List.length_append, List.length_map, List.length_take, List.length_cons, List.length_nil]; omega)) [wrap64]
      refine (c_num R H (by omega) (by omega) (by simp)).go ?_
      rintro _ hL3 ⟨r2, rfl, o2, _, H⟩
      simp -implicitDefEqProofs (disch := first | omega | (simp only [List.length_set, List.length_replicate, List.length_append, List.length_map, List.length_take, List.length_cons, List.length_nil]; omega)) [wrap64, setC]
      exact RetK.keep (hk _ _ ⟨Exq.mk 2 r2 [], _, HS.mkExq' H.nil_ow ⟨by decide, by decide⟩ o2, by simp [Exq.nod, Exq.nods] <;> omega, by omega, by omega⟩)
  | succ d ih =>
    intro hd g h Γ p R H hp hp2
    have hq0 : 2 ^ (d + 1) = 2 * 2 ^ d := by rw [Nat.pow_succ]; omega
    have hq1 : 2 ^ (d + 1 + 1) = 4 * 2 ^ d := by rw [Nat.pow_succ, Nat.pow_succ]; omega
    have hqp : 0 < 2 ^ d := Nat.two_pow_pos d
    refine CallE.gen fun k hk => EN_spec_l1Random rfl ?_
    rw [hq0, hq1] at hk
    rw [hq0] at ih
    generalize hQ : 2 ^ d = q at *
    by_cases h2 : d = 0
    · simp -implicitDefEqProofs (disch := first | omega | (simp only [List.length_set, List.length_replicate, List.length_append, List.length_map, List.length_take, List.length_cons, List.length_nil]; omega)) [wrap64, h2]
      refine (c_pick R H (by omega) (by omega) ⟨by decide, by decide⟩).go ?_
      rintro _ hL1 ⟨r1, rfl, o1, z1, y1, H⟩
      by_cases c1 : r1 = 0
      · simp -implicitDefEqProofs (disch := first | omega | (simp only [List.length_set, List.length_replicate, List.length_append, List.length_map, List.length_take, List.length_cons, List.length_nil]; omega)) [wrap64, c1]
        refine (c_pick R H (by omega) (by omega) ⟨by decide, by decide⟩).go ?_
        rintro _ hL2 ⟨r2, rfl, o2, z2, y2, H⟩
        simp -implicitDefEqProofs (disch := first | omega | (simp only [List.length_set, List.length_replicate, List.length_append, List.length_map, List.length_take, List.length_cons, List.length_nil]; omega)) [wrap64, setC]
        exact RetK.keep (hk _ _ ⟨Exq.mk 1 r2 [], _, HS.mkExq' H.nil_ow ⟨by decide, by decide⟩ o2, by simp [Exq.nod, Exq.nods] <;> omega, by omega, by omega⟩)
      · simp -implicitDefEqProofs (disch := first | omega | (simp only [List.length_set, List.length_replicate, List.length_append, List.length_map, List.length_take, List.length_cons, List.length_nil]; omega)) [wrap64, c1]
        refine H.bls [(0 : Int), 1, 0, 2] rfl rfl (okL (by decide)) (by decide) fun v hL2 H => ?_
        simp -implicitDefEqProofs (disch := first | omega | (simp only [List.length_set, List.length_replicate, List.length_append, List.length_map, List.length_take, List.length_cons, List.length_nil]; omega)) [wrap64]
        refine (c_num R H (by omega) (by omega) (by simp)).go ?_
        rintro _ hL3 ⟨r2, rfl, o2, _, H⟩
        simp -implicitDefEqProofs (disch := first | omega | (simp only [List.length_set, List.length_replicate, List.length_append, List.length_map, List.length_take, List.length_cons, List.length_nil]; omega)) [wrap64, setC]
        exact RetK.keep (hk _ _ ⟨Exq.mk 2 r2 [], _, HS.mkExq' H.nil_ow ⟨by decide, by decide⟩ o2, by simp [Exq.nod, Exq.nods] <;> omega, by omega, by omega⟩)
    · have h3 : ¬ ((d : Int) + 1 < 2) := by omega
      simp -implicitDefEqProofs (disch := first | omega | (simp only [List.length_set, List.length_replicate, List.length_append, List.length_map, List.length_take, List.length_cons, List.length_nil]; omega)) [wrap64, h3]
      refine (c_pick R H (by omega) (by omega) ⟨by decide, by decide⟩).go ?_
      rintro _ h1 ⟨r0, rfl, o0, z0, y0, H⟩
      by_cases c0 : r0 = 0
      · simp -implicitDefEqProofs (disch := first | omega | (simp only [List.length_set, List.length_replicate, List.length_append, List.length_map, List.length_take, List.length_cons, List.length_nil]; omega)) [wrap64, c0]
        refine (c_pick R H (by omega) (by omega) ⟨by decide, by decide⟩).go ?_
        rintro _ hL1 ⟨r1, rfl, o1, z1, y1, H⟩
        by_cases c1 : r1 = 0
        · simp -implicitDefEqProofs (disch := first | omega | (simp only [List.length_set, List.length_replicate, List.length_append, List.length_map, List.length_take, List.length_cons, List.length_nil]; omega)) [wrap64, c1]
          refine (c_pick R H (by omega) (by omega) ⟨by decide, by decide⟩).go ?_
          rintro _ hL2 ⟨r2, rfl, o2, z2, y2, H⟩
          simp -implicitDefEqProofs (disch := first | omega | (simp only [List.length_set, List.length_replicate, List.length_append, List.length_map, List.length_take, List.length_cons, List.length_nil]; omega)) [wrap64, setC]
          exact RetK.keep (hk _ _ ⟨Exq.mk 1 r2 [], _, HS.mkExq' H.nil_ow ⟨by decide, by decide⟩ o2, by simp [Exq.nod, Exq.nods] <;> omega, by omega, by omega⟩)
        · simp -implicitDefEqProofs (disch := first | omega | (simp only [List.length_set, List.length_replicate, List.length_append, List.length_map, List.length_take, List.length_cons, List.length_nil]; omega)) [wrap64, c1]
          refine H.bls [(0 : Int), 1, 0, 2] rfl rfl (okL (by decide)) (by decide) fun v hL2 H => ?_
          simp -implicitDefEqProofs (disch := first | omega | (simp only [List.length_set, List.length_replicate, List.length_append, List.length_map, List.length_take, List.length_cons, List.length_nil]; omega)) [wrap64]
          refine (c_num R H (by omega) (by omega) (by simp)).go ?_
          rintro _ hL3 ⟨r2, rfl, o2, _, H⟩
          simp -implicitDefEqProofs (disch := first | omega | (simp only [List.length_set, List.length_replicate, List.length_append, List.length_map, List.length_take, List.length_cons, List.length_nil]; omega)) [wrap64, setC]
          exact RetK.keep (hk _ _ ⟨Exq.mk 2 r2 [], _, HS.mkExq' H.nil_ow ⟨by decide, by decide⟩ o2, by simp [Exq.nod, Exq.nods] <;> omega, by omega, by omega⟩)
      · simp -implicitDefEqProofs (disch := first | omega | (simp only [List.length_set, List.length_replicate, List.length_append, List.length_map, List.length_take, List.length_cons, List.length_nil]; omega)) [wrap64, c0]
        refine H.bls [(6 : Int), 8, 7, 4, 3, 5, 9] rfl rfl (okL (by decide)) (by decide) fun v h2 H => ?_
        simp -implicitDefEqProofs (disch := first | omega | (simp only [List.length_set, List.length_replicate, List.length_append, List.length_map, List.length_take, List.length_cons, List.length_nil]; omega)) [wrap64]
        refine (c_num R H (by omega) (by omega) (by simp)).go ?_
        rintro _ h4 ⟨kd, rfl, okd, _, H⟩
        have ha := Exq.arity_le (k := kd)
        have ha2 := Exq.arity_ge (k := kd)
        simp -implicitDefEqProofs (disch := first | omega | (simp only [List.length_set, List.length_replicate, List.length_append, List.length_map, List.length_take, List.length_cons, List.length_nil]; omega)) [wrap64, setC]
        refine c_l1Arity.go ?_
        rintro _ h4 ⟨rfl, rfl⟩
        obtain ⟨ar, har⟩ : ∃ ar, ar = Exq.arity kd := ⟨_, rfl⟩
        rw [← har] at ha ha2
        simp -implicitDefEqProofs (disch := first | omega | (simp only [List.length_set, List.length_replicate, List.length_append, List.length_map, List.length_take, List.length_cons, List.length_nil]; omega)) [wrap64, ← har]
        refine wp_while (σ := Nat) (fun j e h' => ∃ (ks : List Exq) (w : Value) (p' : Int), e = [some (.pointer (some ⟨b, 0, none⟩)), some (.int .i64 ((d : Int) + 1)), some (.agg #[.int .i64 0, .int .i64 0, .slice none 0 0]), none, some (.agg #[.int .i64 kd, .int .i64 0, w]), some (.int .i64 (ar - j))] ∧ HS g (ow w ks :: rb b sl p' :: Γ) h' ∧ ks.length = j ∧ Exq.nods ks ≤ j * (2 * q - 1) ∧ j ≤ 2 ∧ p ≤ p' ∧ p' ≤ p + 2 + j * (4 * q - 2)) (fun j => 3 - j) 0 ⟨[], .slice none 0 0, _, by simp, H.nil_ow, rfl, by simp [Exq.nods], by omega, by omega, by omega⟩ ?_
        clear H
        rintro J j _ h5 hJ ⟨ks, w, p', rfl, H, hkl, hkn, hj, hp3, hp4⟩
        by_cases c2 : (j : Int) < ar
        · have hj2 : j = 0 ∨ j = 1 := by omega
          simp -implicitDefEqProofs (disch := first | omega | (simp only [List.length_set, List.length_replicate, List.length_append, List.length_map, List.length_take, List.length_cons, List.length_nil]; omega)) [wrap64, c2]
          refine (ih (by omega) R H.sw1 (by omega) (by rcases hj2 with rfl | rfl <;> omega)).go ?_
          rintro _ h6 ⟨y, p2, H, hy, hp5, hp6⟩
          obtain ⟨wy, rfl, k1, k2, H'⟩ := H.unExq
          have hO' := H'.rep.one
          have hC' := H'.rep.cells
          simp -implicitDefEqProofs (disch := first | omega | (simp only [List.length_set, List.length_replicate, List.length_append, List.length_map, List.length_take, List.length_cons, List.length_nil]; omega)) [wrap64, setC, hO', hC']
          refine HS.appO (bytes := 40) H.sw2.sw1 rfl rfl rfl rfl rfl (by omega) (by omega) fun w' h7 H => ?_
          have hO := H.rep.one
          have hC := H.rep.cells
          simp -implicitDefEqProofs (disch := first | omega | (simp only [List.length_set, List.length_replicate, List.length_append, List.length_map, List.length_take, List.length_cons, List.length_nil]; omega)) [wrap64, setC, hO, hC]
          refine hJ (j + 1) _ _ (by omega) ⟨ks ++ [y], w', p2, by simp; omega, H, by simp [hkl], ?_, by omega, by omega, ?_⟩
          · rw [Exq.nods_append, show Exq.nods [y] = y.nod by simp [Exq.nods]]
            rcases hj2 with rfl | rfl <;> omega
          · rcases hj2 with rfl | rfl <;> omega
        · have hO := H.rep.one
          have hC := H.rep.cells
          simp -implicitDefEqProofs (disch := first | omega | (simp only [List.length_set, List.length_replicate, List.length_append, List.length_map, List.length_take, List.length_cons, List.length_nil]; omega)) [wrap64, c2, setC, hO, hC]
          refine RetK.keep (hk _ _ ⟨Exq.mk kd 0 ks, p', HS.mkExq' H okd ⟨by decide, by decide⟩, ?_, by omega, ?_⟩)
          · rw [Exq.nod_eq, Exq.kids_mk]
            obtain rfl | rfl | rfl : j = 0 ∨ j = 1 ∨ j = 2 := by omega
            all_goals omega
          · obtain rfl | rfl | rfl : j = 0 ∨ j = 1 ∨ j = 2 := by omega
            all_goals omega
end Go.Proofs.Ytmpgkijhhocfcaa

/-
  Slices that are written out, with elements that are owned; a step in between.
-/
namespace Go.Proofs.Ytmpgkijhhocfcaa
open Go
set_option linter.all false
set_option linter.unusedVariables false
set_option linter.unusedSimpArgs false
set_option linter.defProp false
set_option maxRecDepth 1000000

/-- a slice that is written out, with one element that is owned -/
theorem HS.blsO1 {α : Type} [Ty α] {P : Program} {k : Env → Heap → Prop} {e : Env} {g h : Heap} {Γ : List HP} {u : Value} {y : α} (H : HS g (ow u y :: Γ) h) {esz : Nat} {zero : List Value} {parts : List (Nat × Nat × O)} {dst : Nat} (hf : fillP e (reps 1 zero) parts = some u.cells.toList)
    (K : ∀ v' h', HS g (ow v' [y] :: Γ) h' → k (eset e dst (some v')) h') : (A.ex (some dst) (.bls esz 1 zero parts)).wp P k e h := by
  obtain ⟨g1, ru, rfl, d2, ⟨cs, rfl, ho⟩, H⟩ := H
  have h1 := Ty.len (Ty.own_rep ho)
  rw [rep_cells (Ty.own_rep ho)] at hf
  refine ⟨_, hf, fun b el hb => Fgt.keep ?_⟩
  rw [set_new hb]
  have n1 : g1 b = none ∧ ru b = none := by simpa [Heap.add] using hb
  rw [add_assoc]
  refine K _ _ ⟨g1, _, rfl, Dj_add.2 ⟨d2, Dj_one.2 n1.1⟩, ?_, H⟩
  rw [(Dj_one.2 n1.2).comm]
  refine Own_list.2 (.inr ⟨b, 0, 1, cs, el, ru, rfl, ⟨Nat.le_refl _, by simp⟩, by simp [h1], rfl, n1.2, ?_⟩)
  exact ⟨ru, Heap.nil, by simp, by simp, by simpa [← h1] using ho, rfl⟩

theorem HS.blsO2 {α : Type} [Ty α] {P : Program} {k : Env → Heap → Prop} {e : Env} {g h : Heap} {Γ : List HP} {u u2 : Value} {y y2 : α} (H : HS g (ow u y :: ow u2 y2 :: Γ) h) {esz : Nat} {zero : List Value} {parts : List (Nat × Nat × O)} {dst : Nat} (hf : fillP e (reps 2 zero) parts = some (u.cells.toList ++ u2.cells.toList))
    (K : ∀ v' h', HS g (ow v' [y, y2] :: Γ) h' → k (eset e dst (some v')) h') : (A.ex (some dst) (.bls esz 2 zero parts)).wp P k e h := by
  obtain ⟨g0, ru, rfl, d2, ⟨cs, rfl, ho⟩, g1, ru2, rfl, d3, ⟨cs2, rfl, ho2⟩, H⟩ := H
  have h1 := Ty.len (Ty.own_rep ho)
  have h2 := Ty.len (Ty.own_rep ho2)
  rw [rep_cells (Ty.own_rep ho), rep_cells (Ty.own_rep ho2)] at hf
  obtain ⟨d4, d5⟩ := add_Dj.1 d2
  refine ⟨_, hf, fun b el hb => Fgt.keep ?_⟩
  rw [set_new hb]
  have n1 : (g1 b = none ∧ ru2 b = none) ∧ ru b = none := by simpa [Heap.add] using hb
  rw [add_assoc, add_assoc]
  refine K _ _ ⟨g1, _, rfl, Dj_add.2 ⟨d3, Dj_add.2 ⟨d4, Dj_one.2 n1.1.1⟩⟩, ?_, H⟩
  rw [← add_assoc, (Dj_one.2 (show (ru2.add ru) b = none by simp [Heap.add, n1])).comm]
  refine Own_list.2 (.inr ⟨b, 0, 2, cs ++ cs2, el, ru2.add ru, rfl, ⟨Nat.le_refl _, by simp⟩, by simp [h1, h2]; omega, rfl, by simp [Heap.add, n1], ?_⟩)
  rw [d5.comm]
  refine ⟨ru, ru2, rfl, d5.symm, by simpa [← h1] using ho, ru2, Heap.nil, by simp, by simp, ?_, rfl⟩
  have e1 : List.drop (Ty.sz α) (cs ++ cs2) = cs2 := by rw [← h1, List.drop_left]
  simp only [List.drop_zero]
  rw [e1, List.take_of_length_le (by omega)]
  exact ho2

/-- a step in between, within a region -/
theorem pl_cut {P : Program} {k : Env → Heap → Prop} {p : Pl} {e : Env} {h : Heap} (M : Env → Heap → Prop) (ha : ∀ J : Env → Heap → Prop, (∀ e h, M e h → J e h) → p.wp P J e h) (hb : ∀ e h, M e h → k e h) : p.wp P k e h := ha k hb

end Go.Proofs.Ytmpgkijhhocfcaa

/-
  Arguments of laws: valid expressions, copies, guards that are drawn.
-/
namespace Go.Proofs.Ytmpgkijhhocfcaa
open Go
set_option linter.all false
set_option linter.unusedVariables false
set_option linter.unusedSimpArgs false
set_option linter.defProp false
set_option maxRecDepth 1000000

theorem Exq.len_nods : ∀ {l : List Exq}, l.length ≤ Exq.nods l
  | [] => by simp
  | x :: l => by
    have := Exq.len_nods (l := l)
    have := x.nod_pos
    simp only [List.length_cons, Exq.nods]; omega
theorem HS.mkE0 {g h : Heap} {Γ : List HP} {kd vl : Int} (H : HS g Γ h) (h1 : I64 kd) (h2 : I64 vl) : HS g (ow (.agg #[.int .i64 kd, .int .i64 vl, .slice none 0 0]) (Exq.mk kd vl []) :: Γ) h := HS.mkExq' H.nil_ow h1 h2
theorem Exq.nod_mk0 {k v : Int} : (Exq.mk k v []).nod = 1 := rfl

theorem c_l1Expr {g h : Heap} {Γ : List HP} {b : Nat} {sl : Value} {l : List (BitVec 8)} {p : Int} (R : Rep g sl l) (H : HS g (rb b sl p :: Γ) h) (hp : 0 ≤ p) (hp2 : p + 100 ≤ 1000000000000) :
    CallE Try.prog fn_spec_l1Expr [.pointer (some ⟨b, 0, none⟩)] h (fun u h' => ∃ (y : Exq) (p' : Int), HS g (ow u y :: rb b sl p' :: Γ) h' ∧ y.nod ≤ 31 ∧ p ≤ p' ∧ p' ≤ p + 70) := by
  refine CallE.gen fun k hk => EN_spec_l1Expr rfl ?_
  simp -implicitDefEqProofs (disch := first | omega | (simp only [List.length_set, List.length_replicate, List.length_append, List.length_map, List.length_take, List.length_cons, List.length_nil]; omega)) [wrap64]
  refine H.bls [(3 : Int), 2, 3, 4] rfl rfl (okL (by decide)) (by decide) fun v h1 H => ?_
  simp -implicitDefEqProofs (disch := first | omega | (simp only [List.length_set, List.length_replicate, List.length_append, List.length_map, List.length_take, List.length_cons, List.length_nil]; omega)) [wrap64]
  refine (c_num R H (by omega) (by omega) (by simp)).go ?_
  rintro _ h2 ⟨r, rfl, _, hr, H⟩
  obtain ⟨d, rfl, hd, hpw⟩ : ∃ d : Nat, r = d ∧ d ≤ 4 ∧ 2 ^ d ≤ 16 := by
    simp at hr
    rcases hr with rfl | rfl | rfl | rfl
    · exact ⟨3, rfl, by decide, by decide⟩
    · exact ⟨2, rfl, by decide, by decide⟩
    · exact ⟨3, rfl, by decide, by decide⟩
    · exact ⟨4, rfl, by decide, by decide⟩
  simp -implicitDefEqProofs (disch := first | omega | (simp only [List.length_set, List.length_replicate, List.length_append, List.length_map, List.length_take, List.length_cons, List.length_nil]; omega)) [wrap64]
  refine (c_l1Random d hd R H (by omega) (by omega)).go ?_
  rintro _ h3 ⟨y, p1, H, hy, hp3, hp4⟩
  have hy2 : y.nod ≤ 31 := by rw [Nat.pow_succ] at hy; omega
  have FA := H.rep.aExq
  simp -implicitDefEqProofs (disch := first | omega | (simp only [List.length_set, List.length_replicate, List.length_append, List.length_map, List.length_take, List.length_cons, List.length_nil]; omega)) [wrap64, FA]
  refine (c_spec_ExprValid H.rep).go ?_
  rintro _ h3 ⟨rfl, rfl⟩
  by_cases q : y.Ok
  · simp -implicitDefEqProofs (disch := first | omega | (simp only [List.length_set, List.length_replicate, List.length_append, List.length_map, List.length_take, List.length_cons, List.length_nil]; omega)) [wrap64, q, FA, setC]
    exact RetK.keep (hk _ _ ⟨y, p1, H, hy2, by omega, by omega⟩)
  · simp -implicitDefEqProofs (disch := first | omega | (simp only [List.length_set, List.length_replicate, List.length_append, List.length_map, List.length_take, List.length_cons, List.length_nil]; omega)) [wrap64, q]
    refine (c_pick (n := 3) R H.sw1 (by omega) (by omega) ⟨by decide, by decide⟩).go ?_
    rintro _ h4 ⟨r1, rfl, o1, z1, y1, H⟩
    simp -implicitDefEqProofs (disch := first | omega | (simp only [List.length_set, List.length_replicate, List.length_append, List.length_map, List.length_take, List.length_cons, List.length_nil]; omega)) [wrap64, setC]
    exact RetK.keep (hk _ _ ⟨Exq.mk 2 r1 [], _, (H.sw1.drop).mkE0 ⟨by decide, by decide⟩ o1, by rw [Exq.nod_mk0]; omega, by omega, by omega⟩)

/-- expressions without parts -/
def ez : Value := .agg #[.int .i64 0, .int .i64 0, .slice none 0 0]
theorem c_l1SubstB0 {h : Heap} : CallE Try.prog fn_spec_l1Subst [ez, .int .i64 (-1), ez] h (fun u h' => HS h [ow u Exq.zero] h') := by
  refine CallE.gen fun k hk => EN_spec_l1Subst rfl ?_
  simp -implicitDefEqProofs (disch := first | omega | (simp only [List.length_set, List.length_replicate, List.length_append, List.length_map, List.length_take, List.length_cons, List.length_nil]; omega)) [wrap64, ez, setC]
  refine wp_count 0 (fun i e h' => e = [none, some (.int .i64 (-1)), none, some ez, some ez, some ez, some ez, some (.int .i64 i)] ∧ h' = h) ⟨by simp [ez], rfl⟩ ?_
  rintro J i _ h1 hJ hi ⟨rfl, rfl⟩
  obtain rfl : i = 0 := by omega
  have hL0 : lenVV (.slice none 0 0) = some (.int .i64 0) := rfl
  simp -implicitDefEqProofs (disch := first | omega | (simp only [List.length_set, List.length_replicate, List.length_append, List.length_map, List.length_take, List.length_cons, List.length_nil]; omega)) [wrap64, ez, setC, hL0]
  exact RetK.keep (hk _ _ (HS.mkE0 HS.init ⟨by decide, by decide⟩ ⟨by decide, by decide⟩))
theorem c_l1SubstB : ∀ (x : Exq) {h : Heap} {v : Value}, Rep h v x → x.nod ≤ 1000 → CallE Try.prog fn_spec_l1Subst [v, .int .i64 (-1), ez] h (fun u h' => ∃ y : Exq, HS h [ow u y] h' ∧ y.nod ≤ x.nod) := by
  refine Exq.ind fun x ih => ?_
  intro h v R hn
  have hne := Exq.nod_eq x
  obtain ⟨w, rfl, k1, k2, Rw⟩ := Rep_Exq.1 R
  have hR1 := Rw.one
  have hkl : x.kids.length ≤ Exq.nods x.kids := Exq.len_nods
  refine CallE.gen fun k hk => EN_spec_l1Subst rfl ?_
  by_cases c1 : x.kind = 2 ∧ x.val = -1
  · simp -implicitDefEqProofs (disch := first | omega | (simp only [List.length_set, List.length_replicate, List.length_append, List.length_map, List.length_take, List.length_cons, List.length_nil]; omega)) [wrap64, ez, setC, hR1, c1]
    refine c_l1SubstB0.go ?_
    intro u h1 H
    have hA := H.rep.aExq
    simp -implicitDefEqProofs (disch := first | omega | (simp only [List.length_set, List.length_replicate, List.length_append, List.length_map, List.length_take, List.length_cons, List.length_nil]; omega)) [wrap64, setC, hA]
    exact RetK.keep (hk _ _ ⟨_, H, by rw [show Exq.zero.nod = 1 from rfl]; omega⟩)
  · have c1' : x.kind = 2 → ¬ x.val = -1 := fun e e2 => c1 ⟨e, e2⟩
    by_cases c2 : x.kind = 2
    · have c3 := c1' c2
      simp -implicitDefEqProofs (disch := first | omega | (simp only [List.length_set, List.length_replicate, List.length_append, List.length_map, List.length_take, List.length_cons, List.length_nil]; omega)) [wrap64, ez, setC, hR1, c2, c3]
      refine wp_count x.kids.length (fun i e h' => ∃ (ks : List Exq) (w' : Value), e = [none, some (.int .i64 (-1)), none, some (.agg #[.int .i64 2, .int .i64 x.val, w]), some ez, some ez, some (.agg #[.int .i64 2, .int .i64 x.val, w']), some (.int .i64 i)] ∧ HS h [ow w' ks] h' ∧ ks.length = i ∧ Exq.nods ks ≤ Exq.nods (x.kids.take i)) ⟨[], .slice none 0 0, by simp [ez], HS.init.nil_ow, rfl, by simp [Exq.nods]⟩ ?_
      rintro J i _ h1 hJ hi ⟨ks, w', rfl, H, hkl2, hkn⟩
      have hO := H.rep.one
      have hC := H.rep.cells
      simp -implicitDefEqProofs (disch := first | omega | (simp only [List.length_set, List.length_replicate, List.length_append, List.length_map, List.length_take, List.length_cons, List.length_nil]; omega)) [wrap64, Rw.len]
      refine IteW.mk (fun hlt => ?_) (fun hge => ?_)
      · have hlx : i < x.kids.length := by omega
        obtain ⟨u, hu, Ru⟩ := (Rw.on H).ld hlx
        change hload _ (some (elp 3 w i)) (some 3) = some u at hu
        have hnt := Exq.nods_take hlx
        have hnl := Exq.nods_le x.kids (i + 1)
        simp -implicitDefEqProofs (disch := first | omega | (simp only [List.length_set, List.length_replicate, List.length_append, List.length_map, List.length_take, List.length_cons, List.length_nil]; omega)) [wrap64, ez, setC, (Rw.on H).X (n := 3) rfl, hu, Ru.aExq]
        refine (ih _ (List.getElem_mem hlx) Ru (by omega)).go ?_
        rintro o h2 ⟨y, G, hy⟩
        obtain ⟨wy, rfl, ky1, ky2, G'⟩ := G.unExq
        have hO' := G'.rep.one
        have hC' := G'.rep.cells
        have H := G.app H
        simp -implicitDefEqProofs (disch := first | omega | (simp only [List.length_set, List.length_replicate, List.length_append, List.length_map, List.length_take, List.length_cons, List.length_nil]; omega)) [wrap64, ez, setC, hO', hC']
        refine HS.appO (bytes := 40) H rfl rfl rfl rfl rfl (by omega) (by omega) fun w2 h3 H => ?_
        have hO2 := H.rep.one
        have hC2 := H.rep.cells
        simp -implicitDefEqProofs (disch := first | omega | (simp only [List.length_set, List.length_replicate, List.length_append, List.length_map, List.length_take, List.length_cons, List.length_nil]; omega)) [wrap64, ez, setC, hO2, hC2]
        refine hJ _ _ hlx ⟨ks ++ [y], w2, by simp [ez], H, by simp [hkl2], ?_⟩
        rw [Exq.nods_append, show Exq.nods [y] = y.nod by simp [Exq.nods]]
        omega
      · simp -implicitDefEqProofs (disch := first | omega | (simp only [List.length_set, List.length_replicate, List.length_append, List.length_map, List.length_take, List.length_cons, List.length_nil]; omega)) [wrap64, ez, setC, hO, hC]
        rw [List.take_of_length_le (by omega)] at hkn
        refine RetK.keep (hk _ _ ⟨Exq.mk 2 x.val ks, HS.mkExq' H ⟨by decide, by decide⟩ k2, ?_⟩)
        rw [Exq.nod_eq, Exq.kids_mk]; omega
    · simp -implicitDefEqProofs (disch := first | omega | (simp only [List.length_set, List.length_replicate, List.length_append, List.length_map, List.length_take, List.length_cons, List.length_nil]; omega)) [wrap64, ez, setC, hR1, c2]
      refine wp_count x.kids.length (fun i e h' => ∃ (ks : List Exq) (w' : Value), e = [none, some (.int .i64 (-1)), none, some (.agg #[.int .i64 x.kind, .int .i64 x.val, w]), some ez, some ez, some (.agg #[.int .i64 x.kind, .int .i64 x.val, w']), some (.int .i64 i)] ∧ HS h [ow w' ks] h' ∧ ks.length = i ∧ Exq.nods ks ≤ Exq.nods (x.kids.take i)) ⟨[], .slice none 0 0, by simp [ez], HS.init.nil_ow, rfl, by simp [Exq.nods]⟩ ?_
      rintro J i _ h1 hJ hi ⟨ks, w', rfl, H, hkl2, hkn⟩
      have hO := H.rep.one
      have hC := H.rep.cells
      simp -implicitDefEqProofs (disch := first | omega | (simp only [List.length_set, List.length_replicate, List.length_append, List.length_map, List.length_take, List.length_cons, List.length_nil]; omega)) [wrap64, Rw.len]
      refine IteW.mk (fun hlt => ?_) (fun hge => ?_)
      · have hlx : i < x.kids.length := by omega
        obtain ⟨u, hu, Ru⟩ := (Rw.on H).ld hlx
        change hload _ (some (elp 3 w i)) (some 3) = some u at hu
        have hnt := Exq.nods_take hlx
        have hnl := Exq.nods_le x.kids (i + 1)
        simp -implicitDefEqProofs (disch := first | omega | (simp only [List.length_set, List.length_replicate, List.length_append, List.length_map, List.length_take, List.length_cons, List.length_nil]; omega)) [wrap64, ez, setC, (Rw.on H).X (n := 3) rfl, hu, Ru.aExq]
        refine (ih _ (List.getElem_mem hlx) Ru (by omega)).go ?_
        rintro o h2 ⟨y, G, hy⟩
        obtain ⟨wy, rfl, ky1, ky2, G'⟩ := G.unExq
        have hO' := G'.rep.one
        have hC' := G'.rep.cells
        have H := G.app H
        simp -implicitDefEqProofs (disch := first | omega | (simp only [List.length_set, List.length_replicate, List.length_append, List.length_map, List.length_take, List.length_cons, List.length_nil]; omega)) [wrap64, ez, setC, hO', hC']
        refine HS.appO (bytes := 40) H rfl rfl rfl rfl rfl (by omega) (by omega) fun w2 h3 H => ?_
        have hO2 := H.rep.one
        have hC2 := H.rep.cells
        simp -implicitDefEqProofs (disch := first | omega | (simp only [List.length_set, List.length_replicate, List.length_append, List.length_map, List.length_take, List.length_cons, List.length_nil]; omega)) [wrap64, ez, setC, hO2, hC2]
        refine hJ _ _ hlx ⟨ks ++ [y], w2, by simp [ez], H, by simp [hkl2], ?_⟩
        rw [Exq.nods_append, show Exq.nods [y] = y.nod by simp [Exq.nods]]
        omega
      · simp -implicitDefEqProofs (disch := first | omega | (simp only [List.length_set, List.length_replicate, List.length_append, List.length_map, List.length_take, List.length_cons, List.length_nil]; omega)) [wrap64, ez, setC, hO, hC]
        rw [List.take_of_length_le (by omega)] at hkn
        refine RetK.keep (hk _ _ ⟨Exq.mk x.kind x.val ks, HS.mkExq' H k1 k2, ?_⟩)
        rw [Exq.nod_eq, Exq.kids_mk]; omega
end Go.Proofs.Ytmpgkijhhocfcaa

/-
  Arguments of laws: changed expressions, guards that are drawn.
-/
namespace Go.Proofs.Ytmpgkijhhocfcaa
open Go
set_option linter.all false
set_option linter.unusedVariables false
set_option linter.unusedSimpArgs false
set_option linter.defProp false
set_option maxRecDepth 1000000

theorem c_l1Mutate {g h : Heap} {Γ : List HP} {b : Nat} {sl v : Value} {l : List (BitVec 8)} {p : Int} {x : Exq} (R : Rep g sl l) (Rx : Rep g v x) (hx : x.nod ≤ 1000) (H : HS g (rb b sl p :: Γ) h) (hp : 0 ≤ p) (hp2 : p + 100 ≤ 1000000000000) :
    CallE Try.prog fn_spec_l1Mutate [.pointer (some ⟨b, 0, none⟩), v] h (fun u h' => ∃ (y : Exq) (p' : Int), HS g (ow u y :: rb b sl p' :: Γ) h' ∧ y.nod ≤ x.nod + 1 ∧ p ≤ p' ∧ p' ≤ p + 2) := by
  have FX := Rx.aExq
  have hnp := x.nod_pos
  refine CallE.gen fun k hk => EN_spec_l1Mutate rfl ?_
  simp -implicitDefEqProofs (disch := first | omega | (simp only [List.length_set, List.length_replicate, List.length_append, List.length_map, List.length_take, List.length_cons, List.length_nil]; omega)) [wrap64, FX]
  refine (c_l1SubstB x (Rx.on H) hx).go ?_
  rintro o h1 ⟨y, G, hy⟩
  obtain ⟨w, rfl, k1, k2, G'⟩ := G.unExq
  have hO := G'.rep.one
  have hC := G'.rep.cells
  have H := G'.app H
  have hyn := Exq.nod_eq y
  have hyl := Exq.len_nods (l := y.kids)
  simp -implicitDefEqProofs (disch := first | omega | (simp only [List.length_set, List.length_replicate, List.length_append, List.length_map, List.length_take, List.length_cons, List.length_nil]; omega)) [wrap64, setC, hO, hC]
  refine (c_pick (n := 40) R H.sw1 (by omega) (by omega) ⟨by decide, by decide⟩).go ?_
  rintro _ h2 ⟨r, rfl, o1, z1, y1, H⟩
  by_cases c0 : r = 0
  · simp -implicitDefEqProofs (disch := first | omega | (simp only [List.length_set, List.length_replicate, List.length_append, List.length_map, List.length_take, List.length_cons, List.length_nil]; omega)) [wrap64, c0]
    refine H.bls [(0 : Int), 10, -1, 1, 2, 3, 4] rfl rfl (okL (by decide)) (by decide) fun q h3 H => ?_
    simp -implicitDefEqProofs (disch := first | omega | (simp only [List.length_set, List.length_replicate, List.length_append, List.length_map, List.length_take, List.length_cons, List.length_nil]; omega)) [wrap64]
    refine (c_num R H (by omega) (by omega) (by simp)).go ?_
    rintro _ h4 ⟨r2, rfl, o2, _, H⟩
    simp -implicitDefEqProofs (disch := first | omega | (simp only [List.length_set, List.length_replicate, List.length_append, List.length_map, List.length_take, List.length_cons, List.length_nil]; omega)) [wrap64, setC, hO, hC]
    exact RetK.keep (hk _ _ ⟨Exq.mk r2 y.val y.kids, _, HS.mkExq' H.sw1 o2 k2, by rw [Exq.nod_eq, Exq.kids_mk]; omega, by omega, by omega⟩)
  by_cases c1 : r = 1
  · simp -implicitDefEqProofs (disch := first | omega | (simp only [List.length_set, List.length_replicate, List.length_append, List.length_map, List.length_take, List.length_cons, List.length_nil]; omega)) [wrap64, c0, c1]
    refine H.bls [(-1 : Int), 4, 3, 9223372036854775807] rfl rfl (okL (by decide)) (by decide) fun q h3 H => ?_
    simp -implicitDefEqProofs (disch := first | omega | (simp only [List.length_set, List.length_replicate, List.length_append, List.length_map, List.length_take, List.length_cons, List.length_nil]; omega)) [wrap64]
    refine (c_num R H (by omega) (by omega) (by simp)).go ?_
    rintro _ h4 ⟨r2, rfl, o2, _, H⟩
    simp -implicitDefEqProofs (disch := first | omega | (simp only [List.length_set, List.length_replicate, List.length_append, List.length_map, List.length_take, List.length_cons, List.length_nil]; omega)) [wrap64, setC, hO, hC]
    exact RetK.keep (hk _ _ ⟨Exq.mk y.kind r2 y.kids, _, HS.mkExq' H.sw1 k1 o2, by rw [Exq.nod_eq, Exq.kids_mk]; omega, by omega, by omega⟩)
  by_cases c2 : r = 2
  · simp -implicitDefEqProofs (disch := first | omega | (simp only [List.length_set, List.length_replicate, List.length_append, List.length_map, List.length_take, List.length_cons, List.length_nil]; omega)) [wrap64, c0, c1, c2, setC]
    refine HS.appO (bytes := 40) (H.sw1.mkE0 (kd := 1) (vl := 0) ⟨by decide, by decide⟩ ⟨by decide, by decide⟩) rfl rfl rfl rfl rfl (by omega) (by omega) fun w2 h3 H => ?_
    have hO2 := H.rep.one
    have hC2 := H.rep.cells
    simp -implicitDefEqProofs (disch := first | omega | (simp only [List.length_set, List.length_replicate, List.length_append, List.length_map, List.length_take, List.length_cons, List.length_nil]; omega)) [wrap64, setC, hO2, hC2]
    refine RetK.keep (hk _ _ ⟨Exq.mk y.kind y.val _, _, HS.mkExq' H k1 k2, ?_, by omega, by omega⟩)
    rw [Exq.nod_eq, Exq.kids_mk, Exq.nods_append, show Exq.nods [Exq.mk 1 0 []] = 1 from rfl]; omega
  by_cases c3 : r = 3
  · simp -implicitDefEqProofs (disch := first | omega | (simp only [List.length_set, List.length_replicate, List.length_append, List.length_map, List.length_take, List.length_cons, List.length_nil]; omega)) [wrap64, c0, c1, c2, c3, setC]
    exact RetK.keep (hk _ _ ⟨Exq.mk 0 0 [], _, (H.sw1.drop).mkE0 ⟨by decide, by decide⟩ ⟨by decide, by decide⟩, by rw [Exq.nod_mk0]; omega, by omega, by omega⟩)
  · simp -implicitDefEqProofs (disch := first | omega | (simp only [List.length_set, List.length_replicate, List.length_append, List.length_map, List.length_take, List.length_cons, List.length_nil]; omega)) [wrap64, c0, c1, c2, c3, setC, hO, hC]
    exact RetK.keep (hk _ _ ⟨y, _, HS.mkExq H.sw1 k1 k2, by omega, by omega, by omega⟩)

theorem c_l2Guard {g h : Heap} {Γ : List HP} {b : Nat} {sl : Value} {l : List (BitVec 8)} {p : Int} (R : Rep g sl l) (H : HS g (rb b sl p :: Γ) h) (hp : 0 ≤ p) (hp2 : p + 100 ≤ 1000000000000) :
    CallE Try.prog fn_spec_l2Guard [.pointer (some ⟨b, 0, none⟩)] h (fun u h' => ∃ (y : Exq) (p' : Int), HS g (ow u y :: rb b sl p' :: Γ) h' ∧ y.nod ≤ 4 ∧ p ≤ p' ∧ p' ≤ p + 5) := by
  refine CallE.gen fun k hk => EN_spec_l2Guard rfl ?_
  simp -implicitDefEqProofs (disch := first | omega | (simp only [List.length_set, List.length_replicate, List.length_append, List.length_map, List.length_take, List.length_cons, List.length_nil]; omega)) [wrap64]
  refine (c_pick (n := 3) R H (by omega) (by omega) ⟨by decide, by decide⟩).go ?_
  rintro _ h1 ⟨r1, rfl, o1, z1, y1, H⟩
  by_cases c1 : r1 = 0
  · simp -implicitDefEqProofs (disch := first | omega | (simp only [List.length_set, List.length_replicate, List.length_append, List.length_map, List.length_take, List.length_cons, List.length_nil]; omega)) [wrap64, c1, setC]
    exact RetK.keep (hk _ _ ⟨Exq.mk 1 1 [], _, H.mkE0 ⟨by decide, by decide⟩ ⟨by decide, by decide⟩, by rw [Exq.nod_mk0]; omega, by omega, by omega⟩)
  simp -implicitDefEqProofs (disch := first | omega | (simp only [List.length_set, List.length_replicate, List.length_append, List.length_map, List.length_take, List.length_cons, List.length_nil]; omega)) [wrap64, c1]
  refine H.bls [(0 : Int), 1, 0, 2] rfl rfl (okL (by decide)) (by decide) fun q h3 H => ?_
  simp -implicitDefEqProofs (disch := first | omega | (simp only [List.length_set, List.length_replicate, List.length_append, List.length_map, List.length_take, List.length_cons, List.length_nil]; omega)) [wrap64]
  refine (c_num R H (by omega) (by omega) (by simp)).go ?_
  rintro _ h4 ⟨r2, rfl, o2, _, H⟩
  simp -implicitDefEqProofs (disch := first | omega | (simp only [List.length_set, List.length_replicate, List.length_append, List.length_map, List.length_take, List.length_cons, List.length_nil]; omega)) [wrap64, setC]
  refine (c_pick (n := 3) R H (by omega) (by omega) ⟨by decide, by decide⟩).go ?_
  rintro _ h1 ⟨r3, rfl, o3, z3, y3, H⟩
  simp -implicitDefEqProofs (disch := first | omega | (simp only [List.length_set, List.length_replicate, List.length_append, List.length_map, List.length_take, List.length_cons, List.length_nil]; omega)) [wrap64, setC]
  refine pl_cut (fun e' h' => ∃ kd w r, e' = some (.pointer (some ⟨b, 0, none⟩)) :: some ez :: some (.agg #[.int .i64 2, .int .i64 r2, .slice none 0 0]) :: some (.agg #[.int .i64 1, .int .i64 r3, .slice none 0 0]) :: some (.agg #[.int .i64 kd, .int .i64 0, w]) :: r ∧ I64 kd ∧ HS g (ow w [Exq.mk 2 r2 [], Exq.mk 1 r3 []] :: rb b sl (p + 1 + 1 + 1 + 1) :: Γ) h') (fun K hK => ?_) ?_
  · refine ⟨?_, ?_⟩
    · simp -implicitDefEqProofs (disch := first | omega | (simp only [List.length_set, List.length_replicate, List.length_append, List.length_map, List.length_take, List.length_cons, List.length_nil]; omega)) [wrap64]
      refine H.bls [(6 : Int), 7, 6] rfl rfl (okL (by decide)) (by decide) fun q h6 H => ?_
      refine ⟨?_, ?_⟩
      · simp -implicitDefEqProofs (disch := first | omega | (simp only [List.length_set, List.length_replicate, List.length_append, List.length_map, List.length_take, List.length_cons, List.length_nil]; omega)) [wrap64]
        refine (c_num R H (by omega) (by omega) (by simp)).go ?_
        rintro _ h7 ⟨kd, rfl, okd, _, H⟩
        simp -implicitDefEqProofs (disch := first | omega | (simp only [List.length_set, List.length_replicate, List.length_append, List.length_map, List.length_take, List.length_cons, List.length_nil]; omega)) [wrap64]
        refine HS.blsO2 ((H.mkE0 (kd := 1) (vl := r3) ⟨by decide, by decide⟩ o3).mkE0 (kd := 2) (vl := r2) ⟨by decide, by decide⟩ o2) rfl fun w h8 H => ?_
        simp -implicitDefEqProofs (disch := first | omega | (simp only [List.length_set, List.length_replicate, List.length_append, List.length_map, List.length_take, List.length_cons, List.length_nil]; omega)) [wrap64, setC, H.rep.one, H.rep.cells]
        exact hK _ _ ⟨kd, w, _, rfl, okd, H⟩
      · simp -implicitDefEqProofs (disch := first | omega | (simp only [List.length_set, List.length_replicate, List.length_append, List.length_map, List.length_take, List.length_cons, List.length_nil]; omega)) [wrap64]
        refine HS.blsO2 ((H.mkE0 (kd := 1) (vl := r3) ⟨by decide, by decide⟩ o3).mkE0 (kd := 2) (vl := r2) ⟨by decide, by decide⟩ o2) rfl fun w h8 H => ?_
        simp -implicitDefEqProofs (disch := first | omega | (simp only [List.length_set, List.length_replicate, List.length_append, List.length_map, List.length_take, List.length_cons, List.length_nil]; omega)) [wrap64]
        refine (c_num R H.bk2 (by omega) (by omega) (by simp)).go ?_
        rintro _ h7 ⟨kd, rfl, okd, _, H⟩
        simp -implicitDefEqProofs (disch := first | omega | (simp only [List.length_set, List.length_replicate, List.length_append, List.length_map, List.length_take, List.length_cons, List.length_nil]; omega)) [wrap64, setC, H.sw1.rep.one, H.sw1.rep.cells]
        exact hK _ _ ⟨kd, w, _, rfl, okd, H.sw1⟩
    · simp -implicitDefEqProofs (disch := first | omega | (simp only [List.length_set, List.length_replicate, List.length_append, List.length_map, List.length_take, List.length_cons, List.length_nil]; omega)) [wrap64]
      refine HS.blsO2 ((H.mkE0 (kd := 1) (vl := r3) ⟨by decide, by decide⟩ o3).mkE0 (kd := 2) (vl := r2) ⟨by decide, by decide⟩ o2) rfl fun w h8 H => ?_
      simp -implicitDefEqProofs (disch := first | omega | (simp only [List.length_set, List.length_replicate, List.length_append, List.length_map, List.length_take, List.length_cons, List.length_nil]; omega)) [wrap64]
      refine H.bls [(6 : Int), 7, 6] rfl rfl (okL (by decide)) (by decide) fun q h6 H => ?_
      simp -implicitDefEqProofs (disch := first | omega | (simp only [List.length_set, List.length_replicate, List.length_append, List.length_map, List.length_take, List.length_cons, List.length_nil]; omega)) [wrap64]
      refine (c_num R H.sw1.bk2 (by omega) (by omega) (by simp)).go ?_
      rintro _ h7 ⟨kd, rfl, okd, _, H⟩
      simp -implicitDefEqProofs (disch := first | omega | (simp only [List.length_set, List.length_replicate, List.length_append, List.length_map, List.length_take, List.length_cons, List.length_nil]; omega)) [wrap64, setC, H.sw1.rep.one, H.sw1.rep.cells]
      exact hK _ _ ⟨kd, w, _, rfl, okd, H.sw1⟩
  rintro _ h5 ⟨kd, w, r, rfl, okd, H⟩
  have hO := H.rep.one
  have hC := H.rep.cells
  simp -implicitDefEqProofs (disch := first | omega | (simp only [List.length_set, List.length_replicate, List.length_append, List.length_map, List.length_take, List.length_cons, List.length_nil]; omega)) [wrap64]
  refine (c_pick (n := 5) R H.sw1 (by omega) (by omega) ⟨by decide, by decide⟩).go ?_
  rintro _ h6 ⟨r4, rfl, o4, z4, y4, H⟩
  by_cases c2 : r4 = 0
  · simp -implicitDefEqProofs (disch := first | omega | (simp only [List.length_set, List.length_replicate, List.length_append, List.length_map, List.length_take, List.length_cons, List.length_nil]; omega)) [wrap64, c2, setC, hO, hC]
    refine HS.blsO1 (HS.mkExq' (kd := kd) (vl := 0) H.sw1 okd ⟨by decide, by decide⟩) rfl fun w2 h7 H => ?_
    have hO2 := H.rep.one
    have hC2 := H.rep.cells
    simp -implicitDefEqProofs (disch := first | omega | (simp only [List.length_set, List.length_replicate, List.length_append, List.length_map, List.length_take, List.length_cons, List.length_nil]; omega)) [wrap64, setC, hO2, hC2, ez]
    exact RetK.keep (hk _ _ ⟨Exq.mk 3 0 _, _, HS.mkExq' H ⟨by decide, by decide⟩ ⟨by decide, by decide⟩, by simp [Exq.nods, Exq.nod], by omega, by omega⟩)
  · simp -implicitDefEqProofs (disch := first | omega | (simp only [List.length_set, List.length_replicate, List.length_append, List.length_map, List.length_take, List.length_cons, List.length_nil]; omega)) [wrap64, c2, setC, hO, hC, ez]
    exact RetK.keep (hk _ _ ⟨_, _, HS.mkExq' H.sw1 okd ⟨by decide, by decide⟩, by rw [Exq.nod_eq, Exq.kids_mk]; simp [Exq.nods, Exq.nod], by omega, by omega⟩)
end Go.Proofs.Ytmpgkijhhocfcaa

/-
  Arguments of laws: systems that are drawn.
-/
namespace Go.Proofs.Ytmpgkijhhocfcaa
open Go
set_option linter.all false
set_option linter.unusedVariables false
set_option linter.unusedSimpArgs false
set_option linter.defProp false
set_option maxRecDepth 1000000

structure Ed.Sm (n : Nat) (e : Ed) : Prop where
  g : e.guard.nod ≤ n
  v : e.value.nod ≤ n
structure Pr.Sm (n : Nat) (p : Pr) : Prop where
  el : p.edges.length ≤ n
  ee : ∀ e ∈ p.edges, e.Sm n
structure Sy.Sm (n : Nat) (s : Sy) : Prop where
  il : s.init.length ≤ n
  pl : s.procs.length ≤ n
  pp : ∀ p ∈ s.procs, p.Sm n

theorem c_l2DrawEdge {g h : Heap} {Γ : List HP} {b : Nat} {sl : Value} {l : List (BitVec 8)} {p n : Int} (R : Rep g sl l) (H : HS g (rb b sl p :: Γ) h) (hp : 0 ≤ p) (hp2 : p + 200 ≤ 1000000000000) (hn : I64 n) :
    CallE Try.prog fn_spec_l2DrawEdge [.pointer (some ⟨b, 0, none⟩), .int .i64 n] h (fun u h' => ∃ (y : Ed) (p' : Int), HS g (ow u y :: rb b sl p' :: Γ) h' ∧ y.Sm 40 ∧ p ≤ p' ∧ p' ≤ p + 90) := by
  have i0 : I64 0 := ⟨by decide, by decide⟩
  have i1 : I64 1 := ⟨by decide, by decide⟩
  have im : I64 (-1) := ⟨by decide, by decide⟩
  have i8 : I64 8 := ⟨by decide, by decide⟩
  have i9 : I64 9 := ⟨by decide, by decide⟩
  refine CallE.gen fun k hk => EN_spec_l2DrawEdge rfl ?_
  simp -implicitDefEqProofs (disch := first | omega | (simp only [List.length_set, List.length_replicate, List.length_append, List.length_map, List.length_take, List.length_cons, List.length_nil]; omega)) [wrap64]
  refine (c_pick R H (by omega) (by omega) hn).go ?_
  rintro _ h1 ⟨r1, rfl, o1, z1, y1, H⟩
  simp -implicitDefEqProofs (disch := first | omega | (simp only [List.length_set, List.length_replicate, List.length_append, List.length_map, List.length_take, List.length_cons, List.length_nil]; omega)) [wrap64]
  refine (c_pick R H (by omega) (by omega) hn).go ?_
  rintro _ h1 ⟨r2, rfl, o2, z2, y2, H⟩
  simp -implicitDefEqProofs (disch := first | omega | (simp only [List.length_set, List.length_replicate, List.length_append, List.length_map, List.length_take, List.length_cons, List.length_nil]; omega)) [wrap64]
  refine (c_l2Guard R H (by omega) (by omega)).go ?_
  rintro _ h1 ⟨gu, p1, H, hgn, hp3, hp4⟩
  obtain ⟨wg, rfl, k1, k2, H⟩ := H.unExq
  have hOg := H.rep.one
  have hCg := H.rep.cells
  simp -implicitDefEqProofs (disch := first | omega | (simp only [List.length_set, List.length_replicate, List.length_append, List.length_map, List.length_take, List.length_cons, List.length_nil]; omega)) [wrap64, setC, hOg, hCg]
  refine (c_pick (n := 3) R H.sw1 (by omega) (by omega) ⟨by decide, by decide⟩).go ?_
  rintro _ h1 ⟨r3, rfl, o3, z3, y3, H⟩
  by_cases c3 : 0 < r3
  case neg =>
    simp -implicitDefEqProofs (disch := first | omega | (simp only [List.length_set, List.length_replicate, List.length_append, List.length_map, List.length_take, List.length_cons, List.length_nil]; omega)) [wrap64, c3]
    have H := (H.sw1.nil_ow (α := Exq)).sw2
    refine (c_pick (n := 4) R H (by omega) (by omega) ⟨by decide, by decide⟩).go ?_
    rintro _ ht ⟨r9, rfl, o9, z9, y9, H⟩
    by_cases c9 : r9 = 0
    · simp -implicitDefEqProofs (disch := first | omega | (simp only [List.length_set, List.length_replicate, List.length_append, List.length_map, List.length_take, List.length_cons, List.length_nil]; omega)) [wrap64, c9]
      refine H.bls [(1 : Int), -1, 1, -1, 2, -2] rfl rfl (okL (by decide)) (by decide) fun q hq H => ?_
      simp -implicitDefEqProofs (disch := first | omega | (simp only [List.length_set, List.length_replicate, List.length_append, List.length_map, List.length_take, List.length_cons, List.length_nil]; omega)) [wrap64]
      refine (c_num R H (by omega) (by omega) (by simp)).go ?_
      rintro _ ht2 ⟨sy, rfl, osy, _, H⟩
      simp -implicitDefEqProofs (disch := first | omega | (simp only [List.length_set, List.length_replicate, List.length_append, List.length_map, List.length_take, List.length_cons, List.length_nil]; omega)) [wrap64, setC, hOg, hCg]
      exact RetK.keep (hk _ _ ⟨⟨r1, r2, gu, -1, (Exq.mk 0 0 []), sy⟩, _, HS.mkEd (e := ⟨r1, r2, gu, -1, (Exq.mk 0 0 []), sy⟩) (H.bk2.sw1) ⟨o1, o2, k1, k2, im, i0, i0, osy⟩, ⟨by dsimp only; omega, by simp [Exq.nod, Exq.nods]⟩, by omega, by omega⟩)
    · simp -implicitDefEqProofs (disch := first | omega | (simp only [List.length_set, List.length_replicate, List.length_append, List.length_map, List.length_take, List.length_cons, List.length_nil]; omega)) [wrap64, c9, setC, hOg, hCg]
      exact RetK.keep (hk _ _ ⟨⟨r1, r2, gu, -1, (Exq.mk 0 0 []), 0⟩, _, HS.mkEd (e := ⟨r1, r2, gu, -1, (Exq.mk 0 0 []), 0⟩) (H.bk2.sw1) ⟨o1, o2, k1, k2, im, i0, i0, i0⟩, ⟨by dsimp only; omega, by simp [Exq.nod, Exq.nods]⟩, by omega, by omega⟩)
  simp -implicitDefEqProofs (disch := first | omega | (simp only [List.length_set, List.length_replicate, List.length_append, List.length_map, List.length_take, List.length_cons, List.length_nil]; omega)) [wrap64, c3]
  refine H.bls [(0 : Int), 1, 0, 2] rfl rfl (okL (by decide)) (by decide) fun q hq H => ?_
  simp -implicitDefEqProofs (disch := first | omega | (simp only [List.length_set, List.length_replicate, List.length_append, List.length_map, List.length_take, List.length_cons, List.length_nil]; omega)) [wrap64]
  refine (c_num R H (by omega) (by omega) (by simp)).go ?_
  rintro _ ht2 ⟨vr, rfl, ovr, _, H⟩
  simp -implicitDefEqProofs (disch := first | omega | (simp only [List.length_set, List.length_replicate, List.length_append, List.length_map, List.length_take, List.length_cons, List.length_nil]; omega)) [wrap64, setC, hOg, hCg]
  refine (c_pick (n := 4) R H (by omega) (by omega) ⟨by decide, by decide⟩).go ?_
  rintro _ h1 ⟨r5, rfl, o5, z5, y5, H⟩
  by_cases d0 : r5 = 0
  · simp -implicitDefEqProofs (disch := first | omega | (simp only [List.length_set, List.length_replicate, List.length_append, List.length_map, List.length_take, List.length_cons, List.length_nil]; omega)) [wrap64, d0]
    refine (c_pick (n := 3) R H (by omega) (by omega) ⟨by decide, by decide⟩).go ?_
    rintro _ h1 ⟨r6, rfl, o6, z6, y6, H⟩
    simp -implicitDefEqProofs (disch := first | omega | (simp only [List.length_set, List.length_replicate, List.length_append, List.length_map, List.length_take, List.length_cons, List.length_nil]; omega)) [wrap64, setC, hOg, hCg]
    have H := (H.sw1.nil_ow (α := Exq)).sw2
    refine (c_pick (n := 4) R H (by omega) (by omega) ⟨by decide, by decide⟩).go ?_
    rintro _ ht ⟨r9, rfl, o9, z9, y9, H⟩
    by_cases c9 : r9 = 0
    · simp -implicitDefEqProofs (disch := first | omega | (simp only [List.length_set, List.length_replicate, List.length_append, List.length_map, List.length_take, List.length_cons, List.length_nil]; omega)) [wrap64, c9]
      refine H.bls [(1 : Int), -1, 1, -1, 2, -2] rfl rfl (okL (by decide)) (by decide) fun q hq H => ?_
      simp -implicitDefEqProofs (disch := first | omega | (simp only [List.length_set, List.length_replicate, List.length_append, List.length_map, List.length_take, List.length_cons, List.length_nil]; omega)) [wrap64]
      refine (c_num R H (by omega) (by omega) (by simp)).go ?_
      rintro _ ht2 ⟨sy, rfl, osy, _, H⟩
      simp -implicitDefEqProofs (disch := first | omega | (simp only [List.length_set, List.length_replicate, List.length_append, List.length_map, List.length_take, List.length_cons, List.length_nil]; omega)) [wrap64, setC, hOg, hCg]
      exact RetK.keep (hk _ _ ⟨⟨r1, r2, gu, vr, (Exq.mk 1 r6 []), sy⟩, _, HS.mkEd (e := ⟨r1, r2, gu, vr, (Exq.mk 1 r6 []), sy⟩) (H.bk2.sw1) ⟨o1, o2, k1, k2, ovr, i1, o6, osy⟩, ⟨by dsimp only; omega, by simp [Exq.nod, Exq.nods]⟩, by omega, by omega⟩)
    · simp -implicitDefEqProofs (disch := first | omega | (simp only [List.length_set, List.length_replicate, List.length_append, List.length_map, List.length_take, List.length_cons, List.length_nil]; omega)) [wrap64, c9, setC, hOg, hCg]
      exact RetK.keep (hk _ _ ⟨⟨r1, r2, gu, vr, (Exq.mk 1 r6 []), 0⟩, _, HS.mkEd (e := ⟨r1, r2, gu, vr, (Exq.mk 1 r6 []), 0⟩) (H.bk2.sw1) ⟨o1, o2, k1, k2, ovr, i1, o6, i0⟩, ⟨by dsimp only; omega, by simp [Exq.nod, Exq.nods]⟩, by omega, by omega⟩)
  by_cases d1 : r5 = 1
  · simp -implicitDefEqProofs (disch := first | omega | (simp only [List.length_set, List.length_replicate, List.length_append, List.length_map, List.length_take, List.length_cons, List.length_nil]; omega)) [wrap64, d0, d1, setC]
    refine HS.blsO2 ((H.mkE0 (kd := 1) (vl := 1) ⟨by decide, by decide⟩ ⟨by decide, by decide⟩).mkE0 (kd := 2) (vl := vr) ⟨by decide, by decide⟩ ovr) rfl fun w h8 H => ?_
    have hOv := H.rep.one
    have hCv := H.rep.cells
    simp -implicitDefEqProofs (disch := first | omega | (simp only [List.length_set, List.length_replicate, List.length_append, List.length_map, List.length_take, List.length_cons, List.length_nil]; omega)) [wrap64, setC, hOg, hCg, hOv, hCv]
    have H := H.sw1
    refine (c_pick (n := 4) R H (by omega) (by omega) ⟨by decide, by decide⟩).go ?_
    rintro _ ht ⟨r9, rfl, o9, z9, y9, H⟩
    by_cases c9 : r9 = 0
    · simp -implicitDefEqProofs (disch := first | omega | (simp only [List.length_set, List.length_replicate, List.length_append, List.length_map, List.length_take, List.length_cons, List.length_nil]; omega)) [wrap64, c9]
      refine H.bls [(1 : Int), -1, 1, -1, 2, -2] rfl rfl (okL (by decide)) (by decide) fun q hq H => ?_
      simp -implicitDefEqProofs (disch := first | omega | (simp only [List.length_set, List.length_replicate, List.length_append, List.length_map, List.length_take, List.length_cons, List.length_nil]; omega)) [wrap64]
      refine (c_num R H (by omega) (by omega) (by simp)).go ?_
      rintro _ ht2 ⟨sy, rfl, osy, _, H⟩
      simp -implicitDefEqProofs (disch := first | omega | (simp only [List.length_set, List.length_replicate, List.length_append, List.length_map, List.length_take, List.length_cons, List.length_nil]; omega)) [wrap64, setC, hOg, hCg, hOv, hCv]
      exact RetK.keep (hk _ _ ⟨⟨r1, r2, gu, vr, (Exq.mk 8 0 [Exq.mk 2 vr [], Exq.mk 1 1 []]), sy⟩, _, HS.mkEd (e := ⟨r1, r2, gu, vr, (Exq.mk 8 0 [Exq.mk 2 vr [], Exq.mk 1 1 []]), sy⟩) (H.bk2.sw1) ⟨o1, o2, k1, k2, ovr, i8, i0, osy⟩, ⟨by dsimp only; omega, by simp [Exq.nod, Exq.nods]⟩, by omega, by omega⟩)
    · simp -implicitDefEqProofs (disch := first | omega | (simp only [List.length_set, List.length_replicate, List.length_append, List.length_map, List.length_take, List.length_cons, List.length_nil]; omega)) [wrap64, c9, setC, hOg, hCg, hOv, hCv]
      exact RetK.keep (hk _ _ ⟨⟨r1, r2, gu, vr, (Exq.mk 8 0 [Exq.mk 2 vr [], Exq.mk 1 1 []]), 0⟩, _, HS.mkEd (e := ⟨r1, r2, gu, vr, (Exq.mk 8 0 [Exq.mk 2 vr [], Exq.mk 1 1 []]), 0⟩) (H.bk2.sw1) ⟨o1, o2, k1, k2, ovr, i8, i0, i0⟩, ⟨by dsimp only; omega, by simp [Exq.nod, Exq.nods]⟩, by omega, by omega⟩)
  by_cases d2 : r5 = 2
  · simp -implicitDefEqProofs (disch := first | omega | (simp only [List.length_set, List.length_replicate, List.length_append, List.length_map, List.length_take, List.length_cons, List.length_nil]; omega)) [wrap64, d0, d1, d2, setC]
    refine HS.blsO2 ((H.mkE0 (kd := 2) (vl := vr) ⟨by decide, by decide⟩ ovr).mkE0 (kd := 1) (vl := 1) ⟨by decide, by decide⟩ ⟨by decide, by decide⟩) rfl fun w h8 H => ?_
    have hOv := H.rep.one
    have hCv := H.rep.cells
    simp -implicitDefEqProofs (disch := first | omega | (simp only [List.length_set, List.length_replicate, List.length_append, List.length_map, List.length_take, List.length_cons, List.length_nil]; omega)) [wrap64, setC, hOg, hCg, hOv, hCv]
    have H := H.sw1
    refine (c_pick (n := 4) R H (by omega) (by omega) ⟨by decide, by decide⟩).go ?_
    rintro _ ht ⟨r9, rfl, o9, z9, y9, H⟩
    by_cases c9 : r9 = 0
    · simp -implicitDefEqProofs (disch := first | omega | (simp only [List.length_set, List.length_replicate, List.length_append, List.length_map, List.length_take, List.length_cons, List.length_nil]; omega)) [wrap64, c9]
      refine H.bls [(1 : Int), -1, 1, -1, 2, -2] rfl rfl (okL (by decide)) (by decide) fun q hq H => ?_
      simp -implicitDefEqProofs (disch := first | omega | (simp only [List.length_set, List.length_replicate, List.length_append, List.length_map, List.length_take, List.length_cons, List.length_nil]; omega)) [wrap64]
      refine (c_num R H (by omega) (by omega) (by simp)).go ?_
      rintro _ ht2 ⟨sy, rfl, osy, _, H⟩
      simp -implicitDefEqProofs (disch := first | omega | (simp only [List.length_set, List.length_replicate, List.length_append, List.length_map, List.length_take, List.length_cons, List.length_nil]; omega)) [wrap64, setC, hOg, hCg, hOv, hCv]
      exact RetK.keep (hk _ _ ⟨⟨r1, r2, gu, vr, (Exq.mk 9 0 [Exq.mk 1 1 [], Exq.mk 2 vr []]), sy⟩, _, HS.mkEd (e := ⟨r1, r2, gu, vr, (Exq.mk 9 0 [Exq.mk 1 1 [], Exq.mk 2 vr []]), sy⟩) (H.bk2.sw1) ⟨o1, o2, k1, k2, ovr, i9, i0, osy⟩, ⟨by dsimp only; omega, by simp [Exq.nod, Exq.nods]⟩, by omega, by omega⟩)
    · simp -implicitDefEqProofs (disch := first | omega | (simp only [List.length_set, List.length_replicate, List.length_append, List.length_map, List.length_take, List.length_cons, List.length_nil]; omega)) [wrap64, c9, setC, hOg, hCg, hOv, hCv]
      exact RetK.keep (hk _ _ ⟨⟨r1, r2, gu, vr, (Exq.mk 9 0 [Exq.mk 1 1 [], Exq.mk 2 vr []]), 0⟩, _, HS.mkEd (e := ⟨r1, r2, gu, vr, (Exq.mk 9 0 [Exq.mk 1 1 [], Exq.mk 2 vr []]), 0⟩) (H.bk2.sw1) ⟨o1, o2, k1, k2, ovr, i9, i0, i0⟩, ⟨by dsimp only; omega, by simp [Exq.nod, Exq.nods]⟩, by omega, by omega⟩)
  · simp -implicitDefEqProofs (disch := first | omega | (simp only [List.length_set, List.length_replicate, List.length_append, List.length_map, List.length_take, List.length_cons, List.length_nil]; omega)) [wrap64, d0, d1, d2]
    refine (c_l1Expr R H (by omega) (by omega)).go ?_
    rintro _ h1 ⟨va, p5, H, hvn, hp5, hp6⟩
    obtain ⟨wv, rfl, k3, k4, H⟩ := H.unExq
    have hOv := H.rep.one
    have hCv := H.rep.cells
    simp -implicitDefEqProofs (disch := first | omega | (simp only [List.length_set, List.length_replicate, List.length_append, List.length_map, List.length_take, List.length_cons, List.length_nil]; omega)) [wrap64, setC, hOg, hCg, hOv, hCv]
    have H := H.sw1
    refine (c_pick (n := 4) R H (by omega) (by omega) ⟨by decide, by decide⟩).go ?_
    rintro _ ht ⟨r9, rfl, o9, z9, y9, H⟩
    by_cases c9 : r9 = 0
    · simp -implicitDefEqProofs (disch := first | omega | (simp only [List.length_set, List.length_replicate, List.length_append, List.length_map, List.length_take, List.length_cons, List.length_nil]; omega)) [wrap64, c9]
      refine H.bls [(1 : Int), -1, 1, -1, 2, -2] rfl rfl (okL (by decide)) (by decide) fun q hq H => ?_
      simp -implicitDefEqProofs (disch := first | omega | (simp only [List.length_set, List.length_replicate, List.length_append, List.length_map, List.length_take, List.length_cons, List.length_nil]; omega)) [wrap64]
      refine (c_num R H (by omega) (by omega) (by simp)).go ?_
      rintro _ ht2 ⟨sy, rfl, osy, _, H⟩
      simp -implicitDefEqProofs (disch := first | omega | (simp only [List.length_set, List.length_replicate, List.length_append, List.length_map, List.length_take, List.length_cons, List.length_nil]; omega)) [wrap64, setC, hOg, hCg, hOv, hCv]
      exact RetK.keep (hk _ _ ⟨⟨r1, r2, gu, vr, va, sy⟩, _, HS.mkEd (e := ⟨r1, r2, gu, vr, va, sy⟩) (H.bk2.sw1) ⟨o1, o2, k1, k2, ovr, k3, k4, osy⟩, ⟨by dsimp only; omega, by dsimp only; omega⟩, by omega, by omega⟩)
    · simp -implicitDefEqProofs (disch := first | omega | (simp only [List.length_set, List.length_replicate, List.length_append, List.length_map, List.length_take, List.length_cons, List.length_nil]; omega)) [wrap64, c9, setC, hOg, hCg, hOv, hCv]
      exact RetK.keep (hk _ _ ⟨⟨r1, r2, gu, vr, va, 0⟩, _, HS.mkEd (e := ⟨r1, r2, gu, vr, va, 0⟩) (H.bk2.sw1) ⟨o1, o2, k1, k2, ovr, k3, k4, i0⟩, ⟨by dsimp only; omega, by dsimp only; omega⟩, by omega, by omega⟩)
end Go.Proofs.Ytmpgkijhhocfcaa

/-
  Arguments of laws: systems that are drawn.
-/
namespace Go.Proofs.Ytmpgkijhhocfcaa
open Go
set_option linter.all false
set_option linter.unusedVariables false
set_option linter.unusedSimpArgs false
set_option linter.defProp false
set_option maxRecDepth 1000000

theorem c_l2System {g h : Heap} {Γ : List HP} {b : Nat} {sl : Value} {l : List (BitVec 8)} {p : Int} (R : Rep g sl l) (H : HS g (rb b sl p :: Γ) h) (hp : 0 ≤ p) (hp2 : p + 2000 ≤ 1000000000000) :
    CallE Try.prog fn_spec_l2System [.pointer (some ⟨b, 0, none⟩)] h (fun u h' => ∃ (y : Sy) (p' : Int), HS g (ow u y :: rb b sl p' :: Γ) h' ∧ y.Sm 40 ∧ p ≤ p' ∧ p' ≤ p + 1400) := by
  have i0 : I64 0 := ⟨by decide, by decide⟩
  refine CallE.gen fun k hk => EN_spec_l2System rfl ?_
  simp -implicitDefEqProofs (disch := first | omega | (simp only [List.length_set, List.length_replicate, List.length_append, List.length_map, List.length_take, List.length_cons, List.length_nil]; omega)) [wrap64]
  refine (c_pick (n := 2) R H (by omega) (by omega) ⟨by decide, by decide⟩).go ?_
  rintro _ h1 ⟨r1, rfl, o1, z1, y1, H⟩
  simp -implicitDefEqProofs (disch := first | omega | (simp only [List.length_set, List.length_replicate, List.length_append, List.length_map, List.length_take, List.length_cons, List.length_nil]; omega)) [wrap64]
  refine H.bls [(0 : Int), 0, 1, 3] rfl rfl (okL (by decide)) (by decide) fun q hq H => ?_
  simp -implicitDefEqProofs (disch := first | omega | (simp only [List.length_set, List.length_replicate, List.length_append, List.length_map, List.length_take, List.length_cons, List.length_nil]; omega)) [wrap64]
  refine (c_num R H (by omega) (by omega) (by simp)).go ?_
  rintro _ h1 ⟨r2, rfl, o2, _, H⟩
  simp -implicitDefEqProofs (disch := first | omega | (simp only [List.length_set, List.length_replicate, List.length_append, List.length_map, List.length_take, List.length_cons, List.length_nil]; omega)) [wrap64]
  refine H.bls [r1, r2, 0] rfl rfl (by intro x hx; simp at hx; rcases hx with rfl | rfl | rfl <;> first | exact o1 | exact o2 | exact i0) (by decide) fun wi hq H => ?_
  have hOi := H.rep.one
  have hCi := H.rep.cells
  simp -implicitDefEqProofs (disch := first | omega | (simp only [List.length_set, List.length_replicate, List.length_append, List.length_map, List.length_take, List.length_cons, List.length_nil]; omega)) [wrap64, setC, hOi, hCi]
  refine H.bls [(2 : Int), 1, 2, 3] rfl rfl (okL (by decide)) (by decide) fun q hq H => ?_
  simp -implicitDefEqProofs (disch := first | omega | (simp only [List.length_set, List.length_replicate, List.length_append, List.length_map, List.length_take, List.length_cons, List.length_nil]; omega)) [wrap64]
  refine (c_num R H.sw1.bk2 (by omega) (by omega) (by simp)).go ?_
  rintro _ h1 ⟨r3, rfl, o3, hr3, H⟩
  obtain ⟨n, rfl, hn⟩ : ∃ n : Nat, r3 = n ∧ n ≤ 3 := by
    simp at hr3
    rcases hr3 with rfl | rfl | rfl | rfl <;> first | exact ⟨2, rfl, by decide⟩ | exact ⟨1, rfl, by decide⟩ | exact ⟨3, rfl, by decide⟩
  simp -implicitDefEqProofs (disch := first | omega | (simp only [List.length_set, List.length_replicate, List.length_append, List.length_map, List.length_take, List.length_cons, List.length_nil]; omega)) [wrap64]
  refine wp_while (σ := Nat) (fun i e h' => ∃ (ps : List Pr) (w : Value) (p' : Int), e = [some (.pointer (some ⟨b, 0, none⟩)), some (.agg #[.slice none 0 0, .slice none 0 0]), some (.agg #[wi, w]), some (.int .i64 i), none, none] ∧ HS g (ow w ps :: ow wi [r1, r2, 0] :: rb b sl p' :: Γ) h' ∧ ps.length + i ≤ 3 ∧ (∀ x ∈ ps, x.Sm 40) ∧ p ≤ p' ∧ p' + 452 * i ≤ p + 3 + 3 * 452) (fun i => i) n ⟨[], .slice none 0 0, _, by simp, H.sw1.nil_ow, by simpa using hn, by simp, by omega, by omega⟩ ?_
  clear H hOi hCi
  rintro J i _ h3 hJ ⟨ps, w, p1, rfl, H, hpl, hps, hp3, hp4⟩
  have hOi := H.sw1.rep.one
  have hCi := H.sw1.rep.cells
  have hOw := H.rep.one
  have hCw := H.rep.cells
  by_cases c0 : 0 < i
  · have c0' : (0 : Int) < i := by omega
    simp -implicitDefEqProofs (disch := first | omega | (simp only [List.length_set, List.length_replicate, List.length_append, List.length_map, List.length_take, List.length_cons, List.length_nil]; omega)) [wrap64, c0, c0']
    refine H.bls [(2 : Int), 3, 1, 2] rfl rfl (okL (by decide)) (by decide) fun q hq H => ?_
    simp -implicitDefEqProofs (disch := first | omega | (simp only [List.length_set, List.length_replicate, List.length_append, List.length_map, List.length_take, List.length_cons, List.length_nil]; omega)) [wrap64]
    refine (c_num R (H.under fun _ H => H.sw2) (by omega) (by omega) (by simp)).go ?_
    rintro _ h4 ⟨lo, rfl, olo, _, H⟩
    simp -implicitDefEqProofs (disch := first | omega | (simp only [List.length_set, List.length_replicate, List.length_append, List.length_map, List.length_take, List.length_cons, List.length_nil]; omega)) [wrap64, setC]
    refine H.bls [(3 : Int), 4, 2, 5, 1] rfl rfl (okL (by decide)) (by decide) fun q hq H => ?_
    simp -implicitDefEqProofs (disch := first | omega | (simp only [List.length_set, List.length_replicate, List.length_append, List.length_map, List.length_take, List.length_cons, List.length_nil]; omega)) [wrap64]
    refine (c_num R H (by omega) (by omega) (by simp)).go ?_
    rintro _ h4 ⟨r5, rfl, o5, hr5, H⟩
    obtain ⟨n5, rfl, hn5⟩ : ∃ n : Nat, r5 = n ∧ n ≤ 5 := by
      simp at hr5
      rcases hr5 with rfl | rfl | rfl | rfl | rfl <;> first | exact ⟨3, rfl, by decide⟩ | exact ⟨4, rfl, by decide⟩ | exact ⟨2, rfl, by decide⟩ | exact ⟨5, rfl, by decide⟩ | exact ⟨1, rfl, by decide⟩
    simp -implicitDefEqProofs (disch := first | omega | (simp only [List.length_set, List.length_replicate, List.length_append, List.length_map, List.length_take, List.length_cons, List.length_nil]; omega)) [wrap64]
    refine wp_while (σ := Nat) (fun k e h' => ∃ (es : List Ed) (we : Value) (p' : Int), e = [some (.pointer (some ⟨b, 0, none⟩)), some (.agg #[.slice none 0 0, .slice none 0 0]), some (.agg #[wi, w]), some (.int .i64 i), some (.agg #[.int .i64 lo, we]), some (.int .i64 k)] ∧ HS g (ow we es :: rb b sl p' :: ow w ps :: ow wi [r1, r2, 0] :: Γ) h' ∧ es.length + k ≤ 5 ∧ (∀ x ∈ es, x.Sm 40) ∧ p1 ≤ p' ∧ p' + 90 * k ≤ p1 + 2 + 450) (fun i => i) n5 ⟨[], .slice none 0 0, _, by simp, H.nil_ow, by simpa using hn5, by simp, by omega, by omega⟩ ?_
    clear H
    rintro J2 k2 _ h5 hJ2 ⟨es, we, p2, rfl, H, hel, hes, hp5, hp6⟩
    by_cases c1 : 0 < k2
    · have c1' : (0 : Int) < k2 := by omega
      simp -implicitDefEqProofs (disch := first | omega | (simp only [List.length_set, List.length_replicate, List.length_append, List.length_map, List.length_take, List.length_cons, List.length_nil]; omega)) [wrap64, c1, c1', setC]
      refine (c_l2DrawEdge R H.sw1 (by omega) (by omega) olo).go ?_
      rintro _ h6 ⟨y, p3, H, hy, hp7, hp8⟩
      obtain ⟨w1, w2, rfl, ok, H'⟩ := H.unEd
      have hO1 := H'.rep.one
      have hC1 := H'.rep.cells
      have hO2 := H'.sw1.rep.one
      have hC2 := H'.sw1.rep.cells
      simp -implicitDefEqProofs (disch := first | omega | (simp only [List.length_set, List.length_replicate, List.length_append, List.length_map, List.length_take, List.length_cons, List.length_nil]; omega)) [wrap64, setC, Ed.cs, hO1, hC1, hO2, hC2]
      refine HS.appO (bytes := 112) H.sw2.sw1 rfl rfl rfl rfl rfl (by omega) (by omega) fun we' h7 H => ?_
      simp -implicitDefEqProofs (disch := first | omega | (simp only [List.length_set, List.length_replicate, List.length_append, List.length_map, List.length_take, List.length_cons, List.length_nil]; omega)) [wrap64, setC, H.rep.one, H.rep.cells]
      refine hJ2 (k2 - 1) _ _ (by omega) ⟨es ++ [y], we', p3, by simp; omega, H, by simp; omega, ?_, by omega, by omega⟩
      intro x hx
      simp only [List.mem_append, List.mem_singleton] at hx
      rcases hx with hx | rfl
      · exact hes x hx
      · exact hy
    · have c1' : ¬ ((0 : Int) < k2) := by omega
      have hOe := H.rep.one
      have hCe := H.rep.cells
      simp -implicitDefEqProofs (disch := first | omega | (simp only [List.length_set, List.length_replicate, List.length_append, List.length_map, List.length_take, List.length_cons, List.length_nil]; omega)) [wrap64, c1, c1', setC, hOe, hCe]
      refine HS.appO (bytes := 32) (HS.mkPr (p := ⟨lo, es⟩) H olo |>.sw2.sw1) rfl rfl rfl rfl rfl (by omega) (by omega) fun w' h7 H => ?_
      simp -implicitDefEqProofs (disch := first | omega | (simp only [List.length_set, List.length_replicate, List.length_append, List.length_map, List.length_take, List.length_cons, List.length_nil]; omega)) [wrap64, setC, H.rep.one, H.rep.cells]
      refine hJ (i - 1) _ _ (by omega) ⟨ps ++ [⟨lo, es⟩], w', p2, by simp; omega, H.under fun _ H => H.sw1, by simp; omega, ?_, by omega, by omega⟩
      intro x hx
      simp only [List.mem_append, List.mem_singleton] at hx
      rcases hx with hx | rfl
      · exact hps x hx
      · exact ⟨by dsimp only; omega, hes⟩
  · have c0' : ¬ ((0 : Int) < i) := by omega
    simp -implicitDefEqProofs (disch := first | omega | (simp only [List.length_set, List.length_replicate, List.length_append, List.length_map, List.length_take, List.length_cons, List.length_nil]; omega)) [wrap64, c0, c0', setC, hOi, hCi, hOw, hCw]
    exact RetK.keep (hk _ _ ⟨⟨[r1, r2, 0], ps⟩, p1, HS.mkSy (s := ⟨[r1, r2, 0], ps⟩) H.sw1, ⟨by simp, by dsimp only; omega, hps⟩, by omega, by omega⟩)
end Go.Proofs.Ytmpgkijhhocfcaa

/-
  Arguments of laws: copies of systems.
-/
namespace Go.Proofs.Ytmpgkijhhocfcaa
open Go
set_option linter.all false
set_option linter.unusedVariables false
set_option linter.unusedSimpArgs false
set_option linter.defProp false
set_option maxRecDepth 1000000

theorem c_l2CopyB {h : Heap} {v : Value} {s : Sy} {n : Nat} (R : Rep h v s) (hs : s.Sm n) (hn : n ≤ 1000) : CallE Try.prog fn_spec_l2Copy [v] h (fun u h' => ∃ y : Sy, HS h [ow u y] h' ∧ y.Sm n ∧ y.procs.length = s.procs.length) := by
  obtain ⟨v1, v2, rfl, R1, R2'⟩ := Rep_Sy.1 R
  have hil := hs.il
  have hpl := hs.pl
  have hO1 := R1.one
  have hO2 := R2'.one
  refine CallE.gen fun k hk => EN_spec_l2Copy rfl ?_
  simp -implicitDefEqProofs (disch := first | omega | (simp only [List.length_set, List.length_replicate, List.length_append, List.length_map, List.length_take, List.length_cons, List.length_nil]; omega)) [wrap64]
  refine HS.appPL (α := Int) (l2 := s.init) HS.init rfl rfl R1 rfl rfl (by omega) fun wi h1 H => ?_
  simp -implicitDefEqProofs (disch := first | omega | (simp only [List.length_set, List.length_replicate, List.length_append, List.length_map, List.length_take, List.length_cons, List.length_nil]; omega)) [wrap64, setC, H.rep.one, H.rep.cells]
  refine wp_count s.procs.length (fun i e h' => ∃ (ps : List Pr) (w : Value), e = [none, some (.agg #[v1, v2]), some (.agg #[.slice none 0 0, .slice none 0 0]), some (.agg #[wi, w]), some (.int .i64 i), none, none, none] ∧ HS h [ow w ps, ow wi s.init] h' ∧ ps.length = i ∧ ∀ x ∈ ps, x.Sm n) ⟨[], .slice none 0 0, by simp, H.nil_ow, rfl, by simp⟩ ?_
  clear H
  rintro J i _ h2 hJ hi ⟨ps, w, rfl, H, hpsl, hps⟩
  have hOi := H.sw1.rep.one
  have hCi := H.sw1.rep.cells
  have hOw := H.rep.one
  have hCw := H.rep.cells
  simp -implicitDefEqProofs (disch := first | omega | (simp only [List.length_set, List.length_replicate, List.length_append, List.length_map, List.length_take, List.length_cons, List.length_nil]; omega)) [wrap64, (R2'.on H).len]
  refine IteW.mk (fun hlt => ?_) (fun hge => ?_)
  · have hi : i < s.procs.length := by omega
    have hpi := hs.pp _ (List.getElem_mem hi)
    have hel := hpi.el
    obtain ⟨u, hu, Ru⟩ := R2'.ld hi
    change hload _ (some (elp 2 v2 i)) (some 2) = some u at hu
    obtain ⟨we, rfl, k1, R3⟩ := Rep_Pr.1 Ru
    have hP : ∀ {h'}, h.le h' → _ := fun {h'} (hl : h.le h') => hld_parts (hload_le hl hu)
    have hP1 := (hP H.base).1
    have hP2 := (hP H.base).2.2.1
    simp -implicitDefEqProofs (disch := first | omega | (simp only [List.length_set, List.length_replicate, List.length_append, List.length_map, List.length_take, List.length_cons, List.length_nil]; omega)) [wrap64, R2'.X (n := 2) rfl, hP1, hP2, setC]
    refine wp_count s.procs[i].edges.length (fun k e h' => ∃ (es : List Ed) (wp : Value), e = [none, some (.agg #[v1, v2]), some (.agg #[.slice none 0 0, .slice none 0 0]), some (.agg #[wi, w]), some (.int .i64 i), some (.agg #[.int .i64 s.procs[i].locs, wp]), some (.int .i64 k), none] ∧ HS h [ow wp es, ow w ps, ow wi s.init] h' ∧ es.length = k ∧ ∀ x ∈ es, x.Sm n) ⟨[], .slice none 0 0, by simp, H.nil_ow, rfl, by simp⟩ ?_
    clear H hP1 hP2
    rintro J2 k2 _ h3 hJ2 hk2 ⟨es, wp, rfl, H, hesl, hes⟩
    have hP1 := (hP H.base).1
    have hP2 := (hP H.base).2.2.1
    simp -implicitDefEqProofs (disch := first | omega | (simp only [List.length_set, List.length_replicate, List.length_append, List.length_map, List.length_take, List.length_cons, List.length_nil]; omega)) [wrap64, R2'.X (n := 2) rfl, hP1, hP2, R3.len]
    refine IteW.mk (fun hlt2 => ?_) (fun hge2 => ?_)
    · have hk2 : k2 < s.procs[i].edges.length := by omega
      have hek := hpi.ee _ (List.getElem_mem hk2)
      obtain ⟨u2, hu2, Ru2⟩ := R3.ld hk2
      have hu2 := hload_le H.base hu2
      change hload _ (some (elp 10 we k2)) (some 10) = some u2 at hu2
      obtain ⟨w1, w2, rfl, ok, G1, G2⟩ := Rep_Ed.1 Ru2
      have hF1 := G1.one
      have hF2 := G2.one
      have hF3 := G1.cells
      have hF4 := G2.cells
      simp -implicitDefEqProofs (disch := first | omega | (simp only [List.length_set, List.length_replicate, List.length_append, List.length_map, List.length_take, List.length_cons, List.length_nil]; omega)) [wrap64, R2'.X (n := 2) rfl, hP1, hP2, R3.X (n := 10) rfl, hu2, Ed.cs, setC, hF1, hF2]
      refine (c_l1SubstB _ ((Rep.gd (w2 := w2) ok G1).on H) (by have := hek.g; omega)).go ?_
      rintro _ h4 ⟨gu, G, hgn⟩
      obtain ⟨wg, rfl, kg1, kg2, G'⟩ := G.unExq
      have hOg := G'.rep.one
      have hCg := G'.rep.cells
      have H := G'.app H
      simp -implicitDefEqProofs (disch := first | omega | (simp only [List.length_set, List.length_replicate, List.length_append, List.length_map, List.length_take, List.length_cons, List.length_nil]; omega)) [wrap64, setC, hF1, hF2, hOg, hCg]
      refine (c_l1SubstB _ ((Rep.vl ok G2).on H) (by have := hek.v; omega)).go ?_
      rintro _ h4 ⟨va, G, hvn⟩
      obtain ⟨wv, rfl, kv1, kv2, G'⟩ := G.unExq
      have hOv := G'.rep.one
      have hCv := G'.rep.cells
      have H := G'.app H
      simp -implicitDefEqProofs (disch := first | omega | (simp only [List.length_set, List.length_replicate, List.length_append, List.length_map, List.length_take, List.length_cons, List.length_nil]; omega)) [wrap64, setC, hF1, hF2, hOg, hCg, hOv, hCv]
      have H := HS.mkEd (e := ⟨s.procs[i].edges[k2].frm, s.procs[i].edges[k2].to, gu, s.procs[i].edges[k2].var, va, s.procs[i].edges[k2].sync⟩) H.sw1 ⟨ok.frm, ok.to, kg1, kg2, ok.var, kv1, kv2, ok.sync⟩
      refine HS.appO (bytes := 112) H rfl rfl rfl rfl rfl (by omega) (by omega) fun we' h7 H => ?_
      simp -implicitDefEqProofs (disch := first | omega | (simp only [List.length_set, List.length_replicate, List.length_append, List.length_map, List.length_take, List.length_cons, List.length_nil]; omega)) [wrap64, setC, H.rep.one, H.rep.cells]
      refine hJ2 _ _ hk2 ⟨_, we', by simp, H, by simp [hesl], ?_⟩
      intro x hx
      simp only [List.mem_append, List.mem_singleton] at hx
      rcases hx with hx | rfl
      · exact hes x hx
      · exact ⟨by have := hek.g; dsimp only; omega, by have := hek.v; dsimp only; omega⟩
    · have hOe := H.rep.one
      have hCe := H.rep.cells
      simp -implicitDefEqProofs (disch := first | omega | (simp only [List.length_set, List.length_replicate, List.length_append, List.length_map, List.length_take, List.length_cons, List.length_nil]; omega)) [wrap64, setC, hOe, hCe, hOw, hCw, hOi, hCi]
      refine HS.appO (bytes := 32) (HS.mkPr (p := ⟨s.procs[i].locs, es⟩) H k1) rfl rfl rfl rfl rfl (by omega) (by omega) fun w' h7 H => ?_
      simp -implicitDefEqProofs (disch := first | omega | (simp only [List.length_set, List.length_replicate, List.length_append, List.length_map, List.length_take, List.length_cons, List.length_nil]; omega)) [wrap64, setC, H.rep.one, H.rep.cells, hOi, hCi]
      refine hJ _ _ hi ⟨_, w', by simp, H, by simp [hpsl], ?_⟩
      intro x hx
      simp only [List.mem_append, List.mem_singleton] at hx
      rcases hx with hx | rfl
      · exact hps x hx
      · exact ⟨by dsimp only; omega, hes⟩
  · simp -implicitDefEqProofs (disch := first | omega | (simp only [List.length_set, List.length_replicate, List.length_append, List.length_map, List.length_take, List.length_cons, List.length_nil]; omega)) [wrap64, setC, hOi, hCi, hOw, hCw]
    exact RetK.keep (hk _ _ ⟨⟨s.init, ps⟩, HS.mkSy (s := ⟨s.init, ps⟩) H.sw1, ⟨hs.il, by dsimp only; omega, hps⟩, by dsimp only; omega⟩)
end Go.Proofs.Ytmpgkijhhocfcaa

/-
  Arguments of laws: changed systems.
-/
namespace Go.Proofs.Ytmpgkijhhocfcaa
open Go
set_option linter.all false
set_option linter.unusedVariables false
set_option linter.unusedSimpArgs false
set_option linter.defProp false
set_option maxRecDepth 1000000

theorem Ed.Sm.le {n m : Nat} {e : Ed} (h : e.Sm n) (hn : n ≤ m) : e.Sm m := ⟨by have := h.g; omega, by have := h.v; omega⟩
theorem Pr.Sm.le {n m : Nat} {p : Pr} (h : p.Sm n) (hn : n ≤ m) : p.Sm m := ⟨by have := h.el; omega, fun e he => (h.ee e he).le hn⟩
theorem Sy.Sm.le {n m : Nat} {s : Sy} (h : s.Sm n) (hn : n ≤ m) : s.Sm m := ⟨by have := h.il; omega, by have := h.pl; omega, fun p hp => (h.pp p hp).le hn⟩
theorem Sy.Sm.set {n : Nat} {s : Sy} (h : s.Sm n) {i : Nat} (hi : i < s.procs.length) (he : 0 < s.procs[i].edges.length) {e : Ed} (hs : e.Sm n) : Sy.Sm n ⟨s.init, s.procs.set i ⟨s.procs[i].locs, s.procs[i].edges.set 0 e⟩⟩ := by
  refine ⟨h.il, by simpa using h.pl, fun p hp => ?_⟩
  rcases List.mem_or_eq_of_mem_set hp with h1 | rfl
  · exact h.pp p h1
  · have h2 := h.pp _ (List.getElem_mem hi)
    refine ⟨by simpa using h2.el, fun x hx => ?_⟩
    rcases List.mem_or_eq_of_mem_set hx with h3 | rfl
    · exact h2.ee x h3
    · exact hs

set_option maxHeartbeats 2000000 in
theorem c_l2Mutate {g h : Heap} {Γ : List HP} {b n : Nat} {sl v : Value} {l : List (BitVec 8)} {p : Int} {s : Sy} (R : Rep g sl l) (Rs : Rep g v s) (hs : s.Sm n) (hn : 40 ≤ n) (hn2 : n ≤ 900) (H : HS g (rb b sl p :: Γ) h) (hp : 0 ≤ p) (hp2 : p + 200 ≤ 1000000000000) :
    CallE Try.prog fn_spec_l2Mutate [.pointer (some ⟨b, 0, none⟩), v] h (fun u h' => ∃ (y : Sy) (p' : Int), HS g (ow u y :: rb b sl p' :: Γ) h' ∧ y.Sm (n + 1) ∧ p ≤ p' ∧ p' ≤ p + 100) := by
  have FS := Rs.aSy
  have Rs0 := Rs
  obtain ⟨v1, v2, rfl, R1, R2'⟩ := Rep_Sy.1 Rs
  have hspl := hs.pl
  refine CallE.gen fun k hk => EN_spec_l2Mutate rfl ?_
  simp -implicitDefEqProofs (disch := first | omega | (simp only [List.length_set, List.length_replicate, List.length_append, List.length_map, List.length_take, List.length_cons, List.length_nil]; omega)) [wrap64, FS]
  refine (c_l2CopyB (Rs0.on H) hs (by omega)).go ?_
  rintro _ h1 ⟨y, G, hyn, hypl⟩
  obtain ⟨wi, w, rfl, G'⟩ := G.unSy
  have H := G'.app H
  have hy := hyn.le (show n ≤ n + 1 by omega)
  have hyil := hyn.il
  have hOi := H.rep.one
  have hCi := H.rep.cells
  have hOw := H.sw1.rep.one
  have hCw := H.sw1.rep.cells
  have hL2 := (R2'.on H).len
  simp -implicitDefEqProofs (disch := first | omega | (simp only [List.length_set, List.length_replicate, List.length_append, List.length_map, List.length_take, List.length_cons, List.length_nil]; omega)) [wrap64, setC, hOi, hCi, hOw, hCw, hL2]
  have H := H.sw2
  refine (c_pick R H (by omega) (by omega) ⟨by omega, by omega⟩).go ?_
  rintro _ h2 ⟨r, rfl, o0, z0, y0, H⟩
  have y0 := y0 (by omega)
  obtain ⟨p1, hp1⟩ : ∃ p1, p1 = p + 1 := ⟨_, rfl⟩
  rw [← hp1] at H
  have hL2 := (R2'.on H).len
  by_cases q0 : r = s.procs.length
  · simp -implicitDefEqProofs (disch := first | omega | (simp only [List.length_set, List.length_replicate, List.length_append, List.length_map, List.length_take, List.length_cons, List.length_nil]; omega)) [wrap64, hL2, q0]
    refine (c_pick (n := 50) R H (by omega) (by omega) ⟨by decide, by decide⟩).go ?_
    rintro _ h3 ⟨r6, rfl, o6, z6, y6, H⟩
    by_cases c0 : r6 = 0
    · simp -implicitDefEqProofs (disch := first | omega | (simp only [List.length_set, List.length_replicate, List.length_append, List.length_map, List.length_take, List.length_cons, List.length_nil]; omega)) [wrap64, c0, setC]
      refine HS.app1 (bytes := 8) H.sw1 (0 : Int) rfl rfl rfl ⟨by decide, by decide⟩ rfl rfl (by omega) (by omega) fun wi' h5 H => ?_
      simp -implicitDefEqProofs (disch := first | omega | (simp only [List.length_set, List.length_replicate, List.length_append, List.length_map, List.length_take, List.length_cons, List.length_nil]; omega)) [wrap64, setC, H.rep.one, H.rep.cells, hOw, hCw]
      exact RetK.keep (hk _ _ ⟨⟨y.init ++ [0], y.procs⟩, _, HS.mkSy (s := ⟨y.init ++ [0], y.procs⟩) (H.under fun _ H => H.sw1), ⟨by have := hyn.il; simp; omega, hy.pl, hy.pp⟩, by omega, by omega⟩)
    by_cases c1 : r6 = 1
    · simp -implicitDefEqProofs (disch := first | omega | (simp only [List.length_set, List.length_replicate, List.length_append, List.length_map, List.length_take, List.length_cons, List.length_nil]; omega)) [wrap64, c0, c1]
      refine H.bls [(0 : Int), 1, 4, 5] rfl rfl (okL (by decide)) (by decide) fun q hq H => ?_
      simp -implicitDefEqProofs (disch := first | omega | (simp only [List.length_set, List.length_replicate, List.length_append, List.length_map, List.length_take, List.length_cons, List.length_nil]; omega)) [wrap64]
      refine (c_num R H (by omega) (by omega) (by simp)).go ?_
      rintro _ h4 ⟨r7, rfl, o7, _, H⟩
      simp -implicitDefEqProofs (disch := first | omega | (simp only [List.length_set, List.length_replicate, List.length_append, List.length_map, List.length_take, List.length_cons, List.length_nil]; omega)) [wrap64, setC]
      have H := HS.mkPr (p := ⟨r7, []⟩) (H.nil_ow (α := Ed)) o7
      refine HS.appO (bytes := 32) (H.sw3.sw1) rfl rfl rfl rfl rfl (by omega) (by omega) fun w' h7 H => ?_
      simp -implicitDefEqProofs (disch := first | omega | (simp only [List.length_set, List.length_replicate, List.length_append, List.length_map, List.length_take, List.length_cons, List.length_nil]; omega)) [wrap64, setC, hOi, hCi, H.rep.one, H.rep.cells]
      refine RetK.keep (hk _ _ ⟨_, _, HS.mkSy (s := ⟨y.init, y.procs ++ [⟨r7, []⟩]⟩) H.sw2, ⟨hy.il, by have := hyn.pl; simp; omega, ?_⟩, by omega, by omega⟩)
      intro x hx
      simp only [List.mem_append, List.mem_singleton] at hx
      rcases hx with hx | rfl
      · exact hy.pp x hx
      · exact ⟨by simp, by simp⟩
    by_cases c2 : r6 = 2
    · simp -implicitDefEqProofs (disch := first | omega | (simp only [List.length_set, List.length_replicate, List.length_append, List.length_map, List.length_take, List.length_cons, List.length_nil]; omega)) [wrap64, c0, c1, c2, setC, hOi, hCi, hOw, hCw]
      exact RetK.keep (hk _ _ ⟨y, _, HS.mkSy H.sw2.sw2, hy, by omega, by omega⟩)
    by_cases c3 : r6 = 3
    · simp -implicitDefEqProofs (disch := first | omega | (simp only [List.length_set, List.length_replicate, List.length_append, List.length_map, List.length_take, List.length_cons, List.length_nil]; omega)) [wrap64, c0, c1, c2, c3, setC, hOi, hCi, hOw, hCw]
      exact RetK.keep (hk _ _ ⟨y, _, HS.mkSy H.sw2.sw2, hy, by omega, by omega⟩)
    by_cases c4 : r6 = 4
    · simp -implicitDefEqProofs (disch := first | omega | (simp only [List.length_set, List.length_replicate, List.length_append, List.length_map, List.length_take, List.length_cons, List.length_nil]; omega)) [wrap64, c0, c1, c2, c3, c4, setC, hOi, hCi, hOw, hCw]
      exact RetK.keep (hk _ _ ⟨y, _, HS.mkSy H.sw2.sw2, hy, by omega, by omega⟩)
    by_cases c5 : r6 = 5
    · simp -implicitDefEqProofs (disch := first | omega | (simp only [List.length_set, List.length_replicate, List.length_append, List.length_map, List.length_take, List.length_cons, List.length_nil]; omega)) [wrap64, c0, c1, c2, c3, c4, c5, setC, hOi, hCi, hOw, hCw]
      exact RetK.keep (hk _ _ ⟨y, _, HS.mkSy H.sw2.sw2, hy, by omega, by omega⟩)
    by_cases c6 : r6 = 6
    · simp -implicitDefEqProofs (disch := first | omega | (simp only [List.length_set, List.length_replicate, List.length_append, List.length_map, List.length_take, List.length_cons, List.length_nil]; omega)) [wrap64, c0, c1, c2, c3, c4, c5, c6, setC]
      exact RetK.keep (hk _ _ ⟨⟨[], []⟩, p1 + 1, HS.mkSy (s := ⟨[], []⟩) (H.sw2.drop.sw1.drop.nil_ow.nil_ow), ⟨by simp, by simp, by simp⟩, by omega, by omega⟩)
    · simp -implicitDefEqProofs (disch := first | omega | (simp only [List.length_set, List.length_replicate, List.length_append, List.length_map, List.length_take, List.length_cons, List.length_nil]; omega)) [wrap64, c0, c1, c2, c3, c4, c5, c6, setC, hOi, hCi, hOw, hCw]
      exact RetK.keep (hk _ _ ⟨y, _, HS.mkSy H.sw2.sw2, hy, by omega, by omega⟩)
  obtain ⟨i, rfl⟩ : ∃ i : Nat, r = i := ⟨r.toNat, (Int.toNat_of_nonneg z0).symm⟩
  have hi : i < y.procs.length := by omega
  have hpi := hyn.pp _ (List.getElem_mem hi)
  obtain ⟨u, hu, Ru⟩ := H.sw2.rep.ld hi
  change hload _ (some (elp 2 w i)) (some 2) = some u at hu
  obtain ⟨we, rfl, kl, R3⟩ := Rep_Pr.1 Ru
  have hP := hld_parts (cs := [.int .i64 y.procs[i].locs, we]) hu
  obtain ⟨ln, hln⟩ : ∃ ln : Int, ln = y.procs[i].edges.length := ⟨_, rfl⟩
  have hlen := R3.len
  rw [← hln] at hlen
  have hX := H.sw2.rep.X (n := 2) rfl
  by_cases q1 : ln = 0
  · simp -implicitDefEqProofs (disch := first | omega | (simp only [List.length_set, List.length_replicate, List.length_append, List.length_map, List.length_take, List.length_cons, List.length_nil]; omega)) [wrap64, hL2, q0, hX, hP.1, hP.2.2.1, hlen, q1]
    refine (c_pick (n := 50) R H (by omega) (by omega) ⟨by decide, by decide⟩).go ?_
    rintro _ h3 ⟨r6, rfl, o6, z6, y6, H⟩
    by_cases c0 : r6 = 0
    · simp -implicitDefEqProofs (disch := first | omega | (simp only [List.length_set, List.length_replicate, List.length_append, List.length_map, List.length_take, List.length_cons, List.length_nil]; omega)) [wrap64, c0, setC]
      refine HS.app1 (bytes := 8) H.sw1 (0 : Int) rfl rfl rfl ⟨by decide, by decide⟩ rfl rfl (by omega) (by omega) fun wi' h5 H => ?_
      simp -implicitDefEqProofs (disch := first | omega | (simp only [List.length_set, List.length_replicate, List.length_append, List.length_map, List.length_take, List.length_cons, List.length_nil]; omega)) [wrap64, setC, H.rep.one, H.rep.cells, hOw, hCw]
      exact RetK.keep (hk _ _ ⟨⟨y.init ++ [0], y.procs⟩, _, HS.mkSy (s := ⟨y.init ++ [0], y.procs⟩) (H.under fun _ H => H.sw1), ⟨by have := hyn.il; simp; omega, hy.pl, hy.pp⟩, by omega, by omega⟩)
    by_cases c1 : r6 = 1
    · simp -implicitDefEqProofs (disch := first | omega | (simp only [List.length_set, List.length_replicate, List.length_append, List.length_map, List.length_take, List.length_cons, List.length_nil]; omega)) [wrap64, c0, c1]
      refine H.bls [(0 : Int), 1, 4, 5] rfl rfl (okL (by decide)) (by decide) fun q hq H => ?_
      simp -implicitDefEqProofs (disch := first | omega | (simp only [List.length_set, List.length_replicate, List.length_append, List.length_map, List.length_take, List.length_cons, List.length_nil]; omega)) [wrap64]
      refine (c_num R H (by omega) (by omega) (by simp)).go ?_
      rintro _ h4 ⟨r7, rfl, o7, _, H⟩
      simp -implicitDefEqProofs (disch := first | omega | (simp only [List.length_set, List.length_replicate, List.length_append, List.length_map, List.length_take, List.length_cons, List.length_nil]; omega)) [wrap64, setC]
      have H := HS.mkPr (p := ⟨r7, []⟩) (H.nil_ow (α := Ed)) o7
      refine HS.appO (bytes := 32) (H.sw3.sw1) rfl rfl rfl rfl rfl (by omega) (by omega) fun w' h7 H => ?_
      simp -implicitDefEqProofs (disch := first | omega | (simp only [List.length_set, List.length_replicate, List.length_append, List.length_map, List.length_take, List.length_cons, List.length_nil]; omega)) [wrap64, setC, hOi, hCi, H.rep.one, H.rep.cells]
      refine RetK.keep (hk _ _ ⟨_, _, HS.mkSy (s := ⟨y.init, y.procs ++ [⟨r7, []⟩]⟩) H.sw2, ⟨hy.il, by have := hyn.pl; simp; omega, ?_⟩, by omega, by omega⟩)
      intro x hx
      simp only [List.mem_append, List.mem_singleton] at hx
      rcases hx with hx | rfl
      · exact hy.pp x hx
      · exact ⟨by simp, by simp⟩
    by_cases c2 : r6 = 2
    · simp -implicitDefEqProofs (disch := first | omega | (simp only [List.length_set, List.length_replicate, List.length_append, List.length_map, List.length_take, List.length_cons, List.length_nil]; omega)) [wrap64, c0, c1, c2, setC, hOi, hCi, hOw, hCw]
      exact RetK.keep (hk _ _ ⟨y, _, HS.mkSy H.sw2.sw2, hy, by omega, by omega⟩)
    by_cases c3 : r6 = 3
    · simp -implicitDefEqProofs (disch := first | omega | (simp only [List.length_set, List.length_replicate, List.length_append, List.length_map, List.length_take, List.length_cons, List.length_nil]; omega)) [wrap64, c0, c1, c2, c3, setC, hOi, hCi, hOw, hCw]
      exact RetK.keep (hk _ _ ⟨y, _, HS.mkSy H.sw2.sw2, hy, by omega, by omega⟩)
    by_cases c4 : r6 = 4
    · simp -implicitDefEqProofs (disch := first | omega | (simp only [List.length_set, List.length_replicate, List.length_append, List.length_map, List.length_take, List.length_cons, List.length_nil]; omega)) [wrap64, c0, c1, c2, c3, c4, setC, hOi, hCi, hOw, hCw]
      exact RetK.keep (hk _ _ ⟨y, _, HS.mkSy H.sw2.sw2, hy, by omega, by omega⟩)
    by_cases c5 : r6 = 5
    · simp -implicitDefEqProofs (disch := first | omega | (simp only [List.length_set, List.length_replicate, List.length_append, List.length_map, List.length_take, List.length_cons, List.length_nil]; omega)) [wrap64, c0, c1, c2, c3, c4, c5, setC, hOi, hCi, hOw, hCw]
      exact RetK.keep (hk _ _ ⟨y, _, HS.mkSy H.sw2.sw2, hy, by omega, by omega⟩)
    by_cases c6 : r6 = 6
    · simp -implicitDefEqProofs (disch := first | omega | (simp only [List.length_set, List.length_replicate, List.length_append, List.length_map, List.length_take, List.length_cons, List.length_nil]; omega)) [wrap64, c0, c1, c2, c3, c4, c5, c6, setC]
      exact RetK.keep (hk _ _ ⟨⟨[], []⟩, p1 + 1, HS.mkSy (s := ⟨[], []⟩) (H.sw2.drop.sw1.drop.nil_ow.nil_ow), ⟨by simp, by simp, by simp⟩, by omega, by omega⟩)
    · simp -implicitDefEqProofs (disch := first | omega | (simp only [List.length_set, List.length_replicate, List.length_append, List.length_map, List.length_take, List.length_cons, List.length_nil]; omega)) [wrap64, c0, c1, c2, c3, c4, c5, c6, setC, hOi, hCi, hOw, hCw]
      exact RetK.keep (hk _ _ ⟨y, _, HS.mkSy H.sw2.sw2, hy, by omega, by omega⟩)
  have he : 0 < y.procs[i].edges.length := by omega
  have hek := hpi.ee _ (List.getElem_mem he)
  have heg : y.procs[i].edges[0].guard.nod ≤ n + 1 := by have := hek.g; omega
  have hev : y.procs[i].edges[0].value.nod ≤ n + 1 := by have := hek.v; omega
  simp -implicitDefEqProofs (disch := first | omega | (simp only [List.length_set, List.length_replicate, List.length_append, List.length_map, List.length_take, List.length_cons, List.length_nil]; omega)) [wrap64, hL2, q0, hX, hP.1, hP.2.2.1, hlen, q1]
  refine (c_pick (n := 50) R H (by omega) (by omega) ⟨by decide, by decide⟩).go ?_
  rintro _ h3 ⟨r6, rfl, o6, z6, y6, H⟩
  by_cases c0 : r6 = 0
  · simp -implicitDefEqProofs (disch := first | omega | (simp only [List.length_set, List.length_replicate, List.length_append, List.length_map, List.length_take, List.length_cons, List.length_nil]; omega)) [wrap64, c0, setC]
    refine HS.app1 (bytes := 8) H.sw1 (0 : Int) rfl rfl rfl ⟨by decide, by decide⟩ rfl rfl (by omega) (by omega) fun wi' h5 H => ?_
    simp -implicitDefEqProofs (disch := first | omega | (simp only [List.length_set, List.length_replicate, List.length_append, List.length_map, List.length_take, List.length_cons, List.length_nil]; omega)) [wrap64, setC, H.rep.one, H.rep.cells, hOw, hCw]
    exact RetK.keep (hk _ _ ⟨⟨y.init ++ [0], y.procs⟩, _, HS.mkSy (s := ⟨y.init ++ [0], y.procs⟩) (H.under fun _ H => H.sw1), ⟨by have := hyn.il; simp; omega, hy.pl, hy.pp⟩, by omega, by omega⟩)
  by_cases c1 : r6 = 1
  · simp -implicitDefEqProofs (disch := first | omega | (simp only [List.length_set, List.length_replicate, List.length_append, List.length_map, List.length_take, List.length_cons, List.length_nil]; omega)) [wrap64, c0, c1]
    refine H.bls [(0 : Int), 1, 4, 5] rfl rfl (okL (by decide)) (by decide) fun q hq H => ?_
    simp -implicitDefEqProofs (disch := first | omega | (simp only [List.length_set, List.length_replicate, List.length_append, List.length_map, List.length_take, List.length_cons, List.length_nil]; omega)) [wrap64]
    refine (c_num R H (by omega) (by omega) (by simp)).go ?_
    rintro _ h4 ⟨r7, rfl, o7, _, H⟩
    simp -implicitDefEqProofs (disch := first | omega | (simp only [List.length_set, List.length_replicate, List.length_append, List.length_map, List.length_take, List.length_cons, List.length_nil]; omega)) [wrap64, setC]
    have H := HS.mkPr (p := ⟨r7, []⟩) (H.nil_ow (α := Ed)) o7
    refine HS.appO (bytes := 32) (H.sw3.sw1) rfl rfl rfl rfl rfl (by omega) (by omega) fun w' h7 H => ?_
    simp -implicitDefEqProofs (disch := first | omega | (simp only [List.length_set, List.length_replicate, List.length_append, List.length_map, List.length_take, List.length_cons, List.length_nil]; omega)) [wrap64, setC, hOi, hCi, H.rep.one, H.rep.cells]
    refine RetK.keep (hk _ _ ⟨_, _, HS.mkSy (s := ⟨y.init, y.procs ++ [⟨r7, []⟩]⟩) H.sw2, ⟨hy.il, by have := hyn.pl; simp; omega, ?_⟩, by omega, by omega⟩)
    intro x hx
    simp only [List.mem_append, List.mem_singleton] at hx
    rcases hx with hx | rfl
    · exact hy.pp x hx
    · exact ⟨by simp, by simp⟩
  by_cases c2 : r6 = 2
  · have H := H.sw2
    obtain ⟨uP, huP, H⟩ := HS.take H hi
    obtain ⟨we, rfl, kl, H⟩ := H.unPr
    obtain ⟨uE, huE, H⟩ := HS.take H he
    obtain ⟨x1, x2, rfl, ok, H⟩ := H.unEd
    have hiaP := HS.holeia H.sw3 (n := 2) (kd := .i64) rfl hi
    have hPP := hld_parts (cs := [.int .i64 y.procs[i].locs, we]) (HS.holeP H.sw3 (n := 2) rfl rfl)
    have hiaE : iaV 10 we (.int .i64 0) = some (elp 10 we 0) := HS.holeia H.sw2 (n := 10) (kd := .i64) rfl he
    have H := H.sw4
    simp -implicitDefEqProofs (disch := first | omega | (simp only [List.length_set, List.length_replicate, List.length_append, List.length_map, List.length_take, List.length_cons, List.length_nil]; omega)) [wrap64, c0, c1, c2, hiaP, hPP.1, hPP.2.2.1, hiaE]
    refine (c_l1Expr R H (by omega) (by omega)).go ?_
    rintro _ h4 ⟨e1, p3, H, hen, hp5, hp6⟩
    have FA := H.rep.aExq
    have hPP := hld_parts (cs := [.int .i64 y.procs[i].locs, we]) (HS.holeP H.sw5 (n := 2) rfl rfl)
    simp -implicitDefEqProofs (disch := first | omega | (simp only [List.length_set, List.length_replicate, List.length_append, List.length_map, List.length_take, List.length_cons, List.length_nil]; omega)) [wrap64, hiaP, hPP.1, hPP.2.2.1, hiaE, FA]
    obtain ⟨g1, H1, H2⟩ := HS.rebase (Δ := [rb b sl p3]) H.sw1
    refine (c_l1Mutate (R.on H1) H1.rep (by omega) H2 (by omega) (by omega)).go ?_
    rintro _ h5 ⟨y2, p4, H3, hyn, hp7, hp8⟩
    have H := H3.app H1
    obtain ⟨w2, rfl, k3, k4, H⟩ := H.unExq
    have hO2 := H.rep.one
    have hPP := hld_parts (cs := [.int .i64 y.procs[i].locs, we]) (HS.holeP H.sw6 (n := 2) rfl rfl)
    have hPE := hld_parts (HS.holeP H.sw5 (n := 10) rfl rfl)
    simp -implicitDefEqProofs (disch := first | omega | (simp only [List.length_set, List.length_replicate, List.length_append, List.length_map, List.length_take, List.length_cons, List.length_nil]; omega)) [wrap64, hiaP, hPP.1, hPP.2.2.1, hiaE, hPE.1]
    refine HS.holest H.sw5 rfl (n := 10) rfl rfl rfl rfl (by simp [hO2]) (by decide) fun h5 H => ?_
    have H : HS g (hole we y.procs[i].edges 0 (.agg (Ed.cs ⟨y.procs[i].edges[0].frm, y.procs[i].edges[0].to, y2, y.procs[i].edges[0].var, y.procs[i].edges[0].value, y.procs[i].edges[0].sync⟩ w2 x2).toArray) :: ow w2 y2.kids :: rb b sl p4 :: ow _ e1 :: ow x1 y.procs[i].edges[0].guard.kids :: ow x2 y.procs[i].edges[0].value.kids :: hole w y.procs i (.agg #[.int .i64 y.procs[i].locs, we]) :: ow wi y.init :: Γ) h5 := H
    have H := HS.put (HS.mkEd (e := ⟨y.procs[i].edges[0].frm, y.procs[i].edges[0].to, y2, y.procs[i].edges[0].var, y.procs[i].edges[0].value, y.procs[i].edges[0].sync⟩) H.sw5.sw2 ⟨ok.frm, ok.to, k3, k4, ok.var, ok.vk, ok.vv, ok.sync⟩)
    have H := HS.put ((HS.mkPr (p := ⟨y.procs[i].locs, y.procs[i].edges.set 0 ⟨y.procs[i].edges[0].frm, y.procs[i].edges[0].to, y2, y.procs[i].edges[0].var, y.procs[i].edges[0].value, y.procs[i].edges[0].sync⟩⟩) H kl).under fun _ H => H.sw3)
    have hOi := H.sw4.rep.one
    have hCi := H.sw4.rep.cells
    have hOw := H.rep.one
    have hCw := H.rep.cells
    simp -implicitDefEqProofs (disch := first | omega | (simp only [List.length_set, List.length_replicate, List.length_append, List.length_map, List.length_take, List.length_cons, List.length_nil]; omega)) [wrap64, setC, hOi, hCi, hOw, hCw]
    exact RetK.keep (hk _ _ ⟨_, _, (HS.mkSy (s := ⟨y.init, y.procs.set i ⟨y.procs[i].locs, y.procs[i].edges.set 0 ⟨y.procs[i].edges[0].frm, y.procs[i].edges[0].to, y2, y.procs[i].edges[0].var, y.procs[i].edges[0].value, y.procs[i].edges[0].sync⟩⟩⟩) H.sw4).sw3.drop.sw2.drop, Sy.Sm.set hy hi he ⟨by first | omega | (dsimp only; omega), hev⟩, by omega, by omega⟩)
  by_cases c3 : r6 = 3
  · have H := H.sw2
    obtain ⟨uP, huP, H⟩ := HS.take H hi
    obtain ⟨we, rfl, kl, H⟩ := H.unPr
    obtain ⟨uE, huE, H⟩ := HS.take H he
    obtain ⟨x1, x2, rfl, ok, H⟩ := H.unEd
    have hiaP := HS.holeia H.sw3 (n := 2) (kd := .i64) rfl hi
    have hPP := hld_parts (cs := [.int .i64 y.procs[i].locs, we]) (HS.holeP H.sw3 (n := 2) rfl rfl)
    have hiaE : iaV 10 we (.int .i64 0) = some (elp 10 we 0) := HS.holeia H.sw2 (n := 10) (kd := .i64) rfl he
    simp -implicitDefEqProofs (disch := first | omega | (simp only [List.length_set, List.length_replicate, List.length_append, List.length_map, List.length_take, List.length_cons, List.length_nil]; omega)) [wrap64, c0, c1, c2, c3, hiaP, hPP.1, hPP.2.2.1, hiaE]
    refine H.bls [(-1 : Int), 3, 0, -2] rfl rfl (okL (by decide)) (by decide) fun q hq H => ?_
    have H := H.sw5.sw1
    have hPP := hld_parts (cs := [.int .i64 y.procs[i].locs, we]) (HS.holeP H.sw5 (n := 2) rfl rfl)
    simp -implicitDefEqProofs (disch := first | omega | (simp only [List.length_set, List.length_replicate, List.length_append, List.length_map, List.length_take, List.length_cons, List.length_nil]; omega)) [wrap64, hiaP, hPP.1, hPP.2.2.1, hiaE]
    refine (c_num R H (by omega) (by omega) (by simp)).go ?_
    rintro _ h4 ⟨r7, rfl, o7, _, H⟩
    have hPP := hld_parts (cs := [.int .i64 y.procs[i].locs, we]) (HS.holeP H.sw4 (n := 2) rfl rfl)
    have hPE := hld_parts (HS.holeP H.sw3 (n := 10) rfl rfl)
    simp -implicitDefEqProofs (disch := first | omega | (simp only [List.length_set, List.length_replicate, List.length_append, List.length_map, List.length_take, List.length_cons, List.length_nil]; omega)) [wrap64, hiaP, hPP.1, hPP.2.2.1, hiaE, hPE.1]
    refine HS.holest H.sw3 rfl (n := 10) rfl rfl rfl rfl rfl (by decide) fun h5 H => ?_
    have H : HS g (hole we y.procs[i].edges 0 (.agg (Ed.cs ⟨y.procs[i].edges[0].frm, y.procs[i].edges[0].to, y.procs[i].edges[0].guard, r7, y.procs[i].edges[0].value, y.procs[i].edges[0].sync⟩ x1 x2).toArray) :: rb b sl (p1 + 1 + 1) :: ow x1 y.procs[i].edges[0].guard.kids :: ow x2 y.procs[i].edges[0].value.kids :: hole w y.procs i (.agg #[.int .i64 y.procs[i].locs, we]) :: ow wi y.init :: Γ) h5 := H
    have H := HS.put (HS.mkEd (e := ⟨y.procs[i].edges[0].frm, y.procs[i].edges[0].to, y.procs[i].edges[0].guard, r7, y.procs[i].edges[0].value, y.procs[i].edges[0].sync⟩) H.sw3.sw3 ⟨ok.frm, ok.to, ok.gk, ok.gv, o7, ok.vk, ok.vv, ok.sync⟩)
    have H := HS.put ((HS.mkPr (p := ⟨y.procs[i].locs, y.procs[i].edges.set 0 ⟨y.procs[i].edges[0].frm, y.procs[i].edges[0].to, y.procs[i].edges[0].guard, r7, y.procs[i].edges[0].value, y.procs[i].edges[0].sync⟩⟩) H kl).under fun _ H => H.sw1)
    have hOi := H.sw2.rep.one
    have hCi := H.sw2.rep.cells
    have hOw := H.rep.one
    have hCw := H.rep.cells
    simp -implicitDefEqProofs (disch := first | omega | (simp only [List.length_set, List.length_replicate, List.length_append, List.length_map, List.length_take, List.length_cons, List.length_nil]; omega)) [wrap64, setC, hOi, hCi, hOw, hCw]
    exact RetK.keep (hk _ _ ⟨_, _, HS.mkSy (s := ⟨y.init, y.procs.set i ⟨y.procs[i].locs, y.procs[i].edges.set 0 ⟨y.procs[i].edges[0].frm, y.procs[i].edges[0].to, y.procs[i].edges[0].guard, r7, y.procs[i].edges[0].value, y.procs[i].edges[0].sync⟩⟩⟩) H.sw2, Sy.Sm.set hy hi he ⟨heg, hev⟩, by omega, by omega⟩)
  by_cases c4 : r6 = 4
  · have H := H.sw2
    obtain ⟨uP, huP, H⟩ := HS.take H hi
    obtain ⟨we, rfl, kl, H⟩ := H.unPr
    obtain ⟨uE, huE, H⟩ := HS.take H he
    obtain ⟨x1, x2, rfl, ok, H⟩ := H.unEd
    have hiaP := HS.holeia H.sw3 (n := 2) (kd := .i64) rfl hi
    have hPP := hld_parts (cs := [.int .i64 y.procs[i].locs, we]) (HS.holeP H.sw3 (n := 2) rfl rfl)
    have hiaE : iaV 10 we (.int .i64 0) = some (elp 10 we 0) := HS.holeia H.sw2 (n := 10) (kd := .i64) rfl he
    simp -implicitDefEqProofs (disch := first | omega | (simp only [List.length_set, List.length_replicate, List.length_append, List.length_map, List.length_take, List.length_cons, List.length_nil]; omega)) [wrap64, c0, c1, c2, c3, c4, hiaP, hPP.1, hPP.2.2.1, hiaE]
    refine H.bls [(3 : Int), -3, 2, -9223372036854775808] rfl rfl (okL (by decide)) (by decide) fun q hq H => ?_
    have H := H.sw5.sw1
    have hPP := hld_parts (cs := [.int .i64 y.procs[i].locs, we]) (HS.holeP H.sw5 (n := 2) rfl rfl)
    simp -implicitDefEqProofs (disch := first | omega | (simp only [List.length_set, List.length_replicate, List.length_append, List.length_map, List.length_take, List.length_cons, List.length_nil]; omega)) [wrap64, hiaP, hPP.1, hPP.2.2.1, hiaE]
    refine (c_num R H (by omega) (by omega) (by simp)).go ?_
    rintro _ h4 ⟨r7, rfl, o7, _, H⟩
    have hPP := hld_parts (cs := [.int .i64 y.procs[i].locs, we]) (HS.holeP H.sw4 (n := 2) rfl rfl)
    have hPE := hld_parts (HS.holeP H.sw3 (n := 10) rfl rfl)
    simp -implicitDefEqProofs (disch := first | omega | (simp only [List.length_set, List.length_replicate, List.length_append, List.length_map, List.length_take, List.length_cons, List.length_nil]; omega)) [wrap64, hiaP, hPP.1, hPP.2.2.1, hiaE, hPE.1]
    refine HS.holest H.sw3 rfl (n := 10) rfl rfl rfl rfl rfl (by decide) fun h5 H => ?_
    have H : HS g (hole we y.procs[i].edges 0 (.agg (Ed.cs ⟨y.procs[i].edges[0].frm, y.procs[i].edges[0].to, y.procs[i].edges[0].guard, y.procs[i].edges[0].var, y.procs[i].edges[0].value, r7⟩ x1 x2).toArray) :: rb b sl (p1 + 1 + 1) :: ow x1 y.procs[i].edges[0].guard.kids :: ow x2 y.procs[i].edges[0].value.kids :: hole w y.procs i (.agg #[.int .i64 y.procs[i].locs, we]) :: ow wi y.init :: Γ) h5 := H
    have H := HS.put (HS.mkEd (e := ⟨y.procs[i].edges[0].frm, y.procs[i].edges[0].to, y.procs[i].edges[0].guard, y.procs[i].edges[0].var, y.procs[i].edges[0].value, r7⟩) H.sw3.sw3 ⟨ok.frm, ok.to, ok.gk, ok.gv, ok.var, ok.vk, ok.vv, o7⟩)
    have H := HS.put ((HS.mkPr (p := ⟨y.procs[i].locs, y.procs[i].edges.set 0 ⟨y.procs[i].edges[0].frm, y.procs[i].edges[0].to, y.procs[i].edges[0].guard, y.procs[i].edges[0].var, y.procs[i].edges[0].value, r7⟩⟩) H kl).under fun _ H => H.sw1)
    have hOi := H.sw2.rep.one
    have hCi := H.sw2.rep.cells
    have hOw := H.rep.one
    have hCw := H.rep.cells
    simp -implicitDefEqProofs (disch := first | omega | (simp only [List.length_set, List.length_replicate, List.length_append, List.length_map, List.length_take, List.length_cons, List.length_nil]; omega)) [wrap64, setC, hOi, hCi, hOw, hCw]
    exact RetK.keep (hk _ _ ⟨_, _, HS.mkSy (s := ⟨y.init, y.procs.set i ⟨y.procs[i].locs, y.procs[i].edges.set 0 ⟨y.procs[i].edges[0].frm, y.procs[i].edges[0].to, y.procs[i].edges[0].guard, y.procs[i].edges[0].var, y.procs[i].edges[0].value, r7⟩⟩⟩) H.sw2, Sy.Sm.set hy hi he ⟨heg, hev⟩, by omega, by omega⟩)
  by_cases c5 : r6 = 5
  · have H := H.sw2
    obtain ⟨uP, huP, H⟩ := HS.take H hi
    obtain ⟨we, rfl, kl, H⟩ := H.unPr
    obtain ⟨uE, huE, H⟩ := HS.take H he
    obtain ⟨x1, x2, rfl, ok, H⟩ := H.unEd
    have hiaP := HS.holeia H.sw3 (n := 2) (kd := .i64) rfl hi
    have hPP := hld_parts (cs := [.int .i64 y.procs[i].locs, we]) (HS.holeP H.sw3 (n := 2) rfl rfl)
    have hiaE : iaV 10 we (.int .i64 0) = some (elp 10 we 0) := HS.holeia H.sw2 (n := 10) (kd := .i64) rfl he
    simp -implicitDefEqProofs (disch := first | omega | (simp only [List.length_set, List.length_replicate, List.length_append, List.length_map, List.length_take, List.length_cons, List.length_nil]; omega)) [wrap64, c0, c1, c2, c3, c4, c5, hiaP, hPP.1, hPP.2.2.1, hiaE]
    refine H.bls [(-1 : Int), 4, 0, 9223372036854775807] rfl rfl (okL (by decide)) (by decide) fun q hq H => ?_
    have H := H.sw5.sw1
    have hPP := hld_parts (cs := [.int .i64 y.procs[i].locs, we]) (HS.holeP H.sw5 (n := 2) rfl rfl)
    simp -implicitDefEqProofs (disch := first | omega | (simp only [List.length_set, List.length_replicate, List.length_append, List.length_map, List.length_take, List.length_cons, List.length_nil]; omega)) [wrap64, hiaP, hPP.1, hPP.2.2.1, hiaE]
    refine (c_num R H (by omega) (by omega) (by simp)).go ?_
    rintro _ h4 ⟨r7, rfl, o7, _, H⟩
    have hPP := hld_parts (cs := [.int .i64 y.procs[i].locs, we]) (HS.holeP H.sw4 (n := 2) rfl rfl)
    have hPE := hld_parts (HS.holeP H.sw3 (n := 10) rfl rfl)
    simp -implicitDefEqProofs (disch := first | omega | (simp only [List.length_set, List.length_replicate, List.length_append, List.length_map, List.length_take, List.length_cons, List.length_nil]; omega)) [wrap64, hiaP, hPP.1, hPP.2.2.1, hiaE, hPE.1]
    refine HS.holest H.sw3 rfl (n := 10) rfl rfl rfl rfl rfl (by decide) fun h5 H => ?_
    have H : HS g (hole we y.procs[i].edges 0 (.agg (Ed.cs ⟨y.procs[i].edges[0].frm, r7, y.procs[i].edges[0].guard, y.procs[i].edges[0].var, y.procs[i].edges[0].value, y.procs[i].edges[0].sync⟩ x1 x2).toArray) :: rb b sl (p1 + 1 + 1) :: ow x1 y.procs[i].edges[0].guard.kids :: ow x2 y.procs[i].edges[0].value.kids :: hole w y.procs i (.agg #[.int .i64 y.procs[i].locs, we]) :: ow wi y.init :: Γ) h5 := H
    have H := HS.put (HS.mkEd (e := ⟨y.procs[i].edges[0].frm, r7, y.procs[i].edges[0].guard, y.procs[i].edges[0].var, y.procs[i].edges[0].value, y.procs[i].edges[0].sync⟩) H.sw3.sw3 ⟨ok.frm, o7, ok.gk, ok.gv, ok.var, ok.vk, ok.vv, ok.sync⟩)
    have H := HS.put ((HS.mkPr (p := ⟨y.procs[i].locs, y.procs[i].edges.set 0 ⟨y.procs[i].edges[0].frm, r7, y.procs[i].edges[0].guard, y.procs[i].edges[0].var, y.procs[i].edges[0].value, y.procs[i].edges[0].sync⟩⟩) H kl).under fun _ H => H.sw1)
    have hOi := H.sw2.rep.one
    have hCi := H.sw2.rep.cells
    have hOw := H.rep.one
    have hCw := H.rep.cells
    simp -implicitDefEqProofs (disch := first | omega | (simp only [List.length_set, List.length_replicate, List.length_append, List.length_map, List.length_take, List.length_cons, List.length_nil]; omega)) [wrap64, setC, hOi, hCi, hOw, hCw]
    exact RetK.keep (hk _ _ ⟨_, _, HS.mkSy (s := ⟨y.init, y.procs.set i ⟨y.procs[i].locs, y.procs[i].edges.set 0 ⟨y.procs[i].edges[0].frm, r7, y.procs[i].edges[0].guard, y.procs[i].edges[0].var, y.procs[i].edges[0].value, y.procs[i].edges[0].sync⟩⟩⟩) H.sw2, Sy.Sm.set hy hi he ⟨heg, hev⟩, by omega, by omega⟩)
  by_cases c6 : r6 = 6
  · simp -implicitDefEqProofs (disch := first | omega | (simp only [List.length_set, List.length_replicate, List.length_append, List.length_map, List.length_take, List.length_cons, List.length_nil]; omega)) [wrap64, c0, c1, c2, c3, c4, c5, c6, setC]
    exact RetK.keep (hk _ _ ⟨⟨[], []⟩, p1 + 1, HS.mkSy (s := ⟨[], []⟩) (H.sw2.drop.sw1.drop.nil_ow.nil_ow), ⟨by simp, by simp, by simp⟩, by omega, by omega⟩)
  · simp -implicitDefEqProofs (disch := first | omega | (simp only [List.length_set, List.length_replicate, List.length_append, List.length_map, List.length_take, List.length_cons, List.length_nil]; omega)) [wrap64, c0, c1, c2, c3, c4, c5, c6, setC, hOi, hCi, hOw, hCw]
    exact RetK.keep (hk _ _ ⟨y, _, HS.mkSy H.sw2.sw2, hy, by omega, by omega⟩)
end Go.Proofs.Ytmpgkijhhocfcaa

/-
  Arguments of laws: systems with expressions, with numbers; slices that are written out with elements that are only read.
-/
namespace Go.Proofs.Ytmpgkijhhocfcaa
open Go
set_option linter.all false
set_option linter.unusedVariables false
set_option linter.unusedSimpArgs false
set_option linter.defProp false
set_option maxRecDepth 1000000

def RDe (h : Heap) : Value → Heap → Prop := fun u h' => ∃ (u1 u2 : Value) (s : Sy) (e : Exq), u = .tuple #[u1, u2] ∧ HS h [ow u1 s, ow u2 e] h'
theorem c_DrawDeadEdges {h : Heap} {v : Value} {l : List (BitVec 8)} (R : Rep h v l) : CallE Try.prog fn_spec_DrawDeadEdges [v] h (fun u h' => ∃ (u1 : Value) (s : Sy) (n : Int), u = .tuple #[u1, .int .i64 n] ∧ I64 n ∧ HS h [ow u1 s] h') := by
  refine CallE.gen fun k hk => EN_spec_DrawDeadEdges rfl ?_
  simp -implicitDefEqProofs (disch := first | omega | (simp only [List.length_set, List.length_replicate, List.length_append, List.length_map, List.length_take, List.length_cons, List.length_nil]; omega)) [wrap64]
  refine (c_l16Open R).go ?_
  rintro _ h1 ⟨b, sl, l', rfl, R', H⟩
  simp -implicitDefEqProofs (disch := first | omega | (simp only [List.length_set, List.length_replicate, List.length_append, List.length_map, List.length_take, List.length_cons, List.length_nil]; omega)) [wrap64]
  refine (c_l2System R' H (by omega) (by omega)).go ?_
  rintro u h2 ⟨s, p1, H, hs, hp1, hp2⟩
  have FS := H.rep.aSy
  simp -implicitDefEqProofs (disch := first | omega | (simp only [List.length_set, List.length_replicate, List.length_append, List.length_map, List.length_take, List.length_cons, List.length_nil]; omega)) [wrap64, FS]
  obtain ⟨g1, H1, H2⟩ := HS.rebase (Δ := [rb b sl p1]) H.sw1
  refine (c_l2Mutate (R'.on H1) H1.rep hs (by omega) (by omega) H2 (by omega) (by omega)).go ?_
  rintro x h3 ⟨y, p2, H3, hy, hp3, hp4⟩
  have H := H3.app H1
  have FY := H.rep.aSy
  simp -implicitDefEqProofs (disch := first | omega | (simp only [List.length_set, List.length_replicate, List.length_append, List.length_map, List.length_take, List.length_cons, List.length_nil]; omega)) [wrap64, FY, setC]
  refine H.bls [(0 : Int), 1, 0, 2, -1, 3] rfl rfl (okL (by decide)) (by decide) fun q hq H => ?_
  simp -implicitDefEqProofs (disch := first | omega | (simp only [List.length_set, List.length_replicate, List.length_append, List.length_map, List.length_take, List.length_cons, List.length_nil]; omega)) [wrap64]
  refine (c_num R' (H.under fun _ H => H.sw1) (by omega) (by omega) (by simp)).go ?_
  rintro _ h4 ⟨r1, rfl, o1, _, H⟩
  simp -implicitDefEqProofs (disch := first | omega | (simp only [List.length_set, List.length_replicate, List.length_append, List.length_map, List.length_take, List.length_cons, List.length_nil]; omega)) [wrap64, FY, setC]
  exact RetK.keep (hk _ _ ⟨x, y, r1, rfl, o1, H.sw1.only⟩)
end Go.Proofs.Ytmpgkijhhocfcaa

/-
  Instances of functions over slices: copies, and whether some element meets a condition. Printed by a program.
-/
namespace Go.Proofs.Ytmpgkijhhocfcaa
open Go
set_option linter.all false
set_option linter.unusedVariables false
set_option linter.unusedSimpArgs false
set_option linter.defProp false
set_option maxRecDepth 1000000

theorem c_Clone_int {h : Heap} {a : Value} {x : List (Int)} (Ra : Rep h a x) (hs : x.length ≤ 1073741824) : CallE Try.prog fn_slices_Clone_S_int_int [a] h (fun v h' => HS h [ow v x] h') := by
  refine CallE.gen fun k hk => EN_slices_Clone_S_int_int rfl ?_
  obtain ⟨b, hb, hb2⟩ := Ra.isNil
  simp -implicitDefEqProofs (disch := first | omega | (simp only [List.length_set, List.length_replicate, List.length_append, List.length_map, List.length_take, List.length_cons, List.length_nil]; omega)) [wrap64, hb]
  refine IteW.mk (fun h1 => ?_) (fun h1 => ?_)
  · simp -implicitDefEqProofs (disch := first | omega | (simp only [List.length_set, List.length_replicate, List.length_append, List.length_map, List.length_take, List.length_cons, List.length_nil]; omega)) [wrap64]
    have h2 : x = [] := hb2 h1
    subst h2
    exact RetK.keep (hk _ _ HS.init.nil_ow)
  · simp -implicitDefEqProofs (disch := first | omega | (simp only [List.length_set, List.length_replicate, List.length_append, List.length_map, List.length_take, List.length_cons, List.length_nil]; omega)) [wrap64]
    refine HS.init.appPL (α := Int) (l2 := x) (u := a) rfl rfl Ra rfl rfl (by omega) fun v h1 H => ?_
    simp -implicitDefEqProofs (disch := first | omega | (simp only [List.length_set, List.length_replicate, List.length_append, List.length_map, List.length_take, List.length_cons, List.length_nil]; omega)) [wrap64]
    exact RetK.keep (hk _ _ H)

theorem c_Clip_int {g h : Heap} {Γ : List HP} {a : Value} {x : List (Int)} (H : HS g (ow a x :: Γ) h) : CallE Try.prog fn_slices_Clip_S_int_int [a] h (fun v h' => HS g (ow v x :: Γ) h') := by
  refine CallE.gen fun k hk => EN_slices_Clip_S_int_int rfl ?_
  obtain ⟨v', h1, h2⟩ := H.clip (esz := 1) (k := .i64)
  simp -implicitDefEqProofs (disch := first | omega | (simp only [List.length_set, List.length_replicate, List.length_append, List.length_map, List.length_take, List.length_cons, List.length_nil]; omega)) [wrap64, H.rep.I, h1]
  exact RetK.keep (hk _ _ h2)

theorem c_clone_int {h : Heap} {a : Value} {x : List (Int)} (Ra : Rep h a x) (hs : x.length ≤ 1073741824) : CallE Try.prog fn_impl_clone_int [a] h (fun v h' => HS h [ow v x] h') := by
  refine CallE.gen fun k hk => EN_impl_clone_int rfl ?_
  simp -implicitDefEqProofs (disch := first | omega | (simp only [List.length_set, List.length_replicate, List.length_append, List.length_map, List.length_take, List.length_cons, List.length_nil]; omega)) [wrap64]
  refine (c_Clone_int Ra hs).go ?_
  intro v h1 H
  simp -implicitDefEqProofs (disch := first | omega | (simp only [List.length_set, List.length_replicate, List.length_append, List.length_map, List.length_take, List.length_cons, List.length_nil]; omega)) [wrap64]
  refine (c_Clip_int H).go ?_
  intro v' h2 H
  simp -implicitDefEqProofs (disch := first | omega | (simp only [List.length_set, List.length_replicate, List.length_append, List.length_map, List.length_take, List.length_cons, List.length_nil]; omega)) [wrap64]
  exact RetK.keep (hk _ _ H)

end Go.Proofs.Ytmpgkijhhocfcaa

/-
  States of systems; projections of states: by the program and by the reference.
-/
namespace Go.Proofs.Ytmpgkijhhocfcaa
open Go
set_option linter.all false
set_option linter.unusedVariables false
set_option linter.unusedSimpArgs false
set_option linter.defProp false
set_option maxRecDepth 1000000

/-- a state of a system -/
structure Sta.Ok (s : Sy) (st : Sta) : Prop where
  len : st.locs.length = s.procs.length
  vs : VOk st.vals
  lc : ∀ (i : Nat) (h1 : i < st.locs.length) (h2 : i < s.procs.length), 0 ≤ st.locs[i] ∧ st.locs[i] < s.procs[i].locs
noncomputable instance instDecStaOk {s : Sy} {st : Sta} : Decidable (st.Ok s) := Classical.propDecidable _

theorem c_has {h : Heap} {v w : Value} {s : Sy} {st : Sta} (hs : s.Ok) (R : Rep h v s) (Rt : Rep h w st) : CallE Try.prog fn_impl_System_has [v, w] h (fun u h' => h.le h' ∧ u = .bool (decide (st.Ok s))) := by
  obtain ⟨v1, v2, rfl, R1, R2⟩ := Rep_Sy.1 R
  obtain ⟨w1, w2, rfl, T1, T2⟩ := Rep_Sta.1 Rt
  have hL1 := R2.lt
  have hL2 := T1.lt
  refine CallE.gen fun k hk => EN_impl_System_has rfl ?_
  have hno : ∀ {h'}, h.le h' → ¬ st.Ok s → k (.bool false) h' := fun hl hh => hk _ _ ⟨hl, by rw [decide_eq_false hh]⟩
  by_cases q1 : (st.locs.length : Int) = s.procs.length
  case neg => simp -implicitDefEqProofs (disch := first | omega | (simp only [List.length_set, List.length_replicate, List.length_append, List.length_map, List.length_take, List.length_cons, List.length_nil]; omega)) [wrap64, T1.len, R2.len, q1]; exact RetK.keep (hno (Heap.le.refl _) fun hh => q1 (by rw [hh.len]))
  simp -implicitDefEqProofs (disch := first | omega | (simp only [List.length_set, List.length_replicate, List.length_append, List.length_map, List.length_take, List.length_cons, List.length_nil]; omega)) [wrap64, T1.len, R2.len, q1]
  refine (c_valsOk T2).go ?_
  rintro _ h1 ⟨l1, rfl⟩
  by_cases q2 : VOk st.vals
  case neg => simp -implicitDefEqProofs (disch := first | omega | (simp only [List.length_set, List.length_replicate, List.length_append, List.length_map, List.length_take, List.length_cons, List.length_nil]; omega)) [wrap64, q2]; exact RetK.keep (hno l1 fun hh => q2 hh.vs)
  have T1' := T1.le l1
  have R2' := R2.le l1
  simp -implicitDefEqProofs (disch := first | omega | (simp only [List.length_set, List.length_replicate, List.length_append, List.length_map, List.length_take, List.length_cons, List.length_nil]; omega)) [wrap64, q2, T1'.len]
  refine wp_count st.locs.length (fun i e h' => e = [none, none, some (.agg #[v1, v2]), none, none, none, none, some w1, some (.int .i64 st.locs.length), some (.int .i64 i)] ∧ h' = h1 ∧ ∀ (j : Nat) (a : j < st.locs.length) (b : j < s.procs.length), j < i → 0 ≤ st.locs[j] ∧ st.locs[j] < s.procs[j].locs) ⟨by simp [q1], rfl, fun j _ _ hj => absurd hj (Nat.not_lt_zero j)⟩ ?_
  rintro J i _ h2 hJ hi ⟨rfl, rfl, hall⟩
  simp -implicitDefEqProofs (disch := first | omega | (simp only [List.length_set, List.length_replicate, List.length_append, List.length_map, List.length_take, List.length_cons, List.length_nil]; omega)) [wrap64]
  refine IteW.mk (fun hlt => ?_) (fun hge => ?_)
  · have hlx : i < st.locs.length := by omega
    have hlp : i < s.procs.length := by omega
    obtain ⟨u, hu, Ru⟩ := R2'.ld hlp
    change hload _ (some (elp 2 v2 i)) (some 2) = some u at hu
    obtain ⟨we, rfl, k1, R3⟩ := Rep_Pr.1 Ru
    have hP := hld_parts hu
    have hp1 := (hs.at hlp).n1
    have hp4 := (hs.at hlp).n4
    simp -implicitDefEqProofs (disch := first | omega | (simp only [List.length_set, List.length_replicate, List.length_append, List.length_map, List.length_take, List.length_cons, List.length_nil]; omega)) [wrap64, T1'.I, R2'.X (n := 2) rfl, hP.1, hP.2.2.1]
    refine c_in.go ?_
    rintro _ h2 ⟨rfl, rfl⟩
    by_cases q3 : 0 ≤ st.locs[i] ∧ st.locs[i] ≤ s.procs[i].locs - 1
    case neg => simp -implicitDefEqProofs (disch := first | omega | (simp only [List.length_set, List.length_replicate, List.length_append, List.length_map, List.length_take, List.length_cons, List.length_nil]; omega)) [wrap64, q3]; exact RetK.keep (hno l1 fun hh => q3 (by have := hh.lc i hlx hlp; omega))
    simp -implicitDefEqProofs (disch := first | omega | (simp only [List.length_set, List.length_replicate, List.length_append, List.length_map, List.length_take, List.length_cons, List.length_nil]; omega)) [wrap64, q3]
    refine hJ _ _ hlx ⟨by simp, rfl, fun j a b hji => ?_⟩
    by_cases hji2 : j = i
    · subst hji2; omega
    · exact hall j a b (by omega)
  · simp -implicitDefEqProofs (disch := first | omega | (simp only [List.length_set, List.length_replicate, List.length_append, List.length_map, List.length_take, List.length_cons, List.length_nil]; omega)) [wrap64]
    exact RetK.keep (hk _ _ ⟨l1, by rw [decide_eq_true (show st.Ok s from ⟨by omega, q2, fun i a b => hall i a b (by omega)⟩)]⟩)

theorem c_State_copyOf {h : Heap} {v : Value} {st : Sta} (R : Rep h v st) (h1 : st.locs.length ≤ 1073741824) (h2 : st.vals.length ≤ 1073741824) : CallE Try.prog fn_impl_State_copyOf [v] h (fun u h' => HS h [ow u st] h') := by
  obtain ⟨v1, v2, rfl, R1, R2⟩ := Rep_Sta.1 R
  refine CallE.gen fun k hk => EN_impl_State_copyOf rfl ?_
  simp -implicitDefEqProofs (disch := first | omega | (simp only [List.length_set, List.length_replicate, List.length_append, List.length_map, List.length_take, List.length_cons, List.length_nil]; omega)) [wrap64]
  refine (c_clone_int R1 h1).go ?_
  intro u1 m1 H
  simp -implicitDefEqProofs (disch := first | omega | (simp only [List.length_set, List.length_replicate, List.length_append, List.length_map, List.length_take, List.length_cons, List.length_nil]; omega)) [wrap64]
  refine (c_clone_int (R2.on H) h2).go ?_
  intro u2 m2 H2
  have H := H2.app H
  simp -implicitDefEqProofs (disch := first | omega | (simp only [List.length_set, List.length_replicate, List.length_append, List.length_map, List.length_take, List.length_cons, List.length_nil]; omega)) [wrap64, H.rep.cells, H.rep.one, H.sw1.rep.cells, H.sw1.rep.one, setC]
  exact RetK.keep (hk _ _ (HS.mkSta H.sw1))

/-- the values that are kept, and the first values where they don't matter -/
def prV (s : Sy) (L : List Exq) (st : Sta) : List Int := (List.range 3).map fun i => if (s.rel L).getD i false then st.vals.getD i 0 else s.init.getD i 0
noncomputable def prR (s : Sy) (L : List Exq) (st : Sta) : Sta := if s.Ok ∧ LOk L ∧ st.Ok s then ⟨st.locs, prV s L st⟩ else Sta.zero
theorem zero_St {g h : Heap} {Γ : List HP} (H : HS g Γ h) : HS g (ow (.agg #[.slice none 0 0, .slice none 0 0]) Sta.zero :: Γ) h := HS.mkSta (a := Sta.zero) H.nil_ow.nil_ow

end Go.Proofs.Ytmpgkijhhocfcaa

/-
  Steps in plain Lean: which are enabled, and what they lead to.
-/
namespace Go.Proofs.Ytmpgkijhhocfcaa
open Go
set_option linter.all false
set_option linter.unusedVariables false
set_option linter.unusedSimpArgs false
set_option linter.defProp false
set_option maxRecDepth 1000000

theorem fm_tk {α β : Type} {f : α × Nat → List β} {l : List α} {i : Nat} (hi : i < l.length) : (l.zipIdx.take (i + 1)).flatMap f = (l.zipIdx.take i).flatMap f ++ f (l[i], i) := by
  rw [List.take_add_one, List.getElem?_eq_getElem (by simpa using hi), List.flatMap_append]
  simp
theorem fm_all {α β : Type} {f : α × Nat → List β} {l : List α} {i : Nat} (hi : l.length ≤ i) : (l.zipIdx.take i).flatMap f = l.zipIdx.flatMap f := by
  rw [List.take_of_length_le (by simpa using hi)]
theorem len_fm {α β : Type} {f : α → List β} {c : Nat} : ∀ {l : List α}, (∀ x ∈ l, (f x).length ≤ c) → (l.flatMap f).length ≤ l.length * c
  | [], _ => by simp
  | x :: l, h => by
    have h1 := len_fm (l := l) fun y hy => h y (by simp [hy])
    have h2 := h x (by simp)
    rw [List.flatMap_cons, List.length_append, List.length_cons, Nat.add_mul]
    omega
theorem len_fmz {α β : Type} {f : α × Nat → List β} {c : Nat} {l : List α} (h : ∀ (i : Nat) (hi : i < l.length), (f (l[i], i)).length ≤ c) (n : Nat) : ((l.zipIdx.take n).flatMap f).length ≤ l.length * c := by
  have h1 : ((l.zipIdx.take n).flatMap f).length ≤ (l.zipIdx.take n).length * c := len_fm fun x hx => by
    have h2 := List.mem_of_mem_take hx
    rw [List.mem_zipIdx_iff_getElem?, List.getElem?_eq_some_iff] at h2
    obtain ⟨h3, h4⟩ := h2
    have := h x.2 h3
    rw [h4] at this
    exact this
  have h2 : (l.zipIdx.take n).length * c ≤ l.length * c := Nat.mul_le_mul_right _ (by simp; omega)
  omega
theorem mem_fmz {α β : Type} {f : α × Nat → List β} {l : List α} {t : β} : t ∈ l.zipIdx.flatMap f ↔ ∃ (i : Nat) (hi : i < l.length), t ∈ f (l[i], i) := by
  rw [List.mem_flatMap]
  constructor
  · rintro ⟨x, hx, ht⟩
    rw [List.mem_zipIdx_iff_getElem?, List.getElem?_eq_some_iff] at hx
    obtain ⟨h3, h4⟩ := hx
    exact ⟨x.2, h3, by rw [h4]; exact ht⟩
  · rintro ⟨i, hi, ht⟩
    exact ⟨(l[i], i), by rw [List.mem_zipIdx_iff_getElem?]; simp [hi], ht⟩

/-- an edge is ready -/
def Ed.rdy (e : Ed) (st : Sta) (i : Nat) : Bool := decide (st.locs.getD i 0 = e.frm ∧ e.guard.ev st.vals ≠ 0)
def prt2 (st : Sta) (i k : Nat) (c : Int) (j : Nat) (x : Ed × Nat) : List Stp := if j ≠ i ∧ x.1.sync = -c ∧ x.1.rdy st j = true then [⟨i, k, j, x.2⟩] else []
def prt1 (st : Sta) (i k : Nat) (c : Int) (x : Pr × Nat) : List Stp := x.1.edges.zipIdx.flatMap (prt2 st i k c x.2)
/-- the steps with partners -/
def prt (s : Sy) (st : Sta) (i k : Nat) (c : Int) : List Stp := s.procs.zipIdx.flatMap (prt1 st i k c)
def enb2 (s : Sy) (st : Sta) (i : Nat) (x : Ed × Nat) : List Stp := if x.1.sync < 0 ∨ x.1.rdy st i = false then [] else if x.1.sync = 0 then [⟨i, x.2, -1, -1⟩] else prt s st i x.2 x.1.sync
def enb1 (s : Sy) (st : Sta) (x : Pr × Nat) : List Stp := x.1.edges.zipIdx.flatMap (enb2 s st x.2)
/-- the enabled steps -/
def enb (s : Sy) (st : Sta) : List Stp := s.procs.zipIdx.flatMap (enb1 s st)

theorem prt1_len {st : Sta} {i k : Nat} {c : Int} {p : Pr} {j n : Nat} (hp : p.Ok) : ((p.edges.zipIdx.take n).flatMap (prt2 st i k c j)).length ≤ 6 := by
  have h1 := len_fmz (f := prt2 st i k c j) (c := 1) (l := p.edges) (fun m hm => by unfold prt2; split <;> simp) n
  have := hp.el
  omega
theorem prt_len {s : Sy} {st : Sta} {i k n : Nat} {c : Int} (hs : s.Ok) : ((s.procs.zipIdx.take n).flatMap (prt1 st i k c)).length ≤ 18 := by
  have h1 := len_fmz (f := prt1 st i k c) (c := 6) (l := s.procs) (fun m hm => by
    have := prt1_len (st := st) (i := i) (k := k) (c := c) (j := m) (n := s.procs[m].edges.length) (hs.at hm)
    rw [fm_all (Nat.le_refl _)] at this
    exact this) n
  have := hs.p3
  omega
theorem prt_len' {s : Sy} {st : Sta} {i k : Nat} {c : Int} (hs : s.Ok) : (prt s st i k c).length ≤ 18 := by
  have := prt_len (st := st) (i := i) (k := k) (c := c) (n := s.procs.length) hs
  rwa [fm_all (Nat.le_refl _)] at this
theorem enb2_len {s : Sy} {st : Sta} {i : Nat} {x : Ed × Nat} (hs : s.Ok) : (enb2 s st i x).length ≤ 18 := by
  unfold enb2
  split
  · simp
  · split
    · simp
    · exact prt_len' hs
theorem enb1_len {s : Sy} {st : Sta} {i n : Nat} {p : Pr} (hs : s.Ok) (hp : p.Ok) : ((p.edges.zipIdx.take n).flatMap (enb2 s st i)).length ≤ 108 := by
  have h1 := len_fmz (f := enb2 s st i) (c := 18) (l := p.edges) (fun m hm => enb2_len hs) n
  have := hp.el
  omega
theorem enb_len {s : Sy} {st : Sta} {n : Nat} (hs : s.Ok) : ((s.procs.zipIdx.take n).flatMap (enb1 s st)).length ≤ 324 := by
  have h1 := len_fmz (f := enb1 s st) (c := 108) (l := s.procs) (fun m hm => by
    have := enb1_len (s := s) (st := st) (i := m) (n := s.procs[m].edges.length) hs (hs.at hm)
    rw [fm_all (Nat.le_refl _)] at this
    exact this) n
  have := hs.p3
  omega
theorem enb_len' {s : Sy} {st : Sta} (hs : s.Ok) : (enb s st).length ≤ 324 := by
  have := enb_len (st := st) (n := s.procs.length) hs
  rwa [fm_all (Nat.le_refl _)] at this

/-- where a step's edges lie -/
structure Stp.In (s : Sy) (t : Stp) : Prop where
  ex : ∃ (i k : Nat) (hi : i < s.procs.length) (_ : k < s.procs[i].edges.length), t.proc = i ∧ t.edge = k
  pt : t.partner = -1 ∨ ∃ (j m : Nat) (hj : j < s.procs.length) (_ : m < s.procs[j].edges.length), t.partner = j ∧ t.pedge = m
theorem enb_in {s : Sy} {st : Sta} {t : Stp} (h : t ∈ enb s st) : t.In s := by
  unfold enb at h
  obtain ⟨i, hi, h⟩ := mem_fmz.1 h
  unfold enb1 at h
  obtain ⟨k, hk, h⟩ := mem_fmz.1 h
  unfold enb2 at h
  split at h
  · simp at h
  · split at h
    · simp at h; subst h
      exact ⟨⟨i, k, hi, hk, rfl, rfl⟩, .inl rfl⟩
    · unfold prt at h
      obtain ⟨j, hj, h⟩ := mem_fmz.1 h
      unfold prt1 at h
      obtain ⟨m, hm, h⟩ := mem_fmz.1 h
      unfold prt2 at h
      split at h
      · simp at h; subst h
        exact ⟨⟨i, k, hi, hk, rfl, rfl⟩, .inr ⟨j, m, hj, hm, rfl, rfl⟩⟩
      · simp at h

/-- an edge is taken -/
def Sta.tk (st : Sta) (i : Nat) (e : Ed) : Sta := ⟨st.locs.set i e.to, if 0 ≤ e.var then st.vals.set e.var.toNat (e.value.ev st.vals) else st.vals⟩
def Sy.ed (s : Sy) (i k : Nat) : Ed := (s.procs.getD i ⟨0, []⟩).edges.getD k ⟨0, 0, Exq.zero, 0, Exq.zero, 0⟩
theorem Sy.ed_eq {s : Sy} {i k : Nat} (hi : i < s.procs.length) (hk : k < s.procs[i].edges.length) : s.ed i k = s.procs[i].edges[k] := by
  simp [Sy.ed, hi, hk]
/-- the state after a step -/
def Sta.aft (s : Sy) (st : Sta) (t : Stp) : Sta := if 0 ≤ t.partner then (st.tk t.proc.toNat (s.ed t.proc.toNat t.edge.toNat)).tk t.partner.toNat (s.ed t.partner.toNat t.pedge.toNat) else st.tk t.proc.toNat (s.ed t.proc.toNat t.edge.toNat)
theorem Sta.tk_ok {s : Sy} {st : Sta} {i : Nat} {e : Ed} (h : st.Ok s) (hi : i < s.procs.length) (he : e.Ok s.procs[i].locs) : (st.tk i e).Ok s := by
  have hv := h.vs
  refine ⟨by simp [Sta.tk, h.len], ?_, fun j h1 h2 => ?_⟩
  · unfold Sta.tk
    simp only
    split
    · rename_i h0
      have hvo : e.value.Ok := he.vl.elim (fun hh => hh.2) (fun hh => absurd hh.1 (by omega))
      have hb := Exq.ev_bnd hv hvo.1
      refine ⟨by simp [hv.len], fun x hx => ?_⟩
      rcases List.mem_or_eq_of_mem_set hx with h1 | h1
      · exact hv.2 x h1
      · rw [h1]; exact hb
    · exact hv
  · simp only [Sta.tk, List.getElem_set]
    split
    · rename_i e1
      subst e1
      exact ⟨he.t0, he.t1⟩
    · exact h.lc j (by simpa [Sta.tk] using h1) h2
theorem Sta.aft_ok {s : Sy} {st : Sta} {t : Stp} (hs : s.Ok) (h : st.Ok s) (ht : t.In s) : (st.aft s t).Ok s := by
  obtain ⟨⟨i, k, hi, hk, h1, h2⟩, h3⟩ := ht
  have g1 : (st.tk t.proc.toNat (s.ed t.proc.toNat t.edge.toNat)).Ok s := by
    rw [h1, h2, Int.toNat_natCast, Int.toNat_natCast, Sy.ed_eq hi hk]
    exact Sta.tk_ok h hi ((hs.at hi).at hk)
  unfold Sta.aft
  rcases h3 with h3 | ⟨j, m, hj, hm, h3, h4⟩
  · rw [if_neg (by omega)]; exact g1
  · rw [if_pos (by omega)]
    have : (st.tk t.proc.toNat (s.ed t.proc.toNat t.edge.toNat)).tk t.partner.toNat (s.ed t.partner.toNat t.pedge.toNat) = (st.tk t.proc.toNat (s.ed t.proc.toNat t.edge.toNat)).tk j (s.procs[j].edges[m]) := by
      rw [h3, h4, Int.toNat_natCast, Int.toNat_natCast, Sy.ed_eq hj hm]
    rw [this]
    exact Sta.tk_ok g1 hj ((hs.at hj).at hm)
noncomputable def ens (s : Sy) (st : Sta) : List Stp := if s.Ok ∧ st.Ok s then enb s st else []
end Go.Proofs.Ytmpgkijhhocfcaa

/-
  Instances of functions over slices: copies, and whether some element meets a condition. Printed by a program.
-/
namespace Go.Proofs.Ytmpgkijhhocfcaa
open Go
set_option linter.all false
set_option linter.unusedVariables false
set_option linter.unusedSimpArgs false
set_option linter.defProp false
set_option maxRecDepth 1000000

theorem c_Clip_impl_Step {g h : Heap} {Γ : List HP} {a : Value} {x : List Stp} (H : HS g (ow a x :: Γ) h) : CallE Try.prog fn_slices_Clip_S_impl_Step_impl_Step [a] h (fun v h' => HS g (ow v x :: Γ) h') := by
  refine CallE.gen fun k hk => EN_slices_Clip_S_impl_Step_impl_Step rfl ?_
  obtain ⟨v', h1, h2⟩ := H.clip (esz := 4) (k := .i64)
  simp -implicitDefEqProofs (disch := first | omega | (simp only [List.length_set, List.length_replicate, List.length_append, List.length_map, List.length_take, List.length_cons, List.length_nil]; omega)) [wrap64, H.rep.len, h1]
  exact RetK.keep (hk _ _ h2)

end Go.Proofs.Ytmpgkijhhocfcaa

/-
  Steps: which are enabled, by the program and by the reference.
-/
namespace Go.Proofs.Ytmpgkijhhocfcaa
open Go
set_option linter.all false
set_option linter.unusedVariables false
set_option linter.unusedSimpArgs false
set_option linter.defProp false
set_option maxRecDepth 1000000

/-- where an edge of a system lies -/
theorem Rep.edge {h : Heap} {v : Value} {l : List Pr} (R : Rep h v l) {i k : Nat} (hi : i < l.length) (hk : k < l[i].edges.length) :
    ∃ we w1 w2, hload h (some (elp 2 v i)) (some 2) = some (.agg ([.int .i64 l[i].locs, we] : List Value).toArray) ∧ Rep h we l[i].edges ∧ hload h (some (elp 10 we k)) (some 10) = some (.agg (l[i].edges[k].cs w1 w2).toArray) ∧
      l[i].edges[k].ok ∧ Rep h w1 l[i].edges[k].guard.kids ∧ Rep h w2 l[i].edges[k].value.kids := by
  obtain ⟨u, hu, Ru⟩ := R.ld hi
  obtain ⟨we, rfl, k1, R3⟩ := Rep_Pr.1 Ru
  obtain ⟨u2, hu2, Ru2⟩ := R3.ld hk
  obtain ⟨w1, w2, rfl, ok, G1, G2⟩ := Rep_Ed.1 Ru2
  exact ⟨we, w1, w2, hu, R3, hu2, ok, G1, G2⟩

theorem c_ready {h : Heap} {v w : Value} {s : Sy} {st : Sta} (hs : s.Ok) (ht : st.Ok s) (R : Rep h v s) (Rt : Rep h w st) {i m : Nat} (hi : i < s.procs.length) (hm : m < s.procs[i].edges.length) :
    CallE Try.prog fn_impl_System_ready [v, w, .int .i64 i, .int .i64 m] h (fun u h' => h' = h ∧ u = .bool (s.procs[i].edges[m].rdy st i)) := by
  obtain ⟨v1, v2, rfl, R1, R2'⟩ := Rep_Sy.1 R
  obtain ⟨t1, t2, rfl, T1, T2⟩ := Rep_Sta.1 Rt
  obtain ⟨we, w1, w2, hu, R3, hu2, ok, G1, G2⟩ := R2'.edge hi hm
  have hP := hld_parts hu
  have heo := (hs.at hi).at hm
  have hil : i < st.locs.length := by rw [ht.len]; exact hi
  have hF3 := G1.one
  have hF4 := G2.one
  refine CallE.gen fun k hk => EN_impl_System_ready rfl ?_
  by_cases a1 : st.locs[i] = s.procs[i].edges[m].frm
  case neg =>
    simp -implicitDefEqProofs (disch := first | omega | (simp only [List.length_set, List.length_replicate, List.length_append, List.length_map, List.length_take, List.length_cons, List.length_nil]; omega)) [wrap64, R2'.X (n := 2) rfl, hP.1, hP.2.2.1, R3.X (n := 10) rfl, hu2, Ed.cs, setC, hF3, hF4, T1.I, a1]
    exact RetK.keep (hk _ _ ⟨rfl, by simp [Ed.rdy, hil, a1]⟩)
  simp -implicitDefEqProofs (disch := first | omega | (simp only [List.length_set, List.length_replicate, List.length_append, List.length_map, List.length_take, List.length_cons, List.length_nil]; omega)) [wrap64, R2'.X (n := 2) rfl, hP.1, hP.2.2.1, R3.X (n := 10) rfl, hu2, Ed.cs, setC, hF3, hF4, T1.I, a1]
  refine (c_eval _ ht.vs heo.gd.1 (Rep.gd (w2 := w2) ok G1) T2).go ?_
  rintro _ h ⟨rfl, rfl⟩
  simp -implicitDefEqProofs (disch := first | omega | (simp only [List.length_set, List.length_replicate, List.length_append, List.length_map, List.length_take, List.length_cons, List.length_nil]; omega)) [wrap64]
  exact RetK.keep (hk _ _ ⟨rfl, by simp [Ed.rdy, hil, a1]⟩)
theorem c_l3Ready {h : Heap} {v w : Value} {s : Sy} {st : Sta} (hs : s.Ok) (ht : st.Ok s) (R : Rep h v s) (Rt : Rep h w st) {i m : Nat} (hi : i < s.procs.length) (hm : m < s.procs[i].edges.length) :
    CallE Try.prog fn_spec_l3Ready [v, w, .int .i64 i, .int .i64 m] h (fun u h' => h' = h ∧ u = .bool (s.procs[i].edges[m].rdy st i)) := by
  obtain ⟨v1, v2, rfl, R1, R2'⟩ := Rep_Sy.1 R
  obtain ⟨t1, t2, rfl, T1, T2⟩ := Rep_Sta.1 Rt
  obtain ⟨we, w1, w2, hu, R3, hu2, ok, G1, G2⟩ := R2'.edge hi hm
  have hP := hld_parts hu
  have heo := (hs.at hi).at hm
  have hil : i < st.locs.length := by rw [ht.len]; exact hi
  have hF3 := G1.one
  have hF4 := G2.one
  refine CallE.gen fun k hk => EN_spec_l3Ready rfl ?_
  by_cases a1 : s.procs[i].edges[m].frm = st.locs[i]
  case neg =>
    simp -implicitDefEqProofs (disch := first | omega | (simp only [List.length_set, List.length_replicate, List.length_append, List.length_map, List.length_take, List.length_cons, List.length_nil]; omega)) [wrap64, R2'.X (n := 2) rfl, hP.1, hP.2.2.1, R3.X (n := 10) rfl, hu2, Ed.cs, setC, hF3, hF4, T1.I, a1]
    exact RetK.keep (hk _ _ ⟨rfl, by simp [Ed.rdy, hil, Ne.symm a1]⟩)
  simp -implicitDefEqProofs (disch := first | omega | (simp only [List.length_set, List.length_replicate, List.length_append, List.length_map, List.length_take, List.length_cons, List.length_nil]; omega)) [wrap64, R2'.X (n := 2) rfl, hP.1, hP.2.2.1, R3.X (n := 10) rfl, hu2, Ed.cs, setC, hF3, hF4, T1.I, a1]
  refine (c_l1Eval _ ht.vs heo.gd.1 (Rep.gd (w2 := w2) ok G1) T2).go ?_
  rintro _ h ⟨rfl, rfl⟩
  simp -implicitDefEqProofs (disch := first | omega | (simp only [List.length_set, List.length_replicate, List.length_append, List.length_map, List.length_take, List.length_cons, List.length_nil]; omega)) [wrap64]
  exact RetK.keep (hk _ _ ⟨rfl, by simp [Ed.rdy, hil, a1]⟩)

theorem c_enabled {h : Heap} {v w : Value} {s : Sy} {st : Sta} (hs : s.Ok) (ht : st.Ok s) (R : Rep h v s) (Rt : Rep h w st) : CallE Try.prog fn_impl_System_enabled [v, w] h (fun u h' => HS h [ow u (enb s st)] h') := by
  have FS := R.aSy
  have FT := Rt.aSta
  have R0 := R
  have Rt0 := Rt
  obtain ⟨v1, v2, rfl, R1, R2'⟩ := Rep_Sy.1 R
  obtain ⟨t1, t2, rfl, T1, T2⟩ := Rep_Sta.1 Rt
  have hp3 := hs.p3
  refine CallE.gen fun k hk => EN_impl_System_enabled rfl ?_
  simp -implicitDefEqProofs (disch := first | omega | (simp only [List.length_set, List.length_replicate, List.length_append, List.length_map, List.length_take, List.length_cons, List.length_nil]; omega)) [wrap64, R2'.len]
  refine wp_count s.procs.length (fun i e h' => ∃ o, e = [none, none, some (.agg #[v1, v2]), some (.agg #[t1, t2]), none, some o, none, none, none, none, none, none, none, none, some v2, some (.int .i64 s.procs.length), some (.int .i64 i), none, none, none, none, none, none, none, none, none] ∧ HS h [ow o ((s.procs.zipIdx.take i).flatMap (enb1 s st))] h') ⟨.slice none 0 0, by simp, by simpa using HS.init.nil_ow (α := Stp)⟩ ?_
  rintro J0 i _ h1 hJ0 hi ⟨o, rfl, H⟩
  simp -implicitDefEqProofs (disch := first | omega | (simp only [List.length_set, List.length_replicate, List.length_append, List.length_map, List.length_take, List.length_cons, List.length_nil]; omega)) [wrap64]
  refine IteW.mk (fun hlt => ?_) (fun hge => ?_)
  · have hi : i < s.procs.length := by omega
    obtain ⟨A, hA⟩ : ∃ A, A = (s.procs.zipIdx.take i).flatMap (enb1 s st) := ⟨_, rfl⟩
    have hAl : A.length ≤ 324 := by rw [hA]; exact enb_len hs
    obtain ⟨u, hu, Ru⟩ := R2'.ld hi
    have hu2 := hload_le H.base hu
    change hload _ (some (elp 2 v2 i)) (some 2) = some u at hu2
    obtain ⟨we, rfl, k1, R3⟩ := Rep_Pr.1 Ru
    have hpo := hs.at hi
    have hel := hpo.el
    have hF1 := R3.cells
    have hF2 := R3.one
    rw [← hA] at H
    simp -implicitDefEqProofs (disch := first | omega | (simp only [List.length_set, List.length_replicate, List.length_append, List.length_map, List.length_take, List.length_cons, List.length_nil]; omega)) [wrap64, R2'.X (n := 2) rfl, hu2, hF1, hF2, setC, R3.len]
    refine wp_count s.procs[i].edges.length (fun m e h' => ∃ o, e = [none, none, some (.agg #[v1, v2]), some (.agg #[t1, t2]), none, some o, some (.int .i64 i), none, none, none, none, none, none, none, some v2, some (.int .i64 s.procs.length), some (.int .i64 i), some we, some (.int .i64 s.procs[i].edges.length), some (.int .i64 m), none, none, none, none, none, none] ∧ HS h [ow o (A ++ (s.procs[i].edges.zipIdx.take m).flatMap (enb2 s st i))] h') ⟨o, by simp, by simpa using H⟩ ?_
    clear H
    rintro J1 m _ h2 hJ1 hm ⟨o, rfl, H⟩
    simp -implicitDefEqProofs (disch := first | omega | (simp only [List.length_set, List.length_replicate, List.length_append, List.length_map, List.length_take, List.length_cons, List.length_nil]; omega)) [wrap64]
    refine IteW.mk (fun hlt1 => ?_) (fun hge1 => ?_)
    · have hm : m < s.procs[i].edges.length := by omega
      obtain ⟨B, hB⟩ : ∃ B, B = A ++ (s.procs[i].edges.zipIdx.take m).flatMap (enb2 s st i) := ⟨_, rfl⟩
      have hBl : B.length ≤ 432 := by
        rw [hB, List.length_append]
        have := enb1_len (st := st) (i := i) (n := m) hs hpo
        omega
      have hstep : A ++ (s.procs[i].edges.zipIdx.take (m + 1)).flatMap (enb2 s st i) = B ++ enb2 s st i (s.procs[i].edges[m], m) := by rw [fm_tk hm, ← List.append_assoc, ← hB]
      rw [← hB] at H
      obtain ⟨u, hu, Ru⟩ := R3.ld hm
      have hu2 := hload_le H.base hu
      change hload _ (some (elp 10 we m)) (some 10) = some u at hu2
      obtain ⟨w1, w2, rfl, ok, G1, G2⟩ := Rep_Ed.1 Ru
      have heo := hpo.at hm
      have hF3 := G1.one
      have hF4 := G2.one
      have hgo : ∀ {o' h'}, HS h [ow o' (B ++ enb2 s st i (s.procs[i].edges[m], m))] h' → J1 [none, none, some (.agg #[v1, v2]), some (.agg #[t1, t2]), none, some o', some (.int .i64 i), none, none, none, none, none, none, none, some v2, some (.int .i64 s.procs.length), some (.int .i64 i), some we, some (.int .i64 s.procs[i].edges.length), some (.int .i64 ((m + 1 : Nat) : Int)), none, none, none, none, none, none] h' :=
        fun {o' h'} H => hJ1 _ _ hm ⟨o', by simp, by rw [hstep]; exact H⟩
      simp -implicitDefEqProofs (disch := first | omega | (simp only [List.length_set, List.length_replicate, List.length_append, List.length_map, List.length_take, List.length_cons, List.length_nil]; omega)) [wrap64, R3.X (n := 10) rfl, hu2, Ed.cs, setC, hF3, hF4]
      refine (c_ready hs ht (R0.on H) (Rt0.on H) hi hm).go ?_
      rintro _ h2 ⟨rfl, rfl⟩
      by_cases a1 : s.procs[i].edges[m].rdy st i = true
      case neg =>
        simp -implicitDefEqProofs (disch := first | omega | (simp only [List.length_set, List.length_replicate, List.length_append, List.length_map, List.length_take, List.length_cons, List.length_nil]; omega)) [wrap64, a1]
        exact hgo (by rw [enb2, if_pos (.inr (by simpa using a1))]; simpa using H)
      by_cases a2 : s.procs[i].edges[m].sync < 0
      · simp -implicitDefEqProofs (disch := first | omega | (simp only [List.length_set, List.length_replicate, List.length_append, List.length_map, List.length_take, List.length_cons, List.length_nil]; omega)) [wrap64, a1, a2]
        exact hgo (by rw [enb2, if_pos (.inl a2)]; simpa using H)
      by_cases a3 : s.procs[i].edges[m].sync = 0
      · simp -implicitDefEqProofs (disch := first | omega | (simp only [List.length_set, List.length_replicate, List.length_append, List.length_map, List.length_take, List.length_cons, List.length_nil]; omega)) [wrap64, a1, a2, a3, setC]
        refine H.app1 (bytes := 32) (⟨i, m, -1, -1⟩ : Stp) rfl rfl rfl (Stp.ok_iff.2 ⟨by dsimp only; omega, by dsimp only; omega, by dsimp only; omega, by dsimp only; omega⟩) rfl rfl (by omega) (by omega) fun o' h3 H => ?_
        simp -implicitDefEqProofs (disch := first | omega | (simp only [List.length_set, List.length_replicate, List.length_append, List.length_map, List.length_take, List.length_cons, List.length_nil]; omega)) [wrap64]
        refine hgo ?_
        rw [enb2, if_neg (by simp [a2, a1]), if_pos a3]; exact H
      simp -implicitDefEqProofs (disch := first | omega | (simp only [List.length_set, List.length_replicate, List.length_append, List.length_map, List.length_take, List.length_cons, List.length_nil]; omega)) [wrap64, a1, a2, a3, R2'.len]
      have hen : enb2 s st i (s.procs[i].edges[m], m) = prt s st i m s.procs[i].edges[m].sync := by rw [enb2, if_neg (by simp [a2, a1]), if_neg a3]
      rw [hen] at hgo
      obtain ⟨c, hc⟩ : ∃ c, c = s.procs[i].edges[m].sync := ⟨_, rfl⟩
      rw [← hc] at hgo
      have hs0 := heo.s0
      have hs1 := heo.s1
      refine wp_count s.procs.length (fun j e h' => ∃ o, e = [none, none, some (.agg #[v1, v2]), some (.agg #[t1, t2]), none, some o, some (.int .i64 i), none, some (.int .i64 m), some (.agg (s.procs[i].edges[m].cs w1 w2).toArray), none, none, none, none, some v2, some (.int .i64 s.procs.length), some (.int .i64 i), some we, some (.int .i64 s.procs[i].edges.length), some (.int .i64 m), some v2, some (.int .i64 s.procs.length), some (.int .i64 j), none, none, none] ∧ HS h [ow o (B ++ (s.procs.zipIdx.take j).flatMap (prt1 st i m c))] h') ⟨o, by simp [Ed.cs], by simpa using H⟩ ?_
      clear H
      rintro J2 j _ h3 hJ2 hj ⟨o, rfl, H⟩
      simp -implicitDefEqProofs (disch := first | omega | (simp only [List.length_set, List.length_replicate, List.length_append, List.length_map, List.length_take, List.length_cons, List.length_nil]; omega)) [wrap64]
      refine IteW.mk (fun hlt2 => ?_) (fun hge2 => ?_)
      · have hj : j < s.procs.length := by omega
        obtain ⟨D, hD⟩ : ∃ D, D = B ++ (s.procs.zipIdx.take j).flatMap (prt1 st i m c) := ⟨_, rfl⟩
        have hDl : D.length ≤ 450 := by
          rw [hD, List.length_append]
          have := prt_len (st := st) (i := i) (k := m) (c := c) (n := j) hs
          omega
        rw [← hD] at H
        obtain ⟨u, hu, Ru⟩ := R2'.ld hj
        have hu2 := hload_le H.base hu
        change hload _ (some (elp 2 v2 j)) (some 2) = some u at hu2
        obtain ⟨wf, rfl, k2, R4⟩ := Rep_Pr.1 Ru
        have hpj := hs.at hj
        have hej := hpj.el
        have hF5 := R4.cells
        have hF6 := R4.one
        simp -implicitDefEqProofs (disch := first | omega | (simp only [List.length_set, List.length_replicate, List.length_append, List.length_map, List.length_take, List.length_cons, List.length_nil]; omega)) [wrap64, R2'.X (n := 2) rfl, hu2, hF5, hF6, setC, R4.len]
        refine wp_count s.procs[j].edges.length (fun n e h' => ∃ o, e = [none, none, some (.agg #[v1, v2]), some (.agg #[t1, t2]), none, some o, some (.int .i64 i), none, some (.int .i64 m), some (.agg (s.procs[i].edges[m].cs w1 w2).toArray), some (.int .i64 j), none, none, none, some v2, some (.int .i64 s.procs.length), some (.int .i64 i), some we, some (.int .i64 s.procs[i].edges.length), some (.int .i64 m), some v2, some (.int .i64 s.procs.length), some (.int .i64 j), some wf, some (.int .i64 s.procs[j].edges.length), some (.int .i64 n)] ∧ HS h [ow o (D ++ (s.procs[j].edges.zipIdx.take n).flatMap (prt2 st i m c j))] h') ⟨o, by simp, by simpa using H⟩ ?_
        clear H
        rintro J3 n _ h4 hJ3 hn ⟨o, rfl, H⟩
        simp -implicitDefEqProofs (disch := first | omega | (simp only [List.length_set, List.length_replicate, List.length_append, List.length_map, List.length_take, List.length_cons, List.length_nil]; omega)) [wrap64]
        refine IteW.mk (fun hlt3 => ?_) (fun hge3 => ?_)
        · have hn : n < s.procs[j].edges.length := by omega
          obtain ⟨E, hE⟩ : ∃ E, E = D ++ (s.procs[j].edges.zipIdx.take n).flatMap (prt2 st i m c j) := ⟨_, rfl⟩
          have hEl : E.length ≤ 456 := by
            rw [hE, List.length_append]
            have := prt1_len (st := st) (i := i) (k := m) (c := c) (j := j) (n := n) hpj
            omega
          have hstep2 : D ++ (s.procs[j].edges.zipIdx.take (n + 1)).flatMap (prt2 st i m c j) = E ++ prt2 st i m c j (s.procs[j].edges[n], n) := by rw [fm_tk hn, ← List.append_assoc, ← hE]
          rw [← hE] at H
          obtain ⟨u, hu, Ru⟩ := R4.ld hn
          have hu2 := hload_le H.base hu
          change hload _ (some (elp 10 wf n)) (some 10) = some u at hu2
          obtain ⟨x1, x2, rfl, okf, X1, X2⟩ := Rep_Ed.1 Ru
          have hF7 := X1.one
          have hF8 := X2.one
          have hgo2 : ∀ {o' h'}, HS h [ow o' (E ++ prt2 st i m c j (s.procs[j].edges[n], n))] h' → J3 [none, none, some (.agg #[v1, v2]), some (.agg #[t1, t2]), none, some o', some (.int .i64 i), none, some (.int .i64 m), some (.agg (s.procs[i].edges[m].cs w1 w2).toArray), some (.int .i64 j), none, none, none, some v2, some (.int .i64 s.procs.length), some (.int .i64 i), some we, some (.int .i64 s.procs[i].edges.length), some (.int .i64 m), some v2, some (.int .i64 s.procs.length), some (.int .i64 j), some wf, some (.int .i64 s.procs[j].edges.length), some (.int .i64 ((n + 1 : Nat) : Int))] h' :=
            fun {o' h'} H => hJ3 _ _ hn ⟨o', by simp, by rw [hstep2]; exact H⟩
          simp only [Ed.cs] at hgo2
          by_cases b1 : j = i
          · simp -implicitDefEqProofs (disch := first | omega | (simp only [List.length_set, List.length_replicate, List.length_append, List.length_map, List.length_take, List.length_cons, List.length_nil]; omega)) [wrap64, R4.X (n := 10) rfl, hu2, Ed.cs, setC, hF7, hF8, b1]
            subst b1
            exact hgo2 (by rw [prt2, if_neg (fun hh => hh.1 rfl)]; simpa using H)
          have b1' : ¬ ((j : Int) = i) := by omega
          by_cases b2 : s.procs[j].edges[n].sync = -c
          case neg =>
            have b2' := b2
            rw [hc] at b2'
            simp -implicitDefEqProofs (disch := first | omega | (simp only [List.length_set, List.length_replicate, List.length_append, List.length_map, List.length_take, List.length_cons, List.length_nil]; omega)) [wrap64, R4.X (n := 10) rfl, hu2, Ed.cs, setC, hF7, hF8, b1, b1', b2']
            exact hgo2 (by rw [prt2, if_neg (fun hh => b2 hh.2.1)]; simpa using H)
          have b2' := b2
          rw [hc] at b2'
          simp -implicitDefEqProofs (disch := first | omega | (simp only [List.length_set, List.length_replicate, List.length_append, List.length_map, List.length_take, List.length_cons, List.length_nil]; omega)) [wrap64, R4.X (n := 10) rfl, hu2, Ed.cs, setC, hF7, hF8, b1, b1', b2']
          refine (c_ready hs ht (R0.on H) (Rt0.on H) hj hn).go ?_
          rintro _ h4 ⟨rfl, rfl⟩
          by_cases b3 : s.procs[j].edges[n].rdy st j = true
          case neg =>
            simp -implicitDefEqProofs (disch := first | omega | (simp only [List.length_set, List.length_replicate, List.length_append, List.length_map, List.length_take, List.length_cons, List.length_nil]; omega)) [wrap64, b3]
            exact hgo2 (by rw [prt2, if_neg (fun hh => b3 hh.2.2)]; simpa using H)
          simp -implicitDefEqProofs (disch := first | omega | (simp only [List.length_set, List.length_replicate, List.length_append, List.length_map, List.length_take, List.length_cons, List.length_nil]; omega)) [wrap64, b3, setC]
          refine H.app1 (bytes := 32) (⟨i, m, j, n⟩ : Stp) rfl rfl rfl (Stp.ok_iff.2 ⟨by dsimp only; omega, by dsimp only; omega, by dsimp only; omega, by dsimp only; omega⟩) rfl rfl (by omega) (by omega) fun o' h5 H => ?_
          simp -implicitDefEqProofs (disch := first | omega | (simp only [List.length_set, List.length_replicate, List.length_append, List.length_map, List.length_take, List.length_cons, List.length_nil]; omega)) [wrap64]
          refine hgo2 ?_
          rw [prt2, if_pos ⟨b1, b2, b3⟩]; exact H
        simp -implicitDefEqProofs (disch := first | omega | (simp only [List.length_set, List.length_replicate, List.length_append, List.length_map, List.length_take, List.length_cons, List.length_nil]; omega)) [wrap64]
        rw [fm_all (by omega)] at H
        exact hJ2 _ _ hj ⟨o, by simp, by rw [fm_tk hj, ← List.append_assoc, ← hD]; exact H⟩
      simp -implicitDefEqProofs (disch := first | omega | (simp only [List.length_set, List.length_replicate, List.length_append, List.length_map, List.length_take, List.length_cons, List.length_nil]; omega)) [wrap64]
      rw [fm_all (by omega)] at H
      exact hgo H
    simp -implicitDefEqProofs (disch := first | omega | (simp only [List.length_set, List.length_replicate, List.length_append, List.length_map, List.length_take, List.length_cons, List.length_nil]; omega)) [wrap64]
    rw [fm_all (by omega)] at H
    exact hJ0 _ _ hi ⟨o, by simp, by rw [fm_tk hi, ← hA]; exact H⟩
  simp -implicitDefEqProofs (disch := first | omega | (simp only [List.length_set, List.length_replicate, List.length_append, List.length_map, List.length_take, List.length_cons, List.length_nil]; omega)) [wrap64]
  rw [fm_all (by omega)] at H
  refine (c_Clip_impl_Step H).go ?_
  intro o' h2 H
  simp -implicitDefEqProofs (disch := first | omega | (simp only [List.length_set, List.length_replicate, List.length_append, List.length_map, List.length_take, List.length_cons, List.length_nil]; omega)) [wrap64]
  exact RetK.keep (hk _ _ H)
end Go.Proofs.Ytmpgkijhhocfcaa
