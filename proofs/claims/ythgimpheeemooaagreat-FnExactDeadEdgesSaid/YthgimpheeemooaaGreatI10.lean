/-
  Bodies of functions in the small language, as a program printed them, and that each is what the translation gives.
-/
import Derived.Test.YthgimpheeemooaaGreatI1
namespace Go.Proofs.YthgimpheeemooaaGreat
open Go
set_option linter.all false
set_option linter.defProp false
set_option maxRecDepth 1000000

def H_impl_DeadEdges : Hint := ⟨[(0, false), (1, false), (2, true), (4, false), (5, false), (6, true), (7, false), (8, false), (9, false), (11, true), (13, true), (39, false), (40, false), (48, false), (49, false), (50, false), (56, false), (57, false), (58, false)], [[0, 3, 4, 6, 8, 9, 10, 13, 14, 15, 16, 17, 18], [0, 3, 4, 5, 6, 8, 9, 10, 11, 12, 16, 17, 18], [0, 3, 4, 5, 6, 8, 9, 10, 11, 12]]⟩
def K10_1 : C := .seq (.pl <| .st (.ext 19 1) <|
    .st (.act none (.px (some 19) (.mv (.v 7)))) <|
    .st (.act none (.px (some 3) (.mv (.v 19)))) <|
    .st (.act none (.px (some 4) (.mv (.c (.bool true))))) .done) (.ret)
@[simp] def W10_1 := @C.wpe _ _ K10_1.eq_1
def K10_2 : C := .pl <| .st (.ext 19 1) <|
    .st (.act none (.px (some 19) (.bin .add (.v 15) (.c (.int .i64 1))))) <|
    .st (.act none (.px (some 15) (.mv (.v 19)))) .done
@[simp] def W10_2 := @C.wpe _ _ K10_2.eq_1
def K10_3 : C := .pl <| .st (.ext 19 1) <|
    .st (.act none (.px (some 19) (.bin .add (.v 18) (.c (.int .i64 1))))) <|
    .st (.act none (.px (some 18) (.mv (.v 19)))) .done
@[simp] def W10_3 := @C.wpe _ _ K10_3.eq_1
def K10_4 : C := .pl <| .st (.ext 19 4) <|
    .st (.act none (.px (some 19) (.mv (.v 7)))) <|
    .st (.act none (.als 20 none 10)) <|
    .st (.act none (.pget (some 21) (some 20) 10 3 none)) <|
    .st (.act none (.px (some 22) (.ia 1 (.v 19) (.v 21)))) <|
    .st (.act none (.ex none (.store 1 (.v 22) (.c (.bool false))))) .done
@[simp] def W10_4 := @C.wpe _ _ K10_4.eq_1
def K10_5 : C := .cond 19 (.v 22) K10_4 (.skip)
@[simp] def W10_5 := @C.wpe _ _ K10_5.eq_1
def K10_6 : C := .seq (.pl <| .st (.ext 19 4) <|
    .st (.act none (.als 19 none 10)) <|
    .st (.act none (.pget (some 20) (some 19) 10 2 none)) <|
    .st (.act none (.px (some 21) (.mv (.v 1)))) <|
    .st (.act none (.px (some 22) (.bin .eql (.v 20) (.v 21)))) .done) K10_5
@[simp] def W10_6 := @C.wpe _ _ K10_6.eq_1
def K10_7 : C := .pl <| .st (.ext 19 4) <|
    .st (.act none (.px (some 19) (.mv (.v 7)))) <|
    .st (.act none (.als 20 none 10)) <|
    .st (.act none (.pget (some 21) (some 20) 10 1 none)) <|
    .st (.act none (.px (some 22) (.ia 1 (.v 19) (.v 21)))) <|
    .st (.act none (.ex none (.store 1 (.v 22) (.c (.bool false))))) .done
@[simp] def W10_7 := @C.wpe _ _ K10_7.eq_1
def K10_8 : C := .cond 19 (.v 22) K10_7 (.skip)
@[simp] def W10_8 := @C.wpe _ _ K10_8.eq_1
def K10_9 : C := .seq (.seq (.pl <| .st (.ext 19 4) <|
    .st (.act none (.als 19 none 10)) <|
    .st (.act none (.pget (some 20) (some 19) 10 0 none)) <|
    .st (.act none (.px (some 21) (.mv (.v 1)))) <|
    .st (.act none (.px (some 22) (.bin .eql (.v 20) (.v 21)))) .done) K10_8) K10_6
@[simp] def W10_9 := @C.wpe _ _ K10_9.eq_1
def K10_10 : C := .seq (.block 5 (.seq (.pl <| .st (.ext 19 2) <|
    .st (.act none (.px (some 19) (.ia 4 (.v 16) (.v 18)))) <|
    .st (.act none (.ld (some 20) (.v 19) (some 4))) <|
    .st (.act none (.pnew 10 (.c (.agg #[.int .i64 0, .int .i64 0, .int .i64 0, .int .i64 0])) [])) <|
    .st (.act none (.pset none 10 0 4 (.v 20))) .done) K10_9)) K10_3
@[simp] def W10_10 := @C.wpe _ _ K10_10.eq_1
def K10_11 : C := .seq (.cond 19 (.v 19) (.skip) (.exit 4)) K10_10
@[simp] def W10_11 := @C.wpe _ _ K10_11.eq_1
def K10_12 : C := .seq (.pl <| .st (.ext 19 1) <|
    .st (.act none (.px (some 19) (.bin .lss (.v 18) (.v 17)))) .done) K10_11
@[simp] def W10_12 := @C.wpe _ _ K10_12.eq_1
def K10_13 : C := .block 4 (.loop 19 [0, 3, 4, 5, 6, 8, 9, 10, 11, 12] K10_12)
@[simp] def W10_13 := @C.wpe _ _ K10_13.eq_1
def K10_14 : Pl := .st (.act none (.px (some 17) (.lenV (.v 16)))) <|
    .st (.act none (.px (some 18) (.mv (.c (.int .i64 0))))) .done
@[simp] def W10_14 := @Pl.wpe _ _ K10_14.eq_1
def K10_15 : C := .seq (.pl <| .st (.ext 19 2) <|
    .st (.act none (.pget (some 19) none 2 0 (some 2))) <|
    .st (.act none (.pget (some 20) none 9 0 (some 2))) <|
    .st (.act none (.ex (some 16) (.call fn_impl_System_enabled [.v 19, .v 20]))) K10_14) K10_13
@[simp] def W10_15 := @C.wpe _ _ K10_15.eq_1
def K10_16 : C := .seq (.block 3 (.seq (.pl <| .st (.ext 19 2) <|
    .st (.act none (.px (some 19) (.ia 2 (.v 13) (.v 15)))) <|
    .st (.act none (.ld (some 20) (.v 19) (some 2))) <|
    .st (.act none (.pnew 9 (.c (.agg #[.slice none 0 0, .slice none 0 0])) [])) <|
    .st (.act none (.pset none 9 0 2 (.v 20))) .done) K10_15)) K10_2
@[simp] def W10_16 := @C.wpe _ _ K10_16.eq_1
def K10_17 : C := .seq (.cond 19 (.v 19) (.skip) (.exit 2)) K10_16
@[simp] def W10_17 := @C.wpe _ _ K10_17.eq_1
def K10_18 : C := .seq (.pl <| .st (.ext 19 1) <|
    .st (.act none (.px (some 19) (.bin .lss (.v 15) (.v 14)))) .done) K10_17
@[simp] def W10_18 := @C.wpe _ _ K10_18.eq_1
def K10_19 : C := .block 2 (.loop 19 [0, 3, 4, 5, 6, 8, 9, 10, 11, 12, 16, 17, 18] K10_18)
@[simp] def W10_19 := @C.wpe _ _ K10_19.eq_1
def K10_20 : C := .seq (.seq (.pl <| .st (.ext 19 1) <|
    .st (.act none (.als 19 none 5)) <|
    .st (.act none (.pget (some 13) (some 19) 5 0 none)) <|
    .st (.act none (.px (some 14) (.lenV (.v 13)))) <|
    .st (.act none (.px (some 15) (.mv (.c (.int .i64 0))))) .done) K10_19) K10_1
@[simp] def W10_20 := @C.wpe _ _ K10_20.eq_1
def K10_21 : C := .pl <| .st (.ext 19 1) <|
    .st (.act none (.px (some 19) (.bin .add (.v 12) (.c (.int .i64 1))))) <|
    .st (.act none (.px (some 12) (.mv (.v 19)))) .done
@[simp] def W10_21 := @C.wpe _ _ K10_21.eq_1
def K10_22 : C := .pl <| .st (.ext 19 3) <|
    .st (.act none (.px (some 19) (.mv (.v 7)))) <|
    .st (.act none (.px (some 20) (.mv (.v 8)))) <|
    .st (.act none (.px (some 21) (.ia 1 (.v 19) (.v 20)))) <|
    .st (.act none (.ex none (.store 1 (.v 21) (.c (.bool true))))) .done
@[simp] def W10_22 := @C.wpe _ _ K10_22.eq_1
def K10_23 : C := .seq (.block 1 (.seq (.pl <| .st (.ext 19 1) <|
    .st (.act none (.px (some 19) (.mv (.v 12)))) <|
    .st (.act none (.px (some 8) (.mv (.v 19)))) .done) K10_22)) K10_21
@[simp] def W10_23 := @C.wpe _ _ K10_23.eq_1
def K10_24 : C := .seq (.cond 19 (.v 19) (.skip) (.exit 0)) K10_23
@[simp] def W10_24 := @C.wpe _ _ K10_24.eq_1
def K10_25 : C := .seq (.pl <| .st (.ext 19 1) <|
    .st (.act none (.px (some 19) (.bin .lss (.v 12) (.v 11)))) .done) K10_24
@[simp] def W10_25 := @C.wpe _ _ K10_25.eq_1
def K10_26 : C := .block 0 (.loop 19 [0, 3, 4, 6, 8, 9, 10, 13, 14, 15, 16, 17, 18] K10_25)
@[simp] def W10_26 := @C.wpe _ _ K10_26.eq_1
def K10_27 : C := .seq (.seq (.pl <| .st (.ext 19 1) <|
    .st (.act none (.px (some 19) (.mv (.v 7)))) <|
    .st (.act none (.px (some 11) (.lenV (.v 19)))) <|
    .st (.act none (.px (some 12) (.mv (.c (.int .i64 0))))) .done) K10_26) K10_20
@[simp] def W10_27 := @C.wpe _ _ K10_27.eq_1
def K10_28 : Pl := .st (.act none (.px (some 7) (.mv (.v 26)))) .done
@[simp] def W10_28 := @Pl.wpe _ _ K10_28.eq_1
def K10_29 : C := .seq (.pl <| .st (.ext 19 8) <|
    .st (.act none (.als 19 none 2)) <|
    .st (.act none (.pget (some 20) (some 19) 2 1 none)) <|
    .st (.act none (.px (some 21) (.mv (.v 1)))) <|
    .st (.act none (.px (some 22) (.ia 2 (.v 20) (.v 21)))) <|
    .st (.act none (.px (some 23) (.fa 1 (.v 22)))) <|
    .st (.act none (.ld (some 24) (.v 23) none)) <|
    .st (.act none (.px (some 25) (.lenV (.v 24)))) <|
    .st (.act none (.ex (some 26) (.mks 1 1 [.bool false] (.v 25) (.v 25)))) K10_28) K10_27
@[simp] def W10_29 := @C.wpe _ _ K10_29.eq_1
def K10_30 : C := .seq (.pl <| .st (.ext 19 0) <|
    .st (.act none (.px (some 3) (.mv (.c (.slice none 0 0))))) <|
    .st (.act none (.px (some 4) (.mv (.c (.bool false))))) .done) (.ret)
@[simp] def W10_30 := @C.wpe _ _ K10_30.eq_1
def K10_31 : C := .cond 19 (.v 29) K10_30 (.skip)
@[simp] def W10_31 := @C.wpe _ _ K10_31.eq_1
def K10_32 : Pl := .st (.act (some (.v 21, false)) (.px (some 28) (.un .not (.v 27)))) <|
    .st (.act none (.px (some 29) (.pick (.v 21) (.c (.bool true)) (.v 28)))) .done
@[simp] def W10_32 := @Pl.wpe _ _ K10_32.eq_1
def K10_33 : C := .seq (.seq (.pl <| .st (.ext 19 11) <|
    .st (.act none (.px (some 19) (.mv (.v 6)))) <|
    .st (.act none (.px (some 20) (.un .not (.v 19)))) <|
    .st (.act none (.px (some 21) (.mv (.v 20)))) <|
    .st (.act (some (.v 21, false)) (.px (some 22) (.mv (.v 1)))) <|
    .st (.act (some (.v 21, false)) (.als 23 none 2)) <|
    .st (.act (some (.v 21, false)) (.pget (some 24) (some 23) 2 1 none)) <|
    .st (.act (some (.v 21, false)) (.px (some 25) (.lenV (.v 24)))) <|
    .st (.act (some (.v 21, false)) (.px (some 26) (.bin .sub (.v 25) (.c (.int .i64 1))))) <|
    .st (.act (some (.v 21, false)) (.ex (some 27) (.call fn_impl_in [.v 22, .c (.int .i64 0), .v 26]))) K10_32) K10_31) K10_29
@[simp] def W10_33 := @C.wpe _ _ K10_33.eq_1
def K10_34 : Pl := .st (.act none (.px (some 21) (.mv (.v 20)))) <|
    .st (.act none (.px (some 22) (.extract 0 (.v 21)))) <|
    .st (.act none (.px (some 23) (.extract 1 (.v 21)))) <|
    .st (.act none (.pnew 5 (.c (.agg #[.slice none 0 0, .slice none 0 0])) [])) <|
    .st (.act none (.pset none 5 0 2 (.v 22))) <|
    .st (.act none (.px (some 6) (.mv (.v 23)))) .done
@[simp] def W10_34 := @Pl.wpe _ _ K10_34.eq_1
def K10_35 : C := .seq (.pl <| .st (.ext 19 5) <|
    .st (.act none (.pget (some 19) none 2 0 (some 2))) <|
    .st (.act none (.ex (some 20) (.call fn_impl_BuildGraph [.v 19]))) K10_34) K10_33
@[simp] def W10_35 := @C.wpe _ _ K10_35.eq_1
def B_impl_DeadEdges : C := .seq (.pl <| .st (.ext 19 0) <|
    .st (.act none (.pnew 2 (.v 0) [])) <|
    .st (.act none (.px (some 3) (.mv (.c (.slice none 0 0))))) <|
    .st (.act none (.px (some 4) (.mv (.c (.bool false))))) .done) K10_35
@[simp] def WB_impl_DeadEdges := @C.wpe _ _ B_impl_DeadEdges.eq_1
def R_impl_DeadEdges : FIR := ⟨B_impl_DeadEdges, 19, [(3, none), (4, none)]⟩
theorem IR_impl_DeadEdges : cfun Tryz.prog H_impl_DeadEdges Tryz.f10 = some R_impl_DeadEdges := by kernel_rfl
theorem EN_impl_DeadEdges {args : List Value} {h : Heap} {k : Value → Heap → Prop} (hargs : args.length = 2) (hw : B_impl_DeadEdges.wp Tryz.prog (retQ [(3, none), (4, none)] k) (env0 args 19) h) : CallE Tryz.prog fn_impl_DeadEdges args h k := enter Tryz.func10 rfl IR_impl_DeadEdges hargs hw

def H_laws_FnExactDeadEdges : Hint := ⟨[(0, false), (1, false), (2, true), (4, false), (5, false), (6, false), (7, false), (8, true), (9, false), (10, false), (11, false), (12, false), (13, false), (14, false), (15, false)], []⟩
def K3_1 : C := .seq (.pl <| .st (.ext 15 0) <|
    .st (.act none (.px (some 3) (.mv (.c (.bool true))))) .done) (.ret)
@[simp] def W3_1 := @C.wpe _ _ K3_1.eq_1
def K3_2 : C := .seq (.pl <| .st (.ext 15 0) <|
    .st (.act none (.px (some 3) (.mv (.c (.bool false))))) .done) (.ret)
@[simp] def W3_2 := @C.wpe _ _ K3_2.eq_1
def K3_3 : C := .cond 15 (.v 17) K3_2 (.skip)
@[simp] def W3_3 := @C.wpe _ _ K3_3.eq_1
def K3_4 : C := .seq (.seq (.pl <| .st (.ext 15 3) <|
    .st (.act none (.px (some 15) (.mv (.v 12)))) <|
    .st (.act none (.px (some 16) (.mv (.v 11)))) <|
    .st (.act none (.px (some 17) (.bin .neq (.v 15) (.v 16)))) .done) K3_3) K3_1
@[simp] def W3_4 := @C.wpe _ _ K3_4.eq_1
def K3_5 : C := .seq (.pl <| .st (.ext 15 0) <|
    .st (.act none (.px (some 3) (.mv (.c (.bool false))))) .done) (.ret)
@[simp] def W3_5 := @C.wpe _ _ K3_5.eq_1
def K3_6 : C := .cond 15 (.v 16) K3_5 (.skip)
@[simp] def W3_6 := @C.wpe _ _ K3_6.eq_1
def K3_7 : C := .seq (.seq (.pl <| .st (.ext 15 2) <|
    .st (.act none (.px (some 15) (.mv (.v 12)))) <|
    .st (.act none (.px (some 16) (.bin .lss (.v 15) (.c (.int .i64 0))))) .done) K3_6) K3_4
@[simp] def W3_7 := @C.wpe _ _ K3_7.eq_1
def K3_8 : Pl := .st (.act none (.px (some 12) (.mv (.v 17)))) .done
@[simp] def W3_8 := @Pl.wpe _ _ K3_8.eq_1
def K3_9 : C := .seq (.pl <| .st (.ext 15 3) <|
    .st (.act none (.px (some 15) (.mv (.v 8)))) <|
    .st (.act none (.px (some 16) (.mv (.v 12)))) <|
    .st (.act none (.ex (some 17) (.call fn_laws_heldBoolS [.v 15, .v 16]))) K3_8) K3_7
@[simp] def W3_9 := @C.wpe _ _ K3_9.eq_1
def K3_10 : C := .seq (.pl <| .st (.ext 15 0) <|
    .st (.act none (.px (some 12) (.mv (.c (.int .i64 1))))) .done) K3_9
@[simp] def W3_10 := @C.wpe _ _ K3_10.eq_1
def K3_11 : C := .seq (.pl <| .st (.ext 15 0) <|
    .st (.act none (.px (some 3) (.mv (.c (.bool false))))) .done) (.ret)
@[simp] def W3_11 := @C.wpe _ _ K3_11.eq_1
def K3_12 : C := .cond 15 (.v 23) K3_11 (.skip)
@[simp] def W3_12 := @C.wpe _ _ K3_12.eq_1
def K3_13 : Pl := .st (.act none (.px (some 18) (.un .not (.v 17)))) <|
    .st (.act none (.px (some 19) (.mv (.v 18)))) <|
    .st (.act (some (.v 19, false)) (.px (some 20) (.mv (.v 14)))) <|
    .st (.act (some (.v 19, false)) (.px (some 21) (.mv (.v 6)))) <|
    .st (.act (some (.v 19, false)) (.px (some 22) (.eqb true (.v 20) (.v 21)))) <|
    .st (.act none (.px (some 23) (.pick (.v 19) (.c (.bool true)) (.v 22)))) .done
@[simp] def W3_13 := @Pl.wpe _ _ K3_13.eq_1
def K3_14 : C := .seq (.seq (.pl <| .st (.ext 15 9) <|
    .st (.act none (.px (some 15) (.mv (.v 13)))) <|
    .st (.act none (.px (some 16) (.mv (.v 5)))) <|
    .st (.act none (.ex (some 17) (.call fn_laws_eqBoolS [.v 15, .v 16]))) K3_13) K3_12) K3_10
@[simp] def W3_14 := @C.wpe _ _ K3_14.eq_1
def K3_15 : Pl := .st (.act none (.px (some 19) (.mv (.v 18)))) <|
    .st (.act none (.px (some 20) (.extract 0 (.v 19)))) <|
    .st (.act none (.px (some 21) (.extract 1 (.v 19)))) <|
    .st (.act none (.px (some 13) (.mv (.v 20)))) <|
    .st (.act none (.px (some 14) (.mv (.v 21)))) .done
@[simp] def W3_15 := @Pl.wpe _ _ K3_15.eq_1
def K3_16 : Pl := .st (.act none (.px (some 17) (.mv (.v 1)))) <|
    .st (.act none (.ex (some 18) (.call fn_impl_DeadEdges [.v 16, .v 17]))) K3_15
@[simp] def W3_16 := @Pl.wpe _ _ K3_16.eq_1
def K3_17 : C := .seq (.pl <| .st (.ext 15 7) <|
    .st (.act none (.pget (some 15) none 2 0 (some 2))) <|
    .st (.act none (.ex (some 16) (.call fn_laws_toSystem [.v 15]))) K3_16) K3_14
@[simp] def W3_17 := @C.wpe _ _ K3_17.eq_1
def K3_18 : C := .seq (.pl <| .st (.ext 15 0) <|
    .st (.act none (.px (some 3) (.mv (.c (.bool false))))) .done) (.ret)
@[simp] def W3_18 := @C.wpe _ _ K3_18.eq_1
def K3_19 : C := .cond 15 (.v 17) K3_18 (.skip)
@[simp] def W3_19 := @C.wpe _ _ K3_19.eq_1
def K3_20 : C := .seq (.seq (.pl <| .st (.ext 15 3) <|
    .st (.act none (.px (some 15) (.mv (.v 12)))) <|
    .st (.act none (.px (some 16) (.mv (.v 11)))) <|
    .st (.act none (.px (some 17) (.bin .neq (.v 15) (.v 16)))) .done) K3_19) K3_17
@[simp] def W3_20 := @C.wpe _ _ K3_20.eq_1
def K3_21 : C := .seq (.pl <| .st (.ext 15 0) <|
    .st (.act none (.px (some 3) (.mv (.c (.bool false))))) .done) (.ret)
@[simp] def W3_21 := @C.wpe _ _ K3_21.eq_1
def K3_22 : C := .cond 15 (.v 16) K3_21 (.skip)
@[simp] def W3_22 := @C.wpe _ _ K3_22.eq_1
def K3_23 : C := .seq (.seq (.pl <| .st (.ext 15 2) <|
    .st (.act none (.px (some 15) (.mv (.v 12)))) <|
    .st (.act none (.px (some 16) (.bin .lss (.v 15) (.c (.int .i64 0))))) .done) K3_22) K3_20
@[simp] def W3_23 := @C.wpe _ _ K3_23.eq_1
def K3_24 : Pl := .st (.act none (.px (some 12) (.mv (.v 17)))) .done
@[simp] def W3_24 := @Pl.wpe _ _ K3_24.eq_1
def K3_25 : C := .seq (.pl <| .st (.ext 15 3) <|
    .st (.act none (.px (some 15) (.mv (.v 8)))) <|
    .st (.act none (.px (some 16) (.mv (.v 12)))) <|
    .st (.act none (.ex (some 17) (.call fn_laws_heldBoolS [.v 15, .v 16]))) K3_24) K3_23
@[simp] def W3_25 := @C.wpe _ _ K3_25.eq_1
def K3_26 : C := .seq (.pl <| .st (.ext 15 0) <|
    .st (.act none (.px (some 12) (.mv (.c (.int .i64 1))))) .done) K3_25
@[simp] def W3_26 := @C.wpe _ _ K3_26.eq_1
def K3_27 : Pl := .st (.act none (.px (some 11) (.mv (.v 17)))) .done
@[simp] def W3_27 := @Pl.wpe _ _ K3_27.eq_1
def K3_28 : C := .seq (.pl <| .st (.ext 15 3) <|
    .st (.act none (.px (some 15) (.mv (.v 8)))) <|
    .st (.act none (.px (some 16) (.mv (.v 11)))) <|
    .st (.act none (.ex (some 17) (.call fn_laws_markBoolS [.v 15, .v 16]))) K3_27) K3_26
@[simp] def W3_28 := @C.wpe _ _ K3_28.eq_1
def K3_29 : C := .seq (.pl <| .st (.ext 15 0) <|
    .st (.act none (.px (some 11) (.mv (.c (.int .i64 1))))) .done) K3_28
@[simp] def W3_29 := @C.wpe _ _ K3_29.eq_1
def K3_30 : C := .seq (.pl <| .st (.ext 15 0) <|
    .st (.act none (.px (some 3) (.mv (.c (.bool false))))) .done) (.ret)
@[simp] def W3_30 := @C.wpe _ _ K3_30.eq_1
def K3_31 : C := .cond 15 (.v 27) K3_30 (.skip)
@[simp] def W3_31 := @C.wpe _ _ K3_31.eq_1
def K3_32 : Pl := .st (.act (some (.v 17, false)) (.px (some 21) (.un .not (.v 20)))) <|
    .st (.act none (.px (some 22) (.pick (.v 17) (.c (.bool true)) (.v 21)))) <|
    .st (.act none (.px (some 23) (.mv (.v 22)))) <|
    .st (.act (some (.v 23, false)) (.px (some 24) (.mv (.v 9)))) <|
    .st (.act (some (.v 23, false)) (.px (some 25) (.mv (.v 6)))) <|
    .st (.act (some (.v 23, false)) (.px (some 26) (.eqb true (.v 24) (.v 25)))) <|
    .st (.act none (.px (some 27) (.pick (.v 23) (.c (.bool true)) (.v 26)))) .done
@[simp] def W3_32 := @Pl.wpe _ _ K3_32.eq_1
def K3_33 : C := .seq (.seq (.pl <| .st (.ext 15 13) <|
    .st (.act none (.px (some 15) (.mv (.v 10)))) <|
    .st (.act none (.px (some 16) (.bin .lss (.v 15) (.c (.int .i64 0))))) <|
    .st (.act none (.px (some 17) (.mv (.v 16)))) <|
    .st (.act (some (.v 17, false)) (.px (some 18) (.mv (.v 8)))) <|
    .st (.act (some (.v 17, false)) (.px (some 19) (.mv (.v 5)))) <|
    .st (.act (some (.v 17, false)) (.ex (some 20) (.call fn_laws_eqBoolS [.v 18, .v 19]))) K3_32) K3_31) K3_29
@[simp] def W3_33 := @C.wpe _ _ K3_33.eq_1
def K3_34 : Pl := .st (.act none (.px (some 10) (.mv (.v 17)))) .done
@[simp] def W3_34 := @Pl.wpe _ _ K3_34.eq_1
def K3_35 : C := .seq (.pl <| .st (.ext 15 3) <|
    .st (.act none (.pget (some 15) none 7 0 (some 2))) <|
    .st (.act none (.px (some 16) (.mv (.v 10)))) <|
    .st (.act none (.ex (some 17) (.call fn_laws_markSystem [.v 15, .v 16]))) K3_34) K3_33
@[simp] def W3_35 := @C.wpe _ _ K3_35.eq_1
def K3_36 : C := .seq (.pl <| .st (.ext 15 0) <|
    .st (.act none (.px (some 10) (.mv (.c (.int .i64 1))))) .done) K3_35
@[simp] def W3_36 := @C.wpe _ _ K3_36.eq_1
def K3_37 : C := .seq (.pl <| .st (.ext 15 0) <|
    .st (.act none (.px (some 3) (.mv (.c (.bool false))))) .done) (.ret)
@[simp] def W3_37 := @C.wpe _ _ K3_37.eq_1
def K3_38 : C := .cond 15 (.v 19) K3_37 (.skip)
@[simp] def W3_38 := @C.wpe _ _ K3_38.eq_1
def K3_39 : Pl := .st (.act none (.px (some 19) (.un .not (.v 18)))) .done
@[simp] def W3_39 := @Pl.wpe _ _ K3_39.eq_1
def K3_40 : Pl := .st (.act none (.ex (some 18) (.call fn_laws_eqSystem [.v 15, .v 17]))) K3_39
@[simp] def W3_40 := @Pl.wpe _ _ K3_40.eq_1
def K3_41 : C := .seq (.seq (.pl <| .st (.ext 15 5) <|
    .st (.act none (.pget (some 15) none 7 0 (some 2))) <|
    .st (.act none (.pget (some 16) none 2 0 (some 2))) <|
    .st (.act none (.ex (some 17) (.call fn_laws_toSystem [.v 16]))) K3_40) K3_38) K3_36
@[simp] def W3_41 := @C.wpe _ _ K3_41.eq_1
def K3_42 : C := .seq (.pl <| .st (.ext 15 0) <|
    .st (.act none (.px (some 3) (.mv (.c (.bool false))))) .done) (.ret)
@[simp] def W3_42 := @C.wpe _ _ K3_42.eq_1
def K3_43 : C := .cond 15 (.v 23) K3_42 (.skip)
@[simp] def W3_43 := @C.wpe _ _ K3_43.eq_1
def K3_44 : Pl := .st (.act none (.px (some 18) (.un .not (.v 17)))) <|
    .st (.act none (.px (some 19) (.mv (.v 18)))) <|
    .st (.act (some (.v 19, false)) (.px (some 20) (.mv (.v 9)))) <|
    .st (.act (some (.v 19, false)) (.px (some 21) (.mv (.v 6)))) <|
    .st (.act (some (.v 19, false)) (.px (some 22) (.eqb true (.v 20) (.v 21)))) <|
    .st (.act none (.px (some 23) (.pick (.v 19) (.c (.bool true)) (.v 22)))) .done
@[simp] def W3_44 := @Pl.wpe _ _ K3_44.eq_1
def K3_45 : C := .seq (.seq (.pl <| .st (.ext 15 9) <|
    .st (.act none (.px (some 15) (.mv (.v 8)))) <|
    .st (.act none (.px (some 16) (.mv (.v 5)))) <|
    .st (.act none (.ex (some 17) (.call fn_laws_eqBoolS [.v 15, .v 16]))) K3_44) K3_43) K3_41
@[simp] def W3_45 := @C.wpe _ _ K3_45.eq_1
def K3_46 : Pl := .st (.act none (.px (some 18) (.mv (.v 17)))) <|
    .st (.act none (.px (some 19) (.extract 0 (.v 18)))) <|
    .st (.act none (.px (some 20) (.extract 1 (.v 18)))) <|
    .st (.act none (.px (some 8) (.mv (.v 19)))) <|
    .st (.act none (.px (some 9) (.mv (.v 20)))) .done
@[simp] def W3_46 := @Pl.wpe _ _ K3_46.eq_1
def K3_47 : C := .seq (.pl <| .st (.ext 15 6) <|
    .st (.act none (.pget (some 15) none 7 0 (some 2))) <|
    .st (.act none (.px (some 16) (.mv (.v 1)))) <|
    .st (.act none (.ex (some 17) (.call fn_impl_DeadEdges [.v 15, .v 16]))) K3_46) K3_45
@[simp] def W3_47 := @C.wpe _ _ K3_47.eq_1
def K3_48 : Pl := .st (.act none (.pnew 7 (.c (.agg #[.slice none 0 0, .slice none 0 0])) [])) <|
    .st (.act none (.pset none 7 0 2 (.v 16))) .done
@[simp] def W3_48 := @Pl.wpe _ _ K3_48.eq_1
def K3_49 : C := .seq (.pl <| .st (.ext 15 2) <|
    .st (.act none (.pget (some 15) none 2 0 (some 2))) <|
    .st (.act none (.ex (some 16) (.call fn_laws_toSystem [.v 15]))) K3_48) K3_47
@[simp] def W3_49 := @C.wpe _ _ K3_49.eq_1
def K3_50 : Pl := .st (.act none (.px (some 19) (.mv (.v 18)))) <|
    .st (.act none (.px (some 20) (.extract 0 (.v 19)))) <|
    .st (.act none (.px (some 21) (.extract 1 (.v 19)))) <|
    .st (.act none (.px (some 5) (.mv (.v 20)))) <|
    .st (.act none (.px (some 6) (.mv (.v 21)))) .done
@[simp] def W3_50 := @Pl.wpe _ _ K3_50.eq_1
def K3_51 : Pl := .st (.act none (.px (some 17) (.mv (.v 1)))) <|
    .st (.act none (.ex (some 18) (.call fn_spec_DeadEdges [.v 16, .v 17]))) K3_50
@[simp] def W3_51 := @Pl.wpe _ _ K3_51.eq_1
def K3_52 : C := .seq (.pl <| .st (.ext 15 7) <|
    .st (.act none (.pget (some 15) none 2 0 (some 2))) <|
    .st (.act none (.ex (some 16) (.call fn_laws_toSystem [.v 15]))) K3_51) K3_49
@[simp] def W3_52 := @C.wpe _ _ K3_52.eq_1
def K3_53 : C := .seq (.pl <| .st (.ext 15 0) <|
    .st (.act none (.px (some 3) (.mv (.c (.bool true))))) .done) (.ret)
@[simp] def W3_53 := @C.wpe _ _ K3_53.eq_1
def K3_54 : C := .cond 15 (.v 16) K3_53 (.skip)
@[simp] def W3_54 := @C.wpe _ _ K3_54.eq_1
def K3_55 : C := .seq (.seq (.pl <| .st (.ext 15 2) <|
    .st (.act none (.px (some 15) (.mv (.v 4)))) <|
    .st (.act none (.px (some 16) (.bin .lss (.v 15) (.c (.int .i64 0))))) .done) K3_54) K3_52
@[simp] def W3_55 := @C.wpe _ _ K3_55.eq_1
def K3_56 : Pl := .st (.act none (.px (some 4) (.mv (.v 17)))) .done
@[simp] def W3_56 := @Pl.wpe _ _ K3_56.eq_1
def K3_57 : C := .seq (.pl <| .st (.ext 15 3) <|
    .st (.act none (.pget (some 15) none 2 0 (some 2))) <|
    .st (.act none (.px (some 16) (.mv (.v 4)))) <|
    .st (.act none (.ex (some 17) (.call fn_laws_szSystem [.v 15, .v 16]))) K3_56) K3_55
@[simp] def W3_57 := @C.wpe _ _ K3_57.eq_1
def K3_58 : C := .seq (.pl <| .st (.ext 15 0) <|
    .st (.act none (.px (some 4) (.mv (.c (.int .i64 1048576))))) .done) K3_57
@[simp] def W3_58 := @C.wpe _ _ K3_58.eq_1
def B_laws_FnExactDeadEdges : C := .seq (.pl <| .st (.ext 15 0) <|
    .st (.act none (.pnew 2 (.v 0) [])) <|
    .st (.act none (.px (some 3) (.mv (.c (.bool false))))) .done) K3_58
@[simp] def WB_laws_FnExactDeadEdges := @C.wpe _ _ B_laws_FnExactDeadEdges.eq_1
def R_laws_FnExactDeadEdges : FIR := ⟨B_laws_FnExactDeadEdges, 15, [(3, none)]⟩
theorem IR_laws_FnExactDeadEdges : cfun Tryz.prog H_laws_FnExactDeadEdges Tryz.f3 = some R_laws_FnExactDeadEdges := by kernel_rfl
theorem EN_laws_FnExactDeadEdges {args : List Value} {h : Heap} {k : Value → Heap → Prop} (hargs : args.length = 2) (hw : B_laws_FnExactDeadEdges.wp Tryz.prog (retQ [(3, none)] k) (env0 args 15) h) : CallE Tryz.prog fn_laws_FnExactDeadEdges args h k := enter Tryz.func3 rfl IR_laws_FnExactDeadEdges hargs hw

def H_laws_eqBoolS : Hint := ⟨[(0, false), (1, false), (4, false), (5, false)], [[2]]⟩
def K11_1 : C := .seq (.pl <| .st (.ext 4 0) <|
    .st (.act none (.px (some 2) (.mv (.c (.bool true))))) .done) (.ret)
@[simp] def W11_1 := @C.wpe _ _ K11_1.eq_1
def K11_2 : C := .pl <| .st (.ext 4 2) <|
    .st (.act none (.px (some 4) (.mv (.v 3)))) <|
    .st (.act none (.px (some 5) (.bin .add (.v 4) (.c (.int .i64 1))))) <|
    .st (.act none (.px (some 3) (.mv (.v 5)))) .done
@[simp] def W11_2 := @C.wpe _ _ K11_2.eq_1
def K11_3 : C := .seq (.pl <| .st (.ext 4 0) <|
    .st (.act none (.px (some 2) (.mv (.c (.bool false))))) .done) (.ret)
@[simp] def W11_3 := @C.wpe _ _ K11_3.eq_1
def K11_4 : C := .cond 4 (.v 12) K11_3 (.skip)
@[simp] def W11_4 := @C.wpe _ _ K11_4.eq_1
def K11_5 : C := .seq (.block 1 (.seq (.pl <| .st (.ext 4 9) <|
    .st (.act none (.px (some 4) (.mv (.v 0)))) <|
    .st (.act none (.px (some 5) (.mv (.v 3)))) <|
    .st (.act none (.px (some 6) (.ia 1 (.v 4) (.v 5)))) <|
    .st (.act none (.ld (some 7) (.v 6) none)) <|
    .st (.act none (.px (some 8) (.mv (.v 1)))) <|
    .st (.act none (.px (some 9) (.mv (.v 3)))) <|
    .st (.act none (.px (some 10) (.ia 1 (.v 8) (.v 9)))) <|
    .st (.act none (.ld (some 11) (.v 10) none)) <|
    .st (.act none (.px (some 12) (.eqb true (.v 7) (.v 11)))) .done) K11_4)) K11_2
@[simp] def W11_5 := @C.wpe _ _ K11_5.eq_1
def K11_6 : C := .cond 4 (.v 7) (.skip) (.exit 0)
@[simp] def W11_6 := @C.wpe _ _ K11_6.eq_1
def K11_7 : C := .seq (.seq (.pl <| .st (.ext 4 4) <|
    .st (.act none (.px (some 4) (.mv (.v 3)))) <|
    .st (.act none (.px (some 5) (.mv (.v 0)))) <|
    .st (.act none (.px (some 6) (.lenV (.v 5)))) <|
    .st (.act none (.px (some 7) (.bin .lss (.v 4) (.v 6)))) .done) K11_6) K11_5
@[simp] def W11_7 := @C.wpe _ _ K11_7.eq_1
def K11_8 : C := .block 0 (.loop 4 [2] K11_7)
@[simp] def W11_8 := @C.wpe _ _ K11_8.eq_1
def K11_9 : C := .seq (.seq (.pl <| .st (.ext 4 0) <|
    .st (.act none (.px (some 3) (.mv (.c (.int .i64 0))))) .done) K11_8) K11_1
@[simp] def W11_9 := @C.wpe _ _ K11_9.eq_1
def K11_10 : C := .seq (.pl <| .st (.ext 4 0) <|
    .st (.act none (.px (some 2) (.mv (.c (.bool false))))) .done) (.ret)
@[simp] def W11_10 := @C.wpe _ _ K11_10.eq_1
def K11_11 : C := .cond 4 (.v 8) K11_10 (.skip)
@[simp] def W11_11 := @C.wpe _ _ K11_11.eq_1
def K11_12 : C := .seq (.seq (.pl <| .st (.ext 4 5) <|
    .st (.act none (.px (some 4) (.mv (.v 0)))) <|
    .st (.act none (.px (some 5) (.lenV (.v 4)))) <|
    .st (.act none (.px (some 6) (.mv (.v 1)))) <|
    .st (.act none (.px (some 7) (.lenV (.v 6)))) <|
    .st (.act none (.px (some 8) (.bin .neq (.v 5) (.v 7)))) .done) K11_11) K11_9
@[simp] def W11_12 := @C.wpe _ _ K11_12.eq_1
def B_laws_eqBoolS : C := .seq (.pl <| .st (.ext 4 0) <|
    .st (.act none (.px (some 2) (.mv (.c (.bool false))))) .done) K11_12
@[simp] def WB_laws_eqBoolS := @C.wpe _ _ B_laws_eqBoolS.eq_1
def R_laws_eqBoolS : FIR := ⟨B_laws_eqBoolS, 4, [(2, none)]⟩
theorem IR_laws_eqBoolS : cfun Tryz.prog H_laws_eqBoolS Tryz.f11 = some R_laws_eqBoolS := by kernel_rfl
theorem EN_laws_eqBoolS {args : List Value} {h : Heap} {k : Value → Heap → Prop} (hargs : args.length = 2) (hw : B_laws_eqBoolS.wp Tryz.prog (retQ [(2, none)] k) (env0 args 4) h) : CallE Tryz.prog fn_laws_eqBoolS args h k := enter Tryz.func11 rfl IR_laws_eqBoolS hargs hw

def H_laws_heldBoolS : Hint := ⟨[(0, false), (1, false), (4, false), (5, false)], [[2]]⟩
def K15_1 : C := .seq (.pl <| .st (.ext 4 1) <|
    .st (.act none (.px (some 4) (.mv (.v 1)))) <|
    .st (.act none (.px (some 2) (.mv (.v 4)))) .done) (.ret)
@[simp] def W15_1 := @C.wpe _ _ K15_1.eq_1
def K15_2 : C := .pl <| .st (.ext 4 2) <|
    .st (.act none (.px (some 4) (.mv (.v 3)))) <|
    .st (.act none (.px (some 5) (.bin .add (.v 4) (.c (.int .i64 1))))) <|
    .st (.act none (.px (some 3) (.mv (.v 5)))) .done
@[simp] def W15_2 := @C.wpe _ _ K15_2.eq_1
def K15_3 : C := .pl <| .st (.ext 4 2) <|
    .st (.act none (.px (some 4) (.mv (.v 1)))) <|
    .st (.act none (.px (some 5) (.bin .add (.v 4) (.c (.int .i64 1))))) <|
    .st (.act none (.px (some 1) (.mv (.v 5)))) .done
@[simp] def W15_3 := @C.wpe _ _ K15_3.eq_1
def K15_4 : C := .seq (.pl <| .st (.ext 4 0) <|
    .st (.act none (.px (some 2) (.mv (.c (.int .i64 (-1)))))) .done) (.ret)
@[simp] def W15_4 := @C.wpe _ _ K15_4.eq_1
def K15_5 : C := .cond 4 (.v 11) K15_4 (.skip)
@[simp] def W15_5 := @C.wpe _ _ K15_5.eq_1
def K15_6 : C := .seq (.block 1 (.seq (.seq (.pl <| .st (.ext 4 8) <|
    .st (.act none (.px (some 4) (.mv (.v 0)))) <|
    .st (.act none (.px (some 5) (.mv (.v 3)))) <|
    .st (.act none (.px (some 6) (.ia 1 (.v 4) (.v 5)))) <|
    .st (.act none (.ld (some 7) (.v 6) none)) <|
    .st (.act none (.px (some 8) (.mv (.v 1)))) <|
    .st (.act none (.px (some 9) (.bin .rem (.v 8) (.c (.int .i64 3))))) <|
    .st (.act none (.px (some 10) (.bin .eql (.v 9) (.c (.int .i64 0))))) <|
    .st (.act none (.px (some 11) (.eqb true (.v 7) (.v 10)))) .done) K15_5) K15_3)) K15_2
@[simp] def W15_6 := @C.wpe _ _ K15_6.eq_1
def K15_7 : C := .cond 4 (.v 7) (.skip) (.exit 0)
@[simp] def W15_7 := @C.wpe _ _ K15_7.eq_1
def K15_8 : C := .seq (.seq (.pl <| .st (.ext 4 4) <|
    .st (.act none (.px (some 4) (.mv (.v 3)))) <|
    .st (.act none (.px (some 5) (.mv (.v 0)))) <|
    .st (.act none (.px (some 6) (.lenV (.v 5)))) <|
    .st (.act none (.px (some 7) (.bin .lss (.v 4) (.v 6)))) .done) K15_7) K15_6
@[simp] def W15_8 := @C.wpe _ _ K15_8.eq_1
def K15_9 : C := .block 0 (.loop 4 [2] K15_8)
@[simp] def W15_9 := @C.wpe _ _ K15_9.eq_1
def K15_10 : C := .seq (.seq (.pl <| .st (.ext 4 0) <|
    .st (.act none (.px (some 3) (.mv (.c (.int .i64 0))))) .done) K15_9) K15_1
@[simp] def W15_10 := @C.wpe _ _ K15_10.eq_1
def B_laws_heldBoolS : C := .seq (.pl <| .st (.ext 4 0) <|
    .st (.act none (.px (some 2) (.mv (.c (.int .i64 0))))) .done) K15_10
@[simp] def WB_laws_heldBoolS := @C.wpe _ _ B_laws_heldBoolS.eq_1
def R_laws_heldBoolS : FIR := ⟨B_laws_heldBoolS, 4, [(2, none)]⟩
theorem IR_laws_heldBoolS : cfun Tryz.prog H_laws_heldBoolS Tryz.f15 = some R_laws_heldBoolS := by kernel_rfl
theorem EN_laws_heldBoolS {args : List Value} {h : Heap} {k : Value → Heap → Prop} (hargs : args.length = 2) (hw : B_laws_heldBoolS.wp Tryz.prog (retQ [(2, none)] k) (env0 args 4) h) : CallE Tryz.prog fn_laws_heldBoolS args h k := enter Tryz.func15 rfl IR_laws_heldBoolS hargs hw

def H_laws_markBoolS : Hint := ⟨[(0, false), (1, false), (4, false), (5, false)], [[2]]⟩
def K14_1 : C := .seq (.pl <| .st (.ext 4 1) <|
    .st (.act none (.px (some 4) (.mv (.v 1)))) <|
    .st (.act none (.px (some 2) (.mv (.v 4)))) .done) (.ret)
@[simp] def W14_1 := @C.wpe _ _ K14_1.eq_1
def K14_2 : C := .pl <| .st (.ext 4 2) <|
    .st (.act none (.px (some 4) (.mv (.v 3)))) <|
    .st (.act none (.px (some 5) (.bin .add (.v 4) (.c (.int .i64 1))))) <|
    .st (.act none (.px (some 3) (.mv (.v 5)))) .done
@[simp] def W14_2 := @C.wpe _ _ K14_2.eq_1
def K14_3 : C := .pl <| .st (.ext 4 2) <|
    .st (.act none (.px (some 4) (.mv (.v 1)))) <|
    .st (.act none (.px (some 5) (.bin .add (.v 4) (.c (.int .i64 1))))) <|
    .st (.act none (.px (some 1) (.mv (.v 5)))) .done
@[simp] def W14_3 := @C.wpe _ _ K14_3.eq_1
def K14_4 : C := .seq (.block 1 (.seq (.pl <| .st (.ext 4 6) <|
    .st (.act none (.px (some 4) (.mv (.v 0)))) <|
    .st (.act none (.px (some 5) (.mv (.v 3)))) <|
    .st (.act none (.px (some 6) (.mv (.v 1)))) <|
    .st (.act none (.px (some 7) (.bin .rem (.v 6) (.c (.int .i64 3))))) <|
    .st (.act none (.px (some 8) (.bin .eql (.v 7) (.c (.int .i64 0))))) <|
    .st (.act none (.px (some 9) (.ia 1 (.v 4) (.v 5)))) <|
    .st (.act none (.ex none (.store 1 (.v 9) (.v 8)))) .done) K14_3)) K14_2
@[simp] def W14_4 := @C.wpe _ _ K14_4.eq_1
def K14_5 : C := .cond 4 (.v 7) (.skip) (.exit 0)
@[simp] def W14_5 := @C.wpe _ _ K14_5.eq_1
def K14_6 : C := .seq (.seq (.pl <| .st (.ext 4 4) <|
    .st (.act none (.px (some 4) (.mv (.v 3)))) <|
    .st (.act none (.px (some 5) (.mv (.v 0)))) <|
    .st (.act none (.px (some 6) (.lenV (.v 5)))) <|
    .st (.act none (.px (some 7) (.bin .lss (.v 4) (.v 6)))) .done) K14_5) K14_4
@[simp] def W14_6 := @C.wpe _ _ K14_6.eq_1
def K14_7 : C := .block 0 (.loop 4 [2] K14_6)
@[simp] def W14_7 := @C.wpe _ _ K14_7.eq_1
def K14_8 : C := .seq (.seq (.pl <| .st (.ext 4 0) <|
    .st (.act none (.px (some 3) (.mv (.c (.int .i64 0))))) .done) K14_7) K14_1
@[simp] def W14_8 := @C.wpe _ _ K14_8.eq_1
def B_laws_markBoolS : C := .seq (.pl <| .st (.ext 4 0) <|
    .st (.act none (.px (some 2) (.mv (.c (.int .i64 0))))) .done) K14_8
@[simp] def WB_laws_markBoolS := @C.wpe _ _ B_laws_markBoolS.eq_1
def R_laws_markBoolS : FIR := ⟨B_laws_markBoolS, 4, [(2, none)]⟩
theorem IR_laws_markBoolS : cfun Tryz.prog H_laws_markBoolS Tryz.f14 = some R_laws_markBoolS := by kernel_rfl
theorem EN_laws_markBoolS {args : List Value} {h : Heap} {k : Value → Heap → Prop} (hargs : args.length = 2) (hw : B_laws_markBoolS.wp Tryz.prog (retQ [(2, none)] k) (env0 args 4) h) : CallE Tryz.prog fn_laws_markBoolS args h k := enter Tryz.func14 rfl IR_laws_markBoolS hargs hw

def H_spec_DeadEdges : Hint := ⟨[(0, false), (1, false), (2, true), (4, false), (5, false), (6, true), (7, false), (8, false), (9, false), (10, false), (11, false), (12, false)], [[0, 3, 4, 6, 9, 10, 11], [0, 3, 4, 6, 8, 10, 11], [0, 3, 4, 6, 8]]⟩
def K8_1 : C := .seq (.pl <| .st (.ext 12 1) <|
    .st (.act none (.px (some 12) (.mv (.v 7)))) <|
    .st (.act none (.px (some 3) (.mv (.v 12)))) <|
    .st (.act none (.px (some 4) (.mv (.c (.bool true))))) .done) (.ret)
@[simp] def W8_1 := @C.wpe _ _ K8_1.eq_1
def K8_2 : C := .pl <| .st (.ext 12 2) <|
    .st (.act none (.px (some 12) (.mv (.v 9)))) <|
    .st (.act none (.px (some 13) (.bin .add (.v 12) (.c (.int .i64 1))))) <|
    .st (.act none (.px (some 9) (.mv (.v 13)))) .done
@[simp] def W8_2 := @C.wpe _ _ K8_2.eq_1
def K8_3 : C := .pl <| .st (.ext 12 2) <|
    .st (.act none (.px (some 12) (.mv (.v 11)))) <|
    .st (.act none (.px (some 13) (.bin .add (.v 12) (.c (.int .i64 1))))) <|
    .st (.act none (.px (some 11) (.mv (.v 13)))) .done
@[simp] def W8_3 := @C.wpe _ _ K8_3.eq_1
def K8_4 : C := .pl <| .st (.ext 12 7) <|
    .st (.act none (.px (some 12) (.mv (.v 7)))) <|
    .st (.act none (.px (some 13) (.mv (.v 10)))) <|
    .st (.act none (.px (some 14) (.mv (.v 11)))) <|
    .st (.act none (.px (some 15) (.ia 4 (.v 13) (.v 14)))) <|
    .st (.act none (.px (some 16) (.fa 3 (.v 15)))) <|
    .st (.act none (.ld (some 17) (.v 16) none)) <|
    .st (.act none (.px (some 18) (.ia 1 (.v 12) (.v 17)))) <|
    .st (.act none (.ex none (.store 1 (.v 18) (.c (.bool false))))) .done
@[simp] def W8_4 := @C.wpe _ _ K8_4.eq_1
def K8_5 : C := .cond 12 (.v 18) K8_4 (.skip)
@[simp] def W8_5 := @C.wpe _ _ K8_5.eq_1
def K8_6 : C := .seq (.pl <| .st (.ext 12 7) <|
    .st (.act none (.px (some 12) (.mv (.v 10)))) <|
    .st (.act none (.px (some 13) (.mv (.v 11)))) <|
    .st (.act none (.px (some 14) (.ia 4 (.v 12) (.v 13)))) <|
    .st (.act none (.px (some 15) (.fa 2 (.v 14)))) <|
    .st (.act none (.ld (some 16) (.v 15) none)) <|
    .st (.act none (.px (some 17) (.mv (.v 1)))) <|
    .st (.act none (.px (some 18) (.bin .eql (.v 16) (.v 17)))) .done) K8_5
@[simp] def W8_6 := @C.wpe _ _ K8_6.eq_1
def K8_7 : C := .pl <| .st (.ext 12 7) <|
    .st (.act none (.px (some 12) (.mv (.v 7)))) <|
    .st (.act none (.px (some 13) (.mv (.v 10)))) <|
    .st (.act none (.px (some 14) (.mv (.v 11)))) <|
    .st (.act none (.px (some 15) (.ia 4 (.v 13) (.v 14)))) <|
    .st (.act none (.px (some 16) (.fa 1 (.v 15)))) <|
    .st (.act none (.ld (some 17) (.v 16) none)) <|
    .st (.act none (.px (some 18) (.ia 1 (.v 12) (.v 17)))) <|
    .st (.act none (.ex none (.store 1 (.v 18) (.c (.bool false))))) .done
@[simp] def W8_7 := @C.wpe _ _ K8_7.eq_1
def K8_8 : C := .cond 12 (.v 18) K8_7 (.skip)
@[simp] def W8_8 := @C.wpe _ _ K8_8.eq_1
def K8_9 : C := .seq (.block 5 (.seq (.seq (.pl <| .st (.ext 12 7) <|
    .st (.act none (.px (some 12) (.mv (.v 10)))) <|
    .st (.act none (.px (some 13) (.mv (.v 11)))) <|
    .st (.act none (.px (some 14) (.ia 4 (.v 12) (.v 13)))) <|
    .st (.act none (.px (some 15) (.fa 0 (.v 14)))) <|
    .st (.act none (.ld (some 16) (.v 15) none)) <|
    .st (.act none (.px (some 17) (.mv (.v 1)))) <|
    .st (.act none (.px (some 18) (.bin .eql (.v 16) (.v 17)))) .done) K8_8) K8_6)) K8_3
@[simp] def W8_9 := @C.wpe _ _ K8_9.eq_1
def K8_10 : C := .cond 12 (.v 15) (.skip) (.exit 4)
@[simp] def W8_10 := @C.wpe _ _ K8_10.eq_1
def K8_11 : C := .seq (.seq (.pl <| .st (.ext 12 4) <|
    .st (.act none (.px (some 12) (.mv (.v 11)))) <|
    .st (.act none (.px (some 13) (.mv (.v 10)))) <|
    .st (.act none (.px (some 14) (.lenV (.v 13)))) <|
    .st (.act none (.px (some 15) (.bin .lss (.v 12) (.v 14)))) .done) K8_10) K8_9
@[simp] def W8_11 := @C.wpe _ _ K8_11.eq_1
def K8_12 : C := .block 4 (.loop 12 [0, 3, 4, 6, 8] K8_11)
@[simp] def W8_12 := @C.wpe _ _ K8_12.eq_1
def K8_13 : C := .seq (.pl <| .st (.ext 12 0) <|
    .st (.act none (.px (some 11) (.mv (.c (.int .i64 0))))) .done) K8_12
@[simp] def W8_13 := @C.wpe _ _ K8_13.eq_1
def K8_14 : Pl := .st (.act none (.px (some 10) (.mv (.v 18)))) .done
@[simp] def W8_14 := @Pl.wpe _ _ K8_14.eq_1
def K8_15 : C := .seq (.block 3 (.seq (.pl <| .st (.ext 12 7) <|
    .st (.act none (.pget (some 12) none 2 0 (some 2))) <|
    .st (.act none (.als 13 none 5)) <|
    .st (.act none (.pget (some 14) (some 13) 5 0 none)) <|
    .st (.act none (.px (some 15) (.mv (.v 9)))) <|
    .st (.act none (.px (some 16) (.ia 2 (.v 14) (.v 15)))) <|
    .st (.act none (.ld (some 17) (.v 16) (some 2))) <|
    .st (.act none (.ex (some 18) (.call fn_spec_l3Steps [.v 12, .v 17]))) K8_14) K8_13)) K8_2
@[simp] def W8_15 := @C.wpe _ _ K8_15.eq_1
def K8_16 : C := .cond 12 (.v 16) (.skip) (.exit 2)
@[simp] def W8_16 := @C.wpe _ _ K8_16.eq_1
def K8_17 : C := .seq (.seq (.pl <| .st (.ext 12 5) <|
    .st (.act none (.px (some 12) (.mv (.v 9)))) <|
    .st (.act none (.als 13 none 5)) <|
    .st (.act none (.pget (some 14) (some 13) 5 0 none)) <|
    .st (.act none (.px (some 15) (.lenV (.v 14)))) <|
    .st (.act none (.px (some 16) (.bin .lss (.v 12) (.v 15)))) .done) K8_16) K8_15
@[simp] def W8_17 := @C.wpe _ _ K8_17.eq_1
def K8_18 : C := .block 2 (.loop 12 [0, 3, 4, 6, 8, 10, 11] K8_17)
@[simp] def W8_18 := @C.wpe _ _ K8_18.eq_1
def K8_19 : C := .seq (.seq (.pl <| .st (.ext 12 0) <|
    .st (.act none (.px (some 9) (.mv (.c (.int .i64 0))))) .done) K8_18) K8_1
@[simp] def W8_19 := @C.wpe _ _ K8_19.eq_1
def K8_20 : C := .pl <| .st (.ext 12 2) <|
    .st (.act none (.px (some 12) (.mv (.v 8)))) <|
    .st (.act none (.px (some 13) (.bin .add (.v 12) (.c (.int .i64 1))))) <|
    .st (.act none (.px (some 8) (.mv (.v 13)))) .done
@[simp] def W8_20 := @C.wpe _ _ K8_20.eq_1
def K8_21 : Pl := .st (.act none (.px (some 7) (.mv (.v 14)))) .done
@[simp] def W8_21 := @Pl.wpe _ _ K8_21.eq_1
def K8_22 : C := .seq (.block 1 (.pl <| .st (.ext 12 3) <|
    .st (.act none (.px (some 12) (.mv (.v 7)))) <|
    .st (.act none (.psl 13 [.bool false] [(0, 1, .c (.bool true))])) <|
    .st (.act none (.ex (some 14) (.app 1 1 [.bool false] (.o (.v 12)) (.p 1 13)))) K8_21)) K8_20
@[simp] def W8_22 := @C.wpe _ _ K8_22.eq_1
def K8_23 : C := .cond 12 (.v 20) (.skip) (.exit 0)
@[simp] def W8_23 := @C.wpe _ _ K8_23.eq_1
def K8_24 : C := .seq (.seq (.pl <| .st (.ext 12 9) <|
    .st (.act none (.px (some 12) (.mv (.v 8)))) <|
    .st (.act none (.als 13 none 2)) <|
    .st (.act none (.pget (some 14) (some 13) 2 1 none)) <|
    .st (.act none (.px (some 15) (.mv (.v 1)))) <|
    .st (.act none (.px (some 16) (.ia 2 (.v 14) (.v 15)))) <|
    .st (.act none (.px (some 17) (.fa 1 (.v 16)))) <|
    .st (.act none (.ld (some 18) (.v 17) none)) <|
    .st (.act none (.px (some 19) (.lenV (.v 18)))) <|
    .st (.act none (.px (some 20) (.bin .lss (.v 12) (.v 19)))) .done) K8_23) K8_22
@[simp] def W8_24 := @C.wpe _ _ K8_24.eq_1
def K8_25 : C := .block 0 (.loop 12 [0, 3, 4, 6, 9, 10, 11] K8_24)
@[simp] def W8_25 := @C.wpe _ _ K8_25.eq_1
def K8_26 : C := .seq (.seq (.pl <| .st (.ext 12 0) <|
    .st (.act none (.px (some 8) (.mv (.c (.int .i64 0))))) .done) K8_25) K8_19
@[simp] def W8_26 := @C.wpe _ _ K8_26.eq_1
def K8_27 : Pl := .st (.act none (.px (some 7) (.mv (.v 12)))) .done
@[simp] def W8_27 := @Pl.wpe _ _ K8_27.eq_1
def K8_28 : C := .seq (.pl <| .st (.ext 12 1) <|
    .st (.act none (.ex (some 12) (.bls 1 0 [.bool false] []))) K8_27) K8_26
@[simp] def W8_28 := @C.wpe _ _ K8_28.eq_1
def K8_29 : Pl := .st (.act none (.px (some 3) (.mv (.v 12)))) <|
    .st (.act none (.px (some 4) (.mv (.c (.bool false))))) .done
@[simp] def W8_29 := @Pl.wpe _ _ K8_29.eq_1
def K8_30 : C := .seq (.pl <| .st (.ext 12 1) <|
    .st (.act none (.ex (some 12) (.bls 1 0 [.bool false] []))) K8_29) (.ret)
@[simp] def W8_30 := @C.wpe _ _ K8_30.eq_1
def K8_31 : C := .cond 12 (.v 24) K8_30 (.skip)
@[simp] def W8_31 := @C.wpe _ _ K8_31.eq_1
def K8_32 : C := .seq (.seq (.pl <| .st (.ext 12 13) <|
    .st (.act none (.px (some 12) (.mv (.v 6)))) <|
    .st (.act none (.px (some 13) (.un .not (.v 12)))) <|
    .st (.act none (.px (some 14) (.mv (.v 13)))) <|
    .st (.act (some (.v 14, false)) (.px (some 15) (.mv (.v 1)))) <|
    .st (.act (some (.v 14, false)) (.px (some 16) (.bin .lss (.v 15) (.c (.int .i64 0))))) <|
    .st (.act none (.px (some 17) (.pick (.v 14) (.c (.bool true)) (.v 16)))) <|
    .st (.act none (.px (some 18) (.mv (.v 17)))) <|
    .st (.act (some (.v 18, false)) (.px (some 19) (.mv (.v 1)))) <|
    .st (.act (some (.v 18, false)) (.als 20 none 2)) <|
    .st (.act (some (.v 18, false)) (.pget (some 21) (some 20) 2 1 none)) <|
    .st (.act (some (.v 18, false)) (.px (some 22) (.lenV (.v 21)))) <|
    .st (.act (some (.v 18, false)) (.px (some 23) (.bin .geq (.v 19) (.v 22)))) <|
    .st (.act none (.px (some 24) (.pick (.v 18) (.c (.bool true)) (.v 23)))) .done) K8_31) K8_28
@[simp] def W8_32 := @C.wpe _ _ K8_32.eq_1
def K8_33 : Pl := .st (.act none (.px (some 14) (.mv (.v 13)))) <|
    .st (.act none (.px (some 15) (.extract 0 (.v 14)))) <|
    .st (.act none (.px (some 16) (.extract 1 (.v 14)))) <|
    .st (.act none (.pnew 5 (.c (.agg #[.slice none 0 0, .slice none 0 0])) [])) <|
    .st (.act none (.pset none 5 0 2 (.v 15))) <|
    .st (.act none (.px (some 6) (.mv (.v 16)))) .done
@[simp] def W8_33 := @Pl.wpe _ _ K8_33.eq_1
def K8_34 : C := .seq (.pl <| .st (.ext 12 5) <|
    .st (.act none (.pget (some 12) none 2 0 (some 2))) <|
    .st (.act none (.ex (some 13) (.call fn_spec_BuildGraph [.v 12]))) K8_33) K8_32
@[simp] def W8_34 := @C.wpe _ _ K8_34.eq_1
def B_spec_DeadEdges : C := .seq (.pl <| .st (.ext 12 0) <|
    .st (.act none (.pnew 2 (.v 0) [])) <|
    .st (.act none (.px (some 3) (.mv (.c (.slice none 0 0))))) <|
    .st (.act none (.px (some 4) (.mv (.c (.bool false))))) .done) K8_34
@[simp] def WB_spec_DeadEdges := @C.wpe _ _ B_spec_DeadEdges.eq_1
def R_spec_DeadEdges : FIR := ⟨B_spec_DeadEdges, 12, [(3, none), (4, none)]⟩
theorem IR_spec_DeadEdges : cfun Tryz.prog H_spec_DeadEdges Tryz.f8 = some R_spec_DeadEdges := by kernel_rfl
theorem EN_spec_DeadEdges {args : List Value} {h : Heap} {k : Value → Heap → Prop} (hargs : args.length = 2) (hw : B_spec_DeadEdges.wp Tryz.prog (retQ [(3, none), (4, none)] k) (env0 args 12) h) : CallE Tryz.prog fn_spec_DeadEdges args h k := enter Tryz.func8 rfl IR_spec_DeadEdges hargs hw


end Go.Proofs.YthgimpheeemooaaGreat
