/-
  Texts of this proof, one behind the other.
-/
import Derived.Test.YtonjglbachhdcaaM3
/-
  Bodies of functions in the small language, as a program printed them, and that each is what the translation gives.
-/
namespace Go.Proofs.Ytonjglbachhdcaa
open Go
set_option linter.all false
set_option linter.defProp false
set_option maxRecDepth 1000000

def H_impl_DeadEdges : Hint := ⟨[(0, false), (1, false), (2, true), (4, false), (5, false), (6, true), (7, false), (8, false), (9, false), (11, true), (13, true), (39, false), (40, false), (48, false), (49, false), (50, false), (56, false), (57, false), (58, false)], [[0, 3, 4, 6, 8, 9, 10, 13, 14, 15, 16, 17, 18], [0, 3, 4, 5, 6, 8, 9, 10, 11, 12, 16, 17, 18], [0, 3, 4, 5, 6, 8, 9, 10, 11, 12]]⟩
def K15_1 : C := .seq (.pl <| .st (.ext 19 1) <|
    .st (.act none (.px (some 19) (.mv (.v 7)))) <|
    .st (.act none (.px (some 3) (.mv (.v 19)))) <|
    .st (.act none (.px (some 4) (.mv (.c (.bool true))))) .done) (.ret)
@[simp] def W15_1 := @C.wpe _ _ K15_1.eq_1
def K15_2 : C := .pl <| .st (.ext 19 1) <|
    .st (.act none (.px (some 19) (.bin .add (.v 15) (.c (.int .i64 1))))) <|
    .st (.act none (.px (some 15) (.mv (.v 19)))) .done
@[simp] def W15_2 := @C.wpe _ _ K15_2.eq_1
def K15_3 : C := .pl <| .st (.ext 19 1) <|
    .st (.act none (.px (some 19) (.bin .add (.v 18) (.c (.int .i64 1))))) <|
    .st (.act none (.px (some 18) (.mv (.v 19)))) .done
@[simp] def W15_3 := @C.wpe _ _ K15_3.eq_1
def K15_4 : C := .pl <| .st (.ext 19 4) <|
    .st (.act none (.px (some 19) (.mv (.v 7)))) <|
    .st (.act none (.als 20 none 10)) <|
    .st (.act none (.pget (some 21) (some 20) 10 3 none)) <|
    .st (.act none (.px (some 22) (.ia 1 (.v 19) (.v 21)))) <|
    .st (.act none (.ex none (.store 1 (.v 22) (.c (.bool false))))) .done
@[simp] def W15_4 := @C.wpe _ _ K15_4.eq_1
def K15_5 : C := .cond 19 (.v 22) K15_4 (.skip)
@[simp] def W15_5 := @C.wpe _ _ K15_5.eq_1
def K15_6 : C := .seq (.pl <| .st (.ext 19 4) <|
    .st (.act none (.als 19 none 10)) <|
    .st (.act none (.pget (some 20) (some 19) 10 2 none)) <|
    .st (.act none (.px (some 21) (.mv (.v 1)))) <|
    .st (.act none (.px (some 22) (.bin .eql (.v 20) (.v 21)))) .done) K15_5
@[simp] def W15_6 := @C.wpe _ _ K15_6.eq_1
def K15_7 : C := .pl <| .st (.ext 19 4) <|
    .st (.act none (.px (some 19) (.mv (.v 7)))) <|
    .st (.act none (.als 20 none 10)) <|
    .st (.act none (.pget (some 21) (some 20) 10 1 none)) <|
    .st (.act none (.px (some 22) (.ia 1 (.v 19) (.v 21)))) <|
    .st (.act none (.ex none (.store 1 (.v 22) (.c (.bool false))))) .done
@[simp] def W15_7 := @C.wpe _ _ K15_7.eq_1
def K15_8 : C := .cond 19 (.v 22) K15_7 (.skip)
@[simp] def W15_8 := @C.wpe _ _ K15_8.eq_1
def K15_9 : C := .seq (.seq (.pl <| .st (.ext 19 4) <|
    .st (.act none (.als 19 none 10)) <|
    .st (.act none (.pget (some 20) (some 19) 10 0 none)) <|
    .st (.act none (.px (some 21) (.mv (.v 1)))) <|
    .st (.act none (.px (some 22) (.bin .eql (.v 20) (.v 21)))) .done) K15_8) K15_6
@[simp] def W15_9 := @C.wpe _ _ K15_9.eq_1
def K15_10 : C := .seq (.block 5 (.seq (.pl <| .st (.ext 19 2) <|
    .st (.act none (.px (some 19) (.ia 4 (.v 16) (.v 18)))) <|
    .st (.act none (.ld (some 20) (.v 19) (some 4))) <|
    .st (.act none (.pnew 10 (.c (.agg #[.int .i64 0, .int .i64 0, .int .i64 0, .int .i64 0])) [])) <|
    .st (.act none (.pset none 10 0 4 (.v 20))) .done) K15_9)) K15_3
@[simp] def W15_10 := @C.wpe _ _ K15_10.eq_1
def K15_11 : C := .seq (.cond 19 (.v 19) (.skip) (.exit 4)) K15_10
@[simp] def W15_11 := @C.wpe _ _ K15_11.eq_1
def K15_12 : C := .seq (.pl <| .st (.ext 19 1) <|
    .st (.act none (.px (some 19) (.bin .lss (.v 18) (.v 17)))) .done) K15_11
@[simp] def W15_12 := @C.wpe _ _ K15_12.eq_1
def K15_13 : C := .block 4 (.loop 19 [0, 3, 4, 5, 6, 8, 9, 10, 11, 12] K15_12)
@[simp] def W15_13 := @C.wpe _ _ K15_13.eq_1
def K15_14 : Pl := .st (.act none (.px (some 17) (.lenV (.v 16)))) <|
    .st (.act none (.px (some 18) (.mv (.c (.int .i64 0))))) .done
@[simp] def W15_14 := @Pl.wpe _ _ K15_14.eq_1
def K15_15 : C := .seq (.pl <| .st (.ext 19 2) <|
    .st (.act none (.pget (some 19) none 2 0 (some 2))) <|
    .st (.act none (.pget (some 20) none 9 0 (some 2))) <|
    .st (.act none (.ex (some 16) (.call fn_impl_System_enabled [.v 19, .v 20]))) K15_14) K15_13
@[simp] def W15_15 := @C.wpe _ _ K15_15.eq_1
def K15_16 : C := .seq (.block 3 (.seq (.pl <| .st (.ext 19 2) <|
    .st (.act none (.px (some 19) (.ia 2 (.v 13) (.v 15)))) <|
    .st (.act none (.ld (some 20) (.v 19) (some 2))) <|
    .st (.act none (.pnew 9 (.c (.agg #[.slice none 0 0, .slice none 0 0])) [])) <|
    .st (.act none (.pset none 9 0 2 (.v 20))) .done) K15_15)) K15_2
@[simp] def W15_16 := @C.wpe _ _ K15_16.eq_1
def K15_17 : C := .seq (.cond 19 (.v 19) (.skip) (.exit 2)) K15_16
@[simp] def W15_17 := @C.wpe _ _ K15_17.eq_1
def K15_18 : C := .seq (.pl <| .st (.ext 19 1) <|
    .st (.act none (.px (some 19) (.bin .lss (.v 15) (.v 14)))) .done) K15_17
@[simp] def W15_18 := @C.wpe _ _ K15_18.eq_1
def K15_19 : C := .block 2 (.loop 19 [0, 3, 4, 5, 6, 8, 9, 10, 11, 12, 16, 17, 18] K15_18)
@[simp] def W15_19 := @C.wpe _ _ K15_19.eq_1
def K15_20 : C := .seq (.seq (.pl <| .st (.ext 19 1) <|
    .st (.act none (.als 19 none 5)) <|
    .st (.act none (.pget (some 13) (some 19) 5 0 none)) <|
    .st (.act none (.px (some 14) (.lenV (.v 13)))) <|
    .st (.act none (.px (some 15) (.mv (.c (.int .i64 0))))) .done) K15_19) K15_1
@[simp] def W15_20 := @C.wpe _ _ K15_20.eq_1
def K15_21 : C := .pl <| .st (.ext 19 1) <|
    .st (.act none (.px (some 19) (.bin .add (.v 12) (.c (.int .i64 1))))) <|
    .st (.act none (.px (some 12) (.mv (.v 19)))) .done
@[simp] def W15_21 := @C.wpe _ _ K15_21.eq_1
def K15_22 : C := .pl <| .st (.ext 19 3) <|
    .st (.act none (.px (some 19) (.mv (.v 7)))) <|
    .st (.act none (.px (some 20) (.mv (.v 8)))) <|
    .st (.act none (.px (some 21) (.ia 1 (.v 19) (.v 20)))) <|
    .st (.act none (.ex none (.store 1 (.v 21) (.c (.bool true))))) .done
@[simp] def W15_22 := @C.wpe _ _ K15_22.eq_1
def K15_23 : C := .seq (.block 1 (.seq (.pl <| .st (.ext 19 1) <|
    .st (.act none (.px (some 19) (.mv (.v 12)))) <|
    .st (.act none (.px (some 8) (.mv (.v 19)))) .done) K15_22)) K15_21
@[simp] def W15_23 := @C.wpe _ _ K15_23.eq_1
def K15_24 : C := .seq (.cond 19 (.v 19) (.skip) (.exit 0)) K15_23
@[simp] def W15_24 := @C.wpe _ _ K15_24.eq_1
def K15_25 : C := .seq (.pl <| .st (.ext 19 1) <|
    .st (.act none (.px (some 19) (.bin .lss (.v 12) (.v 11)))) .done) K15_24
@[simp] def W15_25 := @C.wpe _ _ K15_25.eq_1
def K15_26 : C := .block 0 (.loop 19 [0, 3, 4, 6, 8, 9, 10, 13, 14, 15, 16, 17, 18] K15_25)
@[simp] def W15_26 := @C.wpe _ _ K15_26.eq_1
def K15_27 : C := .seq (.seq (.pl <| .st (.ext 19 1) <|
    .st (.act none (.px (some 19) (.mv (.v 7)))) <|
    .st (.act none (.px (some 11) (.lenV (.v 19)))) <|
    .st (.act none (.px (some 12) (.mv (.c (.int .i64 0))))) .done) K15_26) K15_20
@[simp] def W15_27 := @C.wpe _ _ K15_27.eq_1
def K15_28 : Pl := .st (.act none (.px (some 7) (.mv (.v 26)))) .done
@[simp] def W15_28 := @Pl.wpe _ _ K15_28.eq_1
def K15_29 : C := .seq (.pl <| .st (.ext 19 8) <|
    .st (.act none (.als 19 none 2)) <|
    .st (.act none (.pget (some 20) (some 19) 2 1 none)) <|
    .st (.act none (.px (some 21) (.mv (.v 1)))) <|
    .st (.act none (.px (some 22) (.ia 2 (.v 20) (.v 21)))) <|
    .st (.act none (.px (some 23) (.fa 1 (.v 22)))) <|
    .st (.act none (.ld (some 24) (.v 23) none)) <|
    .st (.act none (.px (some 25) (.lenV (.v 24)))) <|
    .st (.act none (.ex (some 26) (.mks 1 1 [.bool false] (.v 25) (.v 25)))) K15_28) K15_27
@[simp] def W15_29 := @C.wpe _ _ K15_29.eq_1
def K15_30 : C := .seq (.pl <| .st (.ext 19 0) <|
    .st (.act none (.px (some 3) (.mv (.c (.slice none 0 0))))) <|
    .st (.act none (.px (some 4) (.mv (.c (.bool false))))) .done) (.ret)
@[simp] def W15_30 := @C.wpe _ _ K15_30.eq_1
def K15_31 : C := .cond 19 (.v 29) K15_30 (.skip)
@[simp] def W15_31 := @C.wpe _ _ K15_31.eq_1
def K15_32 : Pl := .st (.act (some (.v 21, false)) (.px (some 28) (.un .not (.v 27)))) <|
    .st (.act none (.px (some 29) (.pick (.v 21) (.c (.bool true)) (.v 28)))) .done
@[simp] def W15_32 := @Pl.wpe _ _ K15_32.eq_1
def K15_33 : C := .seq (.seq (.pl <| .st (.ext 19 11) <|
    .st (.act none (.px (some 19) (.mv (.v 6)))) <|
    .st (.act none (.px (some 20) (.un .not (.v 19)))) <|
    .st (.act none (.px (some 21) (.mv (.v 20)))) <|
    .st (.act (some (.v 21, false)) (.px (some 22) (.mv (.v 1)))) <|
    .st (.act (some (.v 21, false)) (.als 23 none 2)) <|
    .st (.act (some (.v 21, false)) (.pget (some 24) (some 23) 2 1 none)) <|
    .st (.act (some (.v 21, false)) (.px (some 25) (.lenV (.v 24)))) <|
    .st (.act (some (.v 21, false)) (.px (some 26) (.bin .sub (.v 25) (.c (.int .i64 1))))) <|
    .st (.act (some (.v 21, false)) (.ex (some 27) (.call fn_impl_in [.v 22, .c (.int .i64 0), .v 26]))) K15_32) K15_31) K15_29
@[simp] def W15_33 := @C.wpe _ _ K15_33.eq_1
def K15_34 : Pl := .st (.act none (.px (some 21) (.mv (.v 20)))) <|
    .st (.act none (.px (some 22) (.extract 0 (.v 21)))) <|
    .st (.act none (.px (some 23) (.extract 1 (.v 21)))) <|
    .st (.act none (.pnew 5 (.c (.agg #[.slice none 0 0, .slice none 0 0])) [])) <|
    .st (.act none (.pset none 5 0 2 (.v 22))) <|
    .st (.act none (.px (some 6) (.mv (.v 23)))) .done
@[simp] def W15_34 := @Pl.wpe _ _ K15_34.eq_1
def K15_35 : C := .seq (.pl <| .st (.ext 19 5) <|
    .st (.act none (.pget (some 19) none 2 0 (some 2))) <|
    .st (.act none (.ex (some 20) (.call fn_impl_BuildGraph [.v 19]))) K15_34) K15_33
@[simp] def W15_35 := @C.wpe _ _ K15_35.eq_1
def B_impl_DeadEdges : C := .seq (.pl <| .st (.ext 19 0) <|
    .st (.act none (.pnew 2 (.v 0) [])) <|
    .st (.act none (.px (some 3) (.mv (.c (.slice none 0 0))))) <|
    .st (.act none (.px (some 4) (.mv (.c (.bool false))))) .done) K15_35
@[simp] def WB_impl_DeadEdges := @C.wpe _ _ B_impl_DeadEdges.eq_1
def R_impl_DeadEdges : FIR := ⟨B_impl_DeadEdges, 19, [(3, none), (4, none)]⟩
theorem IR_impl_DeadEdges : cfun Try.prog H_impl_DeadEdges Try.f15 = some R_impl_DeadEdges := by kernel_rfl
theorem EN_impl_DeadEdges {args : List Value} {h : Heap} {k : Value → Heap → Prop} (hargs : args.length = 2) (hw : B_impl_DeadEdges.wp Try.prog (retQ [(3, none), (4, none)] k) (env0 args 19) h) : CallE Try.prog fn_impl_DeadEdges args h k := enter Try.func15 rfl IR_impl_DeadEdges hargs hw

def H_impl_GraphSame : Hint := ⟨[(0, false), (1, false), (2, true), (3, true), (4, false)], []⟩
def K19_1 : Pl := .st (.act none (.px (some 16) (.pick (.v 10) (.v 15) (.c (.bool false))))) <|
    .st (.act none (.px (some 4) (.mv (.v 16)))) .done
@[simp] def W19_1 := @Pl.wpe _ _ K19_1.eq_1
def K19_2 : Pl := .st (.act none (.px (some 10) (.mv (.v 9)))) <|
    .st (.act (some (.v 10, true)) (.als 11 none 2)) <|
    .st (.act (some (.v 10, true)) (.pget (some 12) (some 11) 2 1 none)) <|
    .st (.act (some (.v 10, true)) (.als 13 none 3)) <|
    .st (.act (some (.v 10, true)) (.pget (some 14) (some 13) 3 1 none)) <|
    .st (.act (some (.v 10, true)) (.ex (some 15) (.call fn_slices_EqualFunc_S_S_int_S_S_int_S_int_S_int [.v 12, .v 14, .c (.func (.func 38) #[] #[])]))) K19_1
@[simp] def W19_2 := @Pl.wpe _ _ K19_2.eq_1
def K19_3 : C := .seq (.pl <| .st (.ext 5 12) <|
    .st (.act none (.als 5 none 2)) <|
    .st (.act none (.pget (some 6) (some 5) 2 0 none)) <|
    .st (.act none (.als 7 none 3)) <|
    .st (.act none (.pget (some 8) (some 7) 3 0 none)) <|
    .st (.act none (.ex (some 9) (.call fn_slices_EqualFunc_S_impl_State_S_impl_State_impl_State_impl_State [.v 6, .v 8, .c (.func (.func 13) #[] #[])]))) K19_2) (.ret)
@[simp] def W19_3 := @C.wpe _ _ K19_3.eq_1
def B_impl_GraphSame : C := .seq (.pl <| .st (.ext 5 0) <|
    .st (.act none (.pnew 2 (.v 0) [])) <|
    .st (.act none (.pnew 3 (.v 1) [])) <|
    .st (.act none (.px (some 4) (.mv (.c (.bool false))))) .done) K19_3
@[simp] def WB_impl_GraphSame := @C.wpe _ _ B_impl_GraphSame.eq_1
def R_impl_GraphSame : FIR := ⟨B_impl_GraphSame, 5, [(4, none)]⟩
theorem IR_impl_GraphSame : cfun Try.prog H_impl_GraphSame Try.f19 = some R_impl_GraphSame := by kernel_rfl
theorem EN_impl_GraphSame {args : List Value} {h : Heap} {k : Value → Heap → Prop} (hargs : args.length = 2) (hw : B_impl_GraphSame.wp Try.prog (retQ [(4, none)] k) (env0 args 5) h) : CallE Try.prog fn_impl_GraphSame args h k := enter Try.func19 rfl IR_impl_GraphSame hargs hw

def H_laws_FnDeadRemoved : Hint := ⟨[(0, false), (2, false), (3, true), (4, false), (5, false), (6, false), (7, false), (8, false), (9, true), (10, false), (11, false), (12, true), (13, false), (14, true), (15, false)], [[0, 1, 5, 6, 7, 11, 12, 13, 14]]⟩
def K4_1 : Pl := .st (.act none (.px (some 23) (.pick (.v 19) (.v 22) (.c (.bool false))))) <|
    .st (.act none (.px (some 1) (.mv (.v 23)))) .done
@[simp] def W4_1 := @Pl.wpe _ _ K4_1.eq_1
def K4_2 : C := .seq (.pl <| .st (.ext 15 9) <|
    .st (.act none (.px (some 15) (.mv (.v 12)))) <|
    .st (.act none (.px (some 16) (.mv (.v 15)))) <|
    .st (.act (some (.v 16, true)) (.px (some 17) (.mv (.v 14)))) <|
    .st (.act none (.px (some 18) (.pick (.v 16) (.v 17) (.c (.bool false))))) <|
    .st (.act none (.px (some 19) (.mv (.v 18)))) <|
    .st (.act (some (.v 19, true)) (.pget (some 20) none 11 0 (some 2))) <|
    .st (.act (some (.v 19, true)) (.pget (some 21) none 13 0 (some 2))) <|
    .st (.act (some (.v 19, true)) (.ex (some 22) (.call fn_impl_GraphSame [.v 20, .v 21]))) K4_1) (.ret)
@[simp] def W4_2 := @C.wpe _ _ K4_2.eq_1
def K4_3 : Pl := .st (.act none (.px (some 17) (.mv (.v 16)))) <|
    .st (.act none (.px (some 18) (.extract 0 (.v 17)))) <|
    .st (.act none (.px (some 19) (.extract 1 (.v 17)))) <|
    .st (.act none (.pnew 13 (.c (.agg #[.slice none 0 0, .slice none 0 0])) [])) <|
    .st (.act none (.pset none 13 0 2 (.v 18))) <|
    .st (.act none (.px (some 14) (.mv (.v 19)))) .done
@[simp] def W4_3 := @Pl.wpe _ _ K4_3.eq_1
def K4_4 : C := .seq (.pl <| .st (.ext 15 5) <|
    .st (.act none (.pget (some 15) none 8 0 (some 2))) <|
    .st (.act none (.ex (some 16) (.call fn_impl_BuildGraph [.v 15]))) K4_3) K4_2
@[simp] def W4_4 := @C.wpe _ _ K4_4.eq_1
def K4_5 : Pl := .st (.act none (.px (some 17) (.mv (.v 16)))) <|
    .st (.act none (.px (some 18) (.extract 0 (.v 17)))) <|
    .st (.act none (.px (some 19) (.extract 1 (.v 17)))) <|
    .st (.act none (.pnew 11 (.c (.agg #[.slice none 0 0, .slice none 0 0])) [])) <|
    .st (.act none (.pset none 11 0 2 (.v 18))) <|
    .st (.act none (.px (some 12) (.mv (.v 19)))) .done
@[simp] def W4_5 := @Pl.wpe _ _ K4_5.eq_1
def K4_6 : C := .seq (.pl <| .st (.ext 15 5) <|
    .st (.act none (.pget (some 15) none 2 0 (some 2))) <|
    .st (.act none (.ex (some 16) (.call fn_impl_BuildGraph [.v 15]))) K4_5) K4_4
@[simp] def W4_6 := @C.wpe _ _ K4_6.eq_1
def K4_7 : C := .seq (.pl <| .st (.ext 15 12) <|
    .st (.act none (.als 15 none 8)) <|
    .st (.act none (.pget (some 16) (some 15) 8 1 none)) <|
    .st (.act none (.px (some 17) (.mv (.v 3)))) <|
    .st (.act none (.als 18 none 2)) <|
    .st (.act none (.pget (some 19) (some 18) 2 1 none)) <|
    .st (.act none (.px (some 20) (.mv (.v 3)))) <|
    .st (.act none (.px (some 21) (.ia 2 (.v 19) (.v 20)))) <|
    .st (.act none (.px (some 22) (.fa 0 (.v 21)))) <|
    .st (.act none (.ld (some 23) (.v 22) none)) <|
    .st (.act none (.px (some 24) (.mv (.v 9)))) <|
    .st (.act none (.px (some 25) (.build [.int .i64 0, .slice none 0 0] [(0, 1, .v 23), (1, 1, .v 24)]))) <|
    .st (.act none (.px (some 26) (.ia 2 (.v 16) (.v 17)))) <|
    .st (.act none (.ex none (.store 2 (.v 26) (.v 25)))) .done) K4_6
@[simp] def W4_7 := @C.wpe _ _ K4_7.eq_1
def K4_8 : C := .pl <| .st (.ext 15 2) <|
    .st (.act none (.px (some 15) (.mv (.v 10)))) <|
    .st (.act none (.px (some 16) (.bin .add (.v 15) (.c (.int .i64 1))))) <|
    .st (.act none (.px (some 10) (.mv (.v 16)))) .done
@[simp] def W4_8 := @C.wpe _ _ K4_8.eq_1
def K4_9 : Pl := .st (.act none (.px (some 9) (.mv (.v 26)))) .done
@[simp] def W4_9 := @Pl.wpe _ _ K4_9.eq_1
def K4_10 : C := .pl <| .st (.ext 15 12) <|
    .st (.act none (.px (some 15) (.mv (.v 9)))) <|
    .st (.act none (.als 16 none 2)) <|
    .st (.act none (.pget (some 17) (some 16) 2 1 none)) <|
    .st (.act none (.px (some 18) (.mv (.v 3)))) <|
    .st (.act none (.px (some 19) (.ia 2 (.v 17) (.v 18)))) <|
    .st (.act none (.px (some 20) (.fa 1 (.v 19)))) <|
    .st (.act none (.ld (some 21) (.v 20) none)) <|
    .st (.act none (.px (some 22) (.mv (.v 10)))) <|
    .st (.act none (.px (some 23) (.ia 10 (.v 21) (.v 22)))) <|
    .st (.act none (.ld (some 24) (.v 23) (some 10))) <|
    .st (.act none (.psl 25 [.int .i64 0, .int .i64 0, .int .i64 0, .int .i64 0, .slice none 0 0, .int .i64 0, .int .i64 0, .int .i64 0, .slice none 0 0, .int .i64 0] [(0, 10, .v 24)])) <|
    .st (.act none (.ex (some 26) (.app 112 10 [.int .i64 0, .int .i64 0, .int .i64 0, .int .i64 0, .slice none 0 0, .int .i64 0, .int .i64 0, .int .i64 0, .slice none 0 0, .int .i64 0] (.o (.v 15)) (.p 1 25)))) K4_9
@[simp] def W4_10 := @C.wpe _ _ K4_10.eq_1
def K4_11 : C := .cond 15 (.v 19) K4_10 (.skip)
@[simp] def W4_11 := @C.wpe _ _ K4_11.eq_1
def K4_12 : C := .seq (.block 1 (.seq (.pl <| .st (.ext 15 5) <|
    .st (.act none (.px (some 15) (.mv (.v 4)))) <|
    .st (.act none (.px (some 16) (.mv (.v 10)))) <|
    .st (.act none (.px (some 17) (.ia 1 (.v 15) (.v 16)))) <|
    .st (.act none (.ld (some 18) (.v 17) none)) <|
    .st (.act none (.px (some 19) (.un .not (.v 18)))) .done) K4_11)) K4_8
@[simp] def W4_12 := @C.wpe _ _ K4_12.eq_1
def K4_13 : C := .cond 15 (.v 18) (.skip) (.exit 0)
@[simp] def W4_13 := @C.wpe _ _ K4_13.eq_1
def K4_14 : C := .seq (.seq (.pl <| .st (.ext 15 4) <|
    .st (.act none (.px (some 15) (.mv (.v 10)))) <|
    .st (.act none (.px (some 16) (.mv (.v 4)))) <|
    .st (.act none (.px (some 17) (.lenV (.v 16)))) <|
    .st (.act none (.px (some 18) (.bin .lss (.v 15) (.v 17)))) .done) K4_13) K4_12
@[simp] def W4_14 := @C.wpe _ _ K4_14.eq_1
def K4_15 : C := .block 0 (.loop 15 [0, 1, 5, 6, 7, 11, 12, 13, 14] K4_14)
@[simp] def W4_15 := @C.wpe _ _ K4_15.eq_1
def K4_16 : C := .seq (.seq (.pl <| .st (.ext 15 0) <|
    .st (.act none (.px (some 10) (.mv (.c (.int .i64 0))))) .done) K4_15) K4_7
@[simp] def W4_16 := @C.wpe _ _ K4_16.eq_1
def K4_17 : Pl := .st (.act none (.px (some 9) (.mv (.v 15)))) .done
@[simp] def W4_17 := @Pl.wpe _ _ K4_17.eq_1
def K4_18 : C := .seq (.pl <| .st (.ext 15 1) <|
    .st (.act none (.ex (some 15) (.bls 10 0 [.int .i64 0, .int .i64 0, .int .i64 0, .int .i64 0, .slice none 0 0, .int .i64 0, .int .i64 0, .int .i64 0, .slice none 0 0, .int .i64 0] []))) K4_17) K4_16
@[simp] def W4_18 := @C.wpe _ _ K4_18.eq_1
def K4_19 : Pl := .st (.act none (.px (some 21) (.build [.slice none 0 0, .slice none 0 0] [(0, 1, .v 16), (1, 1, .v 20)]))) <|
    .st (.act none (.pset none 8 0 2 (.v 21))) .done
@[simp] def W4_19 := @Pl.wpe _ _ K4_19.eq_1
def K4_20 : C := .seq (.pl <| .st (.ext 15 7) <|
    .st (.act none (.als 15 none 2)) <|
    .st (.act none (.pget (some 16) (some 15) 2 0 none)) <|
    .st (.act none (.psl 17 [] [])) <|
    .st (.act none (.als 18 none 2)) <|
    .st (.act none (.pget (some 19) (some 18) 2 1 none)) <|
    .st (.act none (.pnew 8 (.c (.agg #[.slice none 0 0, .slice none 0 0])) [])) <|
    .st (.act none (.ex (some 20) (.app 32 2 [.int .i64 0, .slice none 0 0] (.p 0 17) (.o (.v 19))))) K4_19) K4_18
@[simp] def W4_20 := @C.wpe _ _ K4_20.eq_1
def K4_21 : Pl := .st (.act none (.px (some 22) (.pick (.v 18) (.v 21) (.c (.bool false))))) <|
    .st (.act none (.px (some 1) (.mv (.v 22)))) .done
@[simp] def W4_21 := @Pl.wpe _ _ K4_21.eq_1
def K4_22 : C := .seq (.pl <| .st (.ext 15 8) <|
    .st (.act none (.px (some 15) (.mv (.v 5)))) <|
    .st (.act none (.px (some 16) (.mv (.v 7)))) <|
    .st (.act none (.px (some 17) (.eqb false (.v 15) (.v 16)))) <|
    .st (.act none (.px (some 18) (.mv (.v 17)))) <|
    .st (.act (some (.v 18, true)) (.px (some 19) (.mv (.v 4)))) <|
    .st (.act (some (.v 18, true)) (.px (some 20) (.mv (.v 6)))) <|
    .st (.act (some (.v 18, true)) (.ex (some 21) (.call fn_laws_wpBools [.v 19, .v 20]))) K4_21) (.ret)
@[simp] def W4_22 := @C.wpe _ _ K4_22.eq_1
def K4_23 : C := .cond 15 (.v 27) K4_22 (.skip)
@[simp] def W4_23 := @C.wpe _ _ K4_23.eq_1
def K4_24 : Pl := .st (.act (some (.v 18, false)) (.px (some 22) (.un .not (.v 21)))) <|
    .st (.act none (.px (some 23) (.pick (.v 18) (.c (.bool true)) (.v 22)))) <|
    .st (.act none (.px (some 24) (.mv (.v 23)))) <|
    .st (.act (some (.v 24, false)) (.px (some 25) (.mv (.v 5)))) <|
    .st (.act (some (.v 24, false)) (.px (some 26) (.un .not (.v 25)))) <|
    .st (.act none (.px (some 27) (.pick (.v 24) (.c (.bool true)) (.v 26)))) .done
@[simp] def W4_24 := @Pl.wpe _ _ K4_24.eq_1
def K4_25 : C := .seq (.seq (.pl <| .st (.ext 15 13) <|
    .st (.act none (.px (some 15) (.mv (.v 5)))) <|
    .st (.act none (.px (some 16) (.mv (.v 7)))) <|
    .st (.act none (.px (some 17) (.eqb true (.v 15) (.v 16)))) <|
    .st (.act none (.px (some 18) (.mv (.v 17)))) <|
    .st (.act (some (.v 18, false)) (.px (some 19) (.mv (.v 4)))) <|
    .st (.act (some (.v 18, false)) (.px (some 20) (.mv (.v 6)))) <|
    .st (.act (some (.v 18, false)) (.ex (some 21) (.call fn_laws_wpBools [.v 19, .v 20]))) K4_24) K4_23) K4_20
@[simp] def W4_25 := @C.wpe _ _ K4_25.eq_1
def K4_26 : Pl := .st (.act none (.px (some 18) (.mv (.v 17)))) <|
    .st (.act none (.px (some 19) (.extract 0 (.v 18)))) <|
    .st (.act none (.px (some 20) (.extract 1 (.v 18)))) <|
    .st (.act none (.px (some 6) (.mv (.v 19)))) <|
    .st (.act none (.px (some 7) (.mv (.v 20)))) .done
@[simp] def W4_26 := @Pl.wpe _ _ K4_26.eq_1
def K4_27 : C := .seq (.pl <| .st (.ext 15 6) <|
    .st (.act none (.pget (some 15) none 2 0 (some 2))) <|
    .st (.act none (.px (some 16) (.mv (.v 3)))) <|
    .st (.act none (.ex (some 17) (.call fn_spec_DeadEdges [.v 15, .v 16]))) K4_26) K4_25
@[simp] def W4_27 := @C.wpe _ _ K4_27.eq_1
def K4_28 : Pl := .st (.act none (.px (some 18) (.mv (.v 17)))) <|
    .st (.act none (.px (some 19) (.extract 0 (.v 18)))) <|
    .st (.act none (.px (some 20) (.extract 1 (.v 18)))) <|
    .st (.act none (.px (some 4) (.mv (.v 19)))) <|
    .st (.act none (.px (some 5) (.mv (.v 20)))) .done
@[simp] def W4_28 := @Pl.wpe _ _ K4_28.eq_1
def K4_29 : C := .seq (.pl <| .st (.ext 15 6) <|
    .st (.act none (.pget (some 15) none 2 0 (some 2))) <|
    .st (.act none (.px (some 16) (.mv (.v 3)))) <|
    .st (.act none (.ex (some 17) (.call fn_impl_DeadEdges [.v 15, .v 16]))) K4_28) K4_27
@[simp] def W4_29 := @C.wpe _ _ K4_29.eq_1
def K4_30 : Pl := .st (.act none (.px (some 17) (.mv (.v 16)))) <|
    .st (.act none (.px (some 18) (.extract 0 (.v 17)))) <|
    .st (.act none (.px (some 19) (.extract 1 (.v 17)))) <|
    .st (.act none (.pnew 2 (.c (.agg #[.slice none 0 0, .slice none 0 0])) [])) <|
    .st (.act none (.pset none 2 0 2 (.v 18))) <|
    .st (.act none (.px (some 3) (.mv (.v 19)))) .done
@[simp] def W4_30 := @Pl.wpe _ _ K4_30.eq_1
def K4_31 : C := .seq (.pl <| .st (.ext 15 5) <|
    .st (.act none (.px (some 15) (.mv (.v 0)))) <|
    .st (.act none (.ex (some 16) (.call fn_spec_DrawDeadEdges [.v 15]))) K4_30) K4_29
@[simp] def W4_31 := @C.wpe _ _ K4_31.eq_1
def K4_32 : C := .seq (.pl <| .st (.ext 15 0) <|
    .st (.act none (.px (some 1) (.mv (.c (.bool true))))) .done) (.ret)
@[simp] def W4_32 := @C.wpe _ _ K4_32.eq_1
def K4_33 : C := .cond 15 (.v 17) K4_32 (.skip)
@[simp] def W4_33 := @C.wpe _ _ K4_33.eq_1
def K4_34 : C := .seq (.seq (.pl <| .st (.ext 15 3) <|
    .st (.act none (.px (some 15) (.mv (.v 0)))) <|
    .st (.act none (.px (some 16) (.lenV (.v 15)))) <|
    .st (.act none (.px (some 17) (.bin .gtr (.v 16) (.c (.int .i64 1048576))))) .done) K4_33) K4_31
@[simp] def W4_34 := @C.wpe _ _ K4_34.eq_1
def B_laws_FnDeadRemoved : C := .seq (.pl <| .st (.ext 15 0) <|
    .st (.act none (.px (some 1) (.mv (.c (.bool false))))) .done) K4_34
@[simp] def WB_laws_FnDeadRemoved := @C.wpe _ _ B_laws_FnDeadRemoved.eq_1
def R_laws_FnDeadRemoved : FIR := ⟨B_laws_FnDeadRemoved, 15, [(1, none)]⟩
theorem IR_laws_FnDeadRemoved : cfun Try.prog H_laws_FnDeadRemoved Try.f4 = some R_laws_FnDeadRemoved := by kernel_rfl
theorem EN_laws_FnDeadRemoved {args : List Value} {h : Heap} {k : Value → Heap → Prop} (hargs : args.length = 1) (hw : B_laws_FnDeadRemoved.wp Try.prog (retQ [(1, none)] k) (env0 args 15) h) : CallE Try.prog fn_laws_FnDeadRemoved args h k := enter Try.func4 rfl IR_laws_FnDeadRemoved hargs hw

def H_laws_wpBools : Hint := ⟨[(0, false), (1, false), (4, false), (5, false)], [[2]]⟩
def K17_1 : C := .seq (.pl <| .st (.ext 4 0) <|
    .st (.act none (.px (some 2) (.mv (.c (.bool true))))) .done) (.ret)
@[simp] def W17_1 := @C.wpe _ _ K17_1.eq_1
def K17_2 : C := .pl <| .st (.ext 4 2) <|
    .st (.act none (.px (some 4) (.mv (.v 3)))) <|
    .st (.act none (.px (some 5) (.bin .add (.v 4) (.c (.int .i64 1))))) <|
    .st (.act none (.px (some 3) (.mv (.v 5)))) .done
@[simp] def W17_2 := @C.wpe _ _ K17_2.eq_1
def K17_3 : C := .seq (.pl <| .st (.ext 4 0) <|
    .st (.act none (.px (some 2) (.mv (.c (.bool false))))) .done) (.ret)
@[simp] def W17_3 := @C.wpe _ _ K17_3.eq_1
def K17_4 : C := .cond 4 (.v 12) K17_3 (.skip)
@[simp] def W17_4 := @C.wpe _ _ K17_4.eq_1
def K17_5 : C := .seq (.block 1 (.seq (.pl <| .st (.ext 4 9) <|
    .st (.act none (.px (some 4) (.mv (.v 0)))) <|
    .st (.act none (.px (some 5) (.mv (.v 3)))) <|
    .st (.act none (.px (some 6) (.ia 1 (.v 4) (.v 5)))) <|
    .st (.act none (.ld (some 7) (.v 6) none)) <|
    .st (.act none (.px (some 8) (.mv (.v 1)))) <|
    .st (.act none (.px (some 9) (.mv (.v 3)))) <|
    .st (.act none (.px (some 10) (.ia 1 (.v 8) (.v 9)))) <|
    .st (.act none (.ld (some 11) (.v 10) none)) <|
    .st (.act none (.px (some 12) (.eqb true (.v 7) (.v 11)))) .done) K17_4)) K17_2
@[simp] def W17_5 := @C.wpe _ _ K17_5.eq_1
def K17_6 : C := .cond 4 (.v 7) (.skip) (.exit 0)
@[simp] def W17_6 := @C.wpe _ _ K17_6.eq_1
def K17_7 : C := .seq (.seq (.pl <| .st (.ext 4 4) <|
    .st (.act none (.px (some 4) (.mv (.v 3)))) <|
    .st (.act none (.px (some 5) (.mv (.v 0)))) <|
    .st (.act none (.px (some 6) (.lenV (.v 5)))) <|
    .st (.act none (.px (some 7) (.bin .lss (.v 4) (.v 6)))) .done) K17_6) K17_5
@[simp] def W17_7 := @C.wpe _ _ K17_7.eq_1
def K17_8 : C := .block 0 (.loop 4 [2] K17_7)
@[simp] def W17_8 := @C.wpe _ _ K17_8.eq_1
def K17_9 : C := .seq (.seq (.pl <| .st (.ext 4 0) <|
    .st (.act none (.px (some 3) (.mv (.c (.int .i64 0))))) .done) K17_8) K17_1
@[simp] def W17_9 := @C.wpe _ _ K17_9.eq_1
def K17_10 : C := .seq (.pl <| .st (.ext 4 0) <|
    .st (.act none (.px (some 2) (.mv (.c (.bool false))))) .done) (.ret)
@[simp] def W17_10 := @C.wpe _ _ K17_10.eq_1
def K17_11 : C := .cond 4 (.v 8) K17_10 (.skip)
@[simp] def W17_11 := @C.wpe _ _ K17_11.eq_1
def K17_12 : C := .seq (.seq (.pl <| .st (.ext 4 5) <|
    .st (.act none (.px (some 4) (.mv (.v 0)))) <|
    .st (.act none (.px (some 5) (.lenV (.v 4)))) <|
    .st (.act none (.px (some 6) (.mv (.v 1)))) <|
    .st (.act none (.px (some 7) (.lenV (.v 6)))) <|
    .st (.act none (.px (some 8) (.bin .neq (.v 5) (.v 7)))) .done) K17_11) K17_9
@[simp] def W17_12 := @C.wpe _ _ K17_12.eq_1
def B_laws_wpBools : C := .seq (.pl <| .st (.ext 4 0) <|
    .st (.act none (.px (some 2) (.mv (.c (.bool false))))) .done) K17_12
@[simp] def WB_laws_wpBools := @C.wpe _ _ B_laws_wpBools.eq_1
def R_laws_wpBools : FIR := ⟨B_laws_wpBools, 4, [(2, none)]⟩
theorem IR_laws_wpBools : cfun Try.prog H_laws_wpBools Try.f17 = some R_laws_wpBools := by kernel_rfl
theorem EN_laws_wpBools {args : List Value} {h : Heap} {k : Value → Heap → Prop} (hargs : args.length = 2) (hw : B_laws_wpBools.wp Try.prog (retQ [(2, none)] k) (env0 args 4) h) : CallE Try.prog fn_laws_wpBools args h k := enter Try.func17 rfl IR_laws_wpBools hargs hw

def H_slices_EqualFunc_S_S_int_S_S_int_S_int_S_int : Hint := ⟨[(0, false), (1, false), (2, false), (6, false), (7, false), (8, false), (9, false), (15, false), (16, false), (17, false)], [[0, 3, 4, 5, 6]]⟩
def K48_1 : C := .seq (.pl <| .st (.ext 10 0) <|
    .st (.act none (.px (some 3) (.mv (.c (.bool true))))) .done) (.ret)
@[simp] def W48_1 := @C.wpe _ _ K48_1.eq_1
def K48_2 : C := .pl <| .st (.ext 10 1) <|
    .st (.act none (.px (some 10) (.bin .add (.v 9) (.c (.int .i64 1))))) <|
    .st (.act none (.px (some 9) (.mv (.v 10)))) .done
@[simp] def W48_2 := @C.wpe _ _ K48_2.eq_1
def K48_3 : C := .seq (.pl <| .st (.ext 10 0) <|
    .st (.act none (.px (some 3) (.mv (.c (.bool false))))) .done) (.ret)
@[simp] def W48_3 := @C.wpe _ _ K48_3.eq_1
def K48_4 : C := .cond 10 (.v 14) K48_3 (.skip)
@[simp] def W48_4 := @C.wpe _ _ K48_4.eq_1
def K48_5 : Pl := .st (.act none (.px (some 14) (.un .not (.v 13)))) .done
@[simp] def W48_5 := @Pl.wpe _ _ K48_5.eq_1
def K48_6 : C := .seq (.pl <| .st (.ext 10 5) <|
    .st (.act none (.px (some 10) (.mv (.v 2)))) <|
    .st (.act none (.px (some 11) (.mv (.v 5)))) <|
    .st (.act none (.px (some 12) (.mv (.v 6)))) <|
    .st (.act none (.ex (some 13) (.callv (.v 10) [.v 11, .v 12]))) K48_5) K48_4
@[simp] def W48_6 := @C.wpe _ _ K48_6.eq_1
def K48_7 : C := .seq (.pl <| .st (.ext 10 4) <|
    .st (.act none (.px (some 10) (.mv (.v 1)))) <|
    .st (.act none (.px (some 11) (.mv (.v 4)))) <|
    .st (.act none (.px (some 12) (.ia 1 (.v 10) (.v 11)))) <|
    .st (.act none (.ld (some 13) (.v 12) none)) <|
    .st (.act none (.px (some 6) (.mv (.v 13)))) .done) K48_6
@[simp] def W48_7 := @C.wpe _ _ K48_7.eq_1
def K48_8 : C := .seq (.block 1 (.seq (.pl <| .st (.ext 10 3) <|
    .st (.act none (.px (some 10) (.mv (.v 9)))) <|
    .st (.act none (.px (some 11) (.ia 1 (.v 7) (.v 9)))) <|
    .st (.act none (.ld (some 12) (.v 11) none)) <|
    .st (.act none (.px (some 4) (.mv (.v 10)))) <|
    .st (.act none (.px (some 5) (.mv (.v 12)))) .done) K48_7)) K48_2
@[simp] def W48_8 := @C.wpe _ _ K48_8.eq_1
def K48_9 : C := .seq (.cond 10 (.v 10) (.skip) (.exit 0)) K48_8
@[simp] def W48_9 := @C.wpe _ _ K48_9.eq_1
def K48_10 : C := .seq (.pl <| .st (.ext 10 1) <|
    .st (.act none (.px (some 10) (.bin .lss (.v 9) (.v 8)))) .done) K48_9
@[simp] def W48_10 := @C.wpe _ _ K48_10.eq_1
def K48_11 : C := .block 0 (.loop 10 [0, 3, 4, 5, 6] K48_10)
@[simp] def W48_11 := @C.wpe _ _ K48_11.eq_1
def K48_12 : C := .seq (.seq (.pl <| .st (.ext 10 0) <|
    .st (.act none (.px (some 7) (.mv (.v 0)))) <|
    .st (.act none (.px (some 8) (.lenV (.v 7)))) <|
    .st (.act none (.px (some 9) (.mv (.c (.int .i64 0))))) .done) K48_11) K48_1
@[simp] def W48_12 := @C.wpe _ _ K48_12.eq_1
def K48_13 : C := .seq (.pl <| .st (.ext 10 0) <|
    .st (.act none (.px (some 3) (.mv (.c (.bool false))))) .done) (.ret)
@[simp] def W48_13 := @C.wpe _ _ K48_13.eq_1
def K48_14 : C := .cond 10 (.v 14) K48_13 (.skip)
@[simp] def W48_14 := @C.wpe _ _ K48_14.eq_1
def K48_15 : C := .seq (.seq (.pl <| .st (.ext 10 5) <|
    .st (.act none (.px (some 10) (.mv (.v 0)))) <|
    .st (.act none (.px (some 11) (.lenV (.v 10)))) <|
    .st (.act none (.px (some 12) (.mv (.v 1)))) <|
    .st (.act none (.px (some 13) (.lenV (.v 12)))) <|
    .st (.act none (.px (some 14) (.bin .neq (.v 11) (.v 13)))) .done) K48_14) K48_12
@[simp] def W48_15 := @C.wpe _ _ K48_15.eq_1
def B_slices_EqualFunc_S_S_int_S_S_int_S_int_S_int : C := .seq (.pl <| .st (.ext 10 0) <|
    .st (.act none (.px (some 3) (.mv (.c (.bool false))))) .done) K48_15
@[simp] def WB_slices_EqualFunc_S_S_int_S_S_int_S_int_S_int := @C.wpe _ _ B_slices_EqualFunc_S_S_int_S_S_int_S_int_S_int.eq_1
def R_slices_EqualFunc_S_S_int_S_S_int_S_int_S_int : FIR := ⟨B_slices_EqualFunc_S_S_int_S_S_int_S_int_S_int, 10, [(3, none)]⟩
theorem IR_slices_EqualFunc_S_S_int_S_S_int_S_int_S_int : cfun Try.prog H_slices_EqualFunc_S_S_int_S_S_int_S_int_S_int Try.f48 = some R_slices_EqualFunc_S_S_int_S_S_int_S_int_S_int := by kernel_rfl
theorem EN_slices_EqualFunc_S_S_int_S_S_int_S_int_S_int {args : List Value} {h : Heap} {k : Value → Heap → Prop} (hargs : args.length = 3) (hw : B_slices_EqualFunc_S_S_int_S_S_int_S_int_S_int.wp Try.prog (retQ [(3, none)] k) (env0 args 10) h) : CallE Try.prog fn_slices_EqualFunc_S_S_int_S_S_int_S_int_S_int args h k := enter Try.func48 rfl IR_slices_EqualFunc_S_S_int_S_S_int_S_int_S_int hargs hw

def H_slices_EqualFunc_S_impl_State_S_impl_State_impl_State_impl_State : Hint := ⟨[(0, false), (1, false), (2, false), (6, false), (7, false), (8, true), (9, true), (15, false), (16, false), (17, false)], [[0, 3, 4, 5, 6]]⟩
def K47_1 : C := .seq (.pl <| .st (.ext 10 0) <|
    .st (.act none (.px (some 3) (.mv (.c (.bool true))))) .done) (.ret)
@[simp] def W47_1 := @C.wpe _ _ K47_1.eq_1
def K47_2 : C := .pl <| .st (.ext 10 1) <|
    .st (.act none (.px (some 10) (.bin .add (.v 9) (.c (.int .i64 1))))) <|
    .st (.act none (.px (some 9) (.mv (.v 10)))) .done
@[simp] def W47_2 := @C.wpe _ _ K47_2.eq_1
def K47_3 : C := .seq (.pl <| .st (.ext 10 0) <|
    .st (.act none (.px (some 3) (.mv (.c (.bool false))))) .done) (.ret)
@[simp] def W47_3 := @C.wpe _ _ K47_3.eq_1
def K47_4 : C := .cond 10 (.v 14) K47_3 (.skip)
@[simp] def W47_4 := @C.wpe _ _ K47_4.eq_1
def K47_5 : Pl := .st (.act none (.px (some 14) (.un .not (.v 13)))) .done
@[simp] def W47_5 := @Pl.wpe _ _ K47_5.eq_1
def K47_6 : C := .seq (.pl <| .st (.ext 10 5) <|
    .st (.act none (.px (some 10) (.mv (.v 2)))) <|
    .st (.act none (.pget (some 11) none 5 0 (some 2))) <|
    .st (.act none (.pget (some 12) none 6 0 (some 2))) <|
    .st (.act none (.ex (some 13) (.callv (.v 10) [.v 11, .v 12]))) K47_5) K47_4
@[simp] def W47_6 := @C.wpe _ _ K47_6.eq_1
def K47_7 : C := .seq (.pl <| .st (.ext 10 4) <|
    .st (.act none (.px (some 10) (.mv (.v 1)))) <|
    .st (.act none (.px (some 11) (.mv (.v 4)))) <|
    .st (.act none (.px (some 12) (.ia 2 (.v 10) (.v 11)))) <|
    .st (.act none (.ld (some 13) (.v 12) (some 2))) <|
    .st (.act none (.pnew 6 (.c (.agg #[.slice none 0 0, .slice none 0 0])) [])) <|
    .st (.act none (.pset none 6 0 2 (.v 13))) .done) K47_6
@[simp] def W47_7 := @C.wpe _ _ K47_7.eq_1
def K47_8 : C := .seq (.block 1 (.seq (.pl <| .st (.ext 10 3) <|
    .st (.act none (.px (some 10) (.mv (.v 9)))) <|
    .st (.act none (.px (some 11) (.ia 2 (.v 7) (.v 9)))) <|
    .st (.act none (.ld (some 12) (.v 11) (some 2))) <|
    .st (.act none (.pnew 5 (.c (.agg #[.slice none 0 0, .slice none 0 0])) [])) <|
    .st (.act none (.px (some 4) (.mv (.v 10)))) <|
    .st (.act none (.pset none 5 0 2 (.v 12))) .done) K47_7)) K47_2
@[simp] def W47_8 := @C.wpe _ _ K47_8.eq_1
def K47_9 : C := .seq (.cond 10 (.v 10) (.skip) (.exit 0)) K47_8
@[simp] def W47_9 := @C.wpe _ _ K47_9.eq_1
def K47_10 : C := .seq (.pl <| .st (.ext 10 1) <|
    .st (.act none (.px (some 10) (.bin .lss (.v 9) (.v 8)))) .done) K47_9
@[simp] def W47_10 := @C.wpe _ _ K47_10.eq_1
def K47_11 : C := .block 0 (.loop 10 [0, 3, 4, 5, 6] K47_10)
@[simp] def W47_11 := @C.wpe _ _ K47_11.eq_1
def K47_12 : C := .seq (.seq (.pl <| .st (.ext 10 0) <|
    .st (.act none (.px (some 7) (.mv (.v 0)))) <|
    .st (.act none (.px (some 8) (.lenV (.v 7)))) <|
    .st (.act none (.px (some 9) (.mv (.c (.int .i64 0))))) .done) K47_11) K47_1
@[simp] def W47_12 := @C.wpe _ _ K47_12.eq_1
def K47_13 : C := .seq (.pl <| .st (.ext 10 0) <|
    .st (.act none (.px (some 3) (.mv (.c (.bool false))))) .done) (.ret)
@[simp] def W47_13 := @C.wpe _ _ K47_13.eq_1
def K47_14 : C := .cond 10 (.v 14) K47_13 (.skip)
@[simp] def W47_14 := @C.wpe _ _ K47_14.eq_1
def K47_15 : C := .seq (.seq (.pl <| .st (.ext 10 5) <|
    .st (.act none (.px (some 10) (.mv (.v 0)))) <|
    .st (.act none (.px (some 11) (.lenV (.v 10)))) <|
    .st (.act none (.px (some 12) (.mv (.v 1)))) <|
    .st (.act none (.px (some 13) (.lenV (.v 12)))) <|
    .st (.act none (.px (some 14) (.bin .neq (.v 11) (.v 13)))) .done) K47_14) K47_12
@[simp] def W47_15 := @C.wpe _ _ K47_15.eq_1
def B_slices_EqualFunc_S_impl_State_S_impl_State_impl_State_impl_State : C := .seq (.pl <| .st (.ext 10 0) <|
    .st (.act none (.px (some 3) (.mv (.c (.bool false))))) .done) K47_15
@[simp] def WB_slices_EqualFunc_S_impl_State_S_impl_State_impl_State_impl_State := @C.wpe _ _ B_slices_EqualFunc_S_impl_State_S_impl_State_impl_State_impl_State.eq_1
def R_slices_EqualFunc_S_impl_State_S_impl_State_impl_State_impl_State : FIR := ⟨B_slices_EqualFunc_S_impl_State_S_impl_State_impl_State_impl_State, 10, [(3, none)]⟩
theorem IR_slices_EqualFunc_S_impl_State_S_impl_State_impl_State_impl_State : cfun Try.prog H_slices_EqualFunc_S_impl_State_S_impl_State_impl_State_impl_State Try.f47 = some R_slices_EqualFunc_S_impl_State_S_impl_State_impl_State_impl_State := by kernel_rfl
theorem EN_slices_EqualFunc_S_impl_State_S_impl_State_impl_State_impl_State {args : List Value} {h : Heap} {k : Value → Heap → Prop} (hargs : args.length = 3) (hw : B_slices_EqualFunc_S_impl_State_S_impl_State_impl_State_impl_State.wp Try.prog (retQ [(3, none)] k) (env0 args 10) h) : CallE Try.prog fn_slices_EqualFunc_S_impl_State_S_impl_State_impl_State_impl_State args h k := enter Try.func47 rfl IR_slices_EqualFunc_S_impl_State_S_impl_State_impl_State_impl_State hargs hw

def H_spec_BuildGraph : Hint := ⟨[(0, false), (1, true), (2, true), (3, false), (4, true), (5, false), (6, true), (7, false), (8, false), (9, false), (10, false), (11, true), (12, false)], [[0, 3, 4, 5, 8, 9, 10, 11, 12], [0, 3, 4, 5, 11, 12]]⟩
def K44_1 : C := .seq (.pl <| .st (.ext 13 1) <|
    .st (.act none (.pget (some 13) none 6 0 (some 2))) <|
    .st (.act none (.pset none 2 0 2 (.v 13))) <|
    .st (.act none (.px (some 3) (.mv (.c (.bool true))))) .done) (.ret)
@[simp] def W44_1 := @C.wpe _ _ K44_1.eq_1
def K44_2 : C := .pl <| .st (.ext 13 2) <|
    .st (.act none (.px (some 13) (.mv (.v 7)))) <|
    .st (.act none (.px (some 14) (.bin .add (.v 13) (.c (.int .i64 1))))) <|
    .st (.act none (.px (some 7) (.mv (.v 14)))) .done
@[simp] def W44_2 := @C.wpe _ _ K44_2.eq_1
def K44_3 : Pl := .st (.act none (.als 18 none 6)) <|
    .st (.act none (.pset (some 18) 6 1 1 (.v 17))) .done
@[simp] def W44_3 := @Pl.wpe _ _ K44_3.eq_1
def K44_4 : C := .pl <| .st (.ext 13 6) <|
    .st (.act none (.als 13 none 6)) <|
    .st (.act none (.pget (some 14) (some 13) 6 1 none)) <|
    .st (.act none (.px (some 15) (.mv (.v 9)))) <|
    .st (.act none (.psl 16 [.slice none 0 0] [(0, 1, .v 15)])) <|
    .st (.act none (.ex (some 17) (.app 24 1 [.slice none 0 0] (.o (.v 14)) (.p 1 16)))) K44_3
@[simp] def W44_4 := @C.wpe _ _ K44_4.eq_1
def K44_5 : Pl := .st (.act none (.px (some 9) (.mv (.v 16)))) .done
@[simp] def W44_5 := @Pl.wpe _ _ K44_5.eq_1
def K44_6 : C := .pl <| .st (.ext 13 4) <|
    .st (.act none (.px (some 13) (.mv (.v 9)))) <|
    .st (.act none (.px (some 14) (.mv (.v 7)))) <|
    .st (.act none (.psl 15 [.int .i64 0] [(0, 1, .v 14)])) <|
    .st (.act none (.ex (some 16) (.app 8 1 [.int .i64 0] (.o (.v 13)) (.p 1 15)))) K44_5
@[simp] def W44_6 := @C.wpe _ _ K44_6.eq_1
def K44_7 : C := .cond 13 (.v 15) K44_6 (.skip)
@[simp] def W44_7 := @C.wpe _ _ K44_7.eq_1
def K44_8 : C := .seq (.seq (.pl <| .st (.ext 13 3) <|
    .st (.act none (.px (some 13) (.mv (.v 8)))) <|
    .st (.act none (.px (some 14) (.lenV (.v 13)))) <|
    .st (.act none (.px (some 15) (.bin .eql (.v 14) (.c (.int .i64 0))))) .done) K44_7) K44_4
@[simp] def W44_8 := @C.wpe _ _ K44_8.eq_1
def K44_9 : C := .pl <| .st (.ext 13 2) <|
    .st (.act none (.px (some 13) (.mv (.v 10)))) <|
    .st (.act none (.px (some 14) (.bin .add (.v 13) (.c (.int .i64 1))))) <|
    .st (.act none (.px (some 10) (.mv (.v 14)))) .done
@[simp] def W44_9 := @C.wpe _ _ K44_9.eq_1
def K44_10 : Pl := .st (.act none (.px (some 9) (.mv (.v 16)))) .done
@[simp] def W44_10 := @Pl.wpe _ _ K44_10.eq_1
def K44_11 : C := .pl <| .st (.ext 13 4) <|
    .st (.act none (.px (some 13) (.mv (.v 9)))) <|
    .st (.act none (.px (some 14) (.mv (.v 12)))) <|
    .st (.act none (.psl 15 [.int .i64 0] [(0, 1, .v 14)])) <|
    .st (.act none (.ex (some 16) (.app 8 1 [.int .i64 0] (.o (.v 13)) (.p 1 15)))) K44_10
@[simp] def W44_11 := @C.wpe _ _ K44_11.eq_1
def K44_12 : C := .cond 13 (.v 16) K44_11 (.skip)
@[simp] def W44_12 := @C.wpe _ _ K44_12.eq_1
def K44_13 : Pl := .st (.act none (.px (some 16) (.un .not (.v 15)))) .done
@[simp] def W44_13 := @Pl.wpe _ _ K44_13.eq_1
def K44_14 : C := .seq (.pl <| .st (.ext 13 4) <|
    .st (.act none (.px (some 13) (.mv (.v 9)))) <|
    .st (.act none (.px (some 14) (.mv (.v 12)))) <|
    .st (.act none (.ex (some 15) (.call fn_spec_l4In [.v 13, .v 14]))) K44_13) K44_12
@[simp] def W44_14 := @C.wpe _ _ K44_14.eq_1
def K44_15 : C := .seq (.pl <| .st (.ext 13 1) <|
    .st (.act none (.px (some 13) (.build [.slice none 0 0, .slice none 0 0] []))) <|
    .st (.act none (.pset none 2 0 2 (.v 13))) <|
    .st (.act none (.px (some 3) (.mv (.c (.bool false))))) .done) (.ret)
@[simp] def W44_15 := @C.wpe _ _ K44_15.eq_1
def K44_16 : C := .cond 13 (.v 14) K44_15 (.skip)
@[simp] def W44_16 := @C.wpe _ _ K44_16.eq_1
def K44_17 : C := .seq (.seq (.pl <| .st (.ext 13 2) <|
    .st (.act none (.px (some 13) (.mv (.v 12)))) <|
    .st (.act none (.px (some 14) (.bin .geq (.v 13) (.c (.int .i64 60))))) .done) K44_16) K44_14
@[simp] def W44_17 := @C.wpe _ _ K44_17.eq_1
def K44_18 : Pl := .st (.act none (.als 18 none 6)) <|
    .st (.act none (.pset (some 18) 6 0 1 (.v 17))) .done
@[simp] def W44_18 := @Pl.wpe _ _ K44_18.eq_1
def K44_19 : C := .pl <| .st (.ext 13 6) <|
    .st (.act none (.als 13 none 6)) <|
    .st (.act none (.pget (some 14) (some 13) 6 0 none)) <|
    .st (.act none (.pget (some 15) none 11 0 (some 2))) <|
    .st (.act none (.psl 16 [.slice none 0 0, .slice none 0 0] [(0, 2, .v 15)])) <|
    .st (.act none (.ex (some 17) (.app 48 2 [.slice none 0 0, .slice none 0 0] (.o (.v 14)) (.p 1 16)))) K44_18
@[simp] def W44_19 := @C.wpe _ _ K44_19.eq_1
def K44_20 : C := .seq (.pl <| .st (.ext 13 3) <|
    .st (.act none (.als 13 none 6)) <|
    .st (.act none (.pget (some 14) (some 13) 6 0 none)) <|
    .st (.act none (.px (some 15) (.lenV (.v 14)))) <|
    .st (.act none (.px (some 12) (.mv (.v 15)))) .done) K44_19
@[simp] def W44_20 := @C.wpe _ _ K44_20.eq_1
def K44_21 : C := .cond 13 (.v 14) K44_20 (.skip)
@[simp] def W44_21 := @C.wpe _ _ K44_21.eq_1
def K44_22 : C := .seq (.seq (.pl <| .st (.ext 13 2) <|
    .st (.act none (.px (some 13) (.mv (.v 12)))) <|
    .st (.act none (.px (some 14) (.bin .lss (.v 13) (.c (.int .i64 0))))) .done) K44_21) K44_17
@[simp] def W44_22 := @C.wpe _ _ K44_22.eq_1
def K44_23 : Pl := .st (.act none (.px (some 12) (.mv (.v 16)))) .done
@[simp] def W44_23 := @Pl.wpe _ _ K44_23.eq_1
def K44_24 : C := .seq (.pl <| .st (.ext 13 4) <|
    .st (.act none (.als 13 none 6)) <|
    .st (.act none (.pget (some 14) (some 13) 6 0 none)) <|
    .st (.act none (.pget (some 15) none 11 0 (some 2))) <|
    .st (.act none (.ex (some 16) (.call fn_spec_l4Find [.v 14, .v 15]))) K44_23) K44_22
@[simp] def W44_24 := @C.wpe _ _ K44_24.eq_1
def K44_25 : Pl := .st (.act none (.pset none 11 0 2 (.v 23))) .done
@[simp] def W44_25 := @Pl.wpe _ _ K44_25.eq_1
def K44_26 : C := .seq (.block 3 (.seq (.pl <| .st (.ext 13 11) <|
    .st (.act none (.pget (some 13) none 1 0 (some 2))) <|
    .st (.act none (.als 14 none 6)) <|
    .st (.act none (.pget (some 15) (some 14) 6 0 none)) <|
    .st (.act none (.px (some 16) (.mv (.v 7)))) <|
    .st (.act none (.px (some 17) (.ia 2 (.v 15) (.v 16)))) <|
    .st (.act none (.ld (some 18) (.v 17) (some 2))) <|
    .st (.act none (.px (some 19) (.mv (.v 8)))) <|
    .st (.act none (.px (some 20) (.mv (.v 10)))) <|
    .st (.act none (.px (some 21) (.ia 4 (.v 19) (.v 20)))) <|
    .st (.act none (.ld (some 22) (.v 21) (some 4))) <|
    .st (.act none (.pnew 11 (.c (.agg #[.slice none 0 0, .slice none 0 0])) [])) <|
    .st (.act none (.ex (some 23) (.call fn_spec_l3Apply [.v 13, .v 18, .v 22]))) K44_25) K44_24)) K44_9
@[simp] def W44_26 := @C.wpe _ _ K44_26.eq_1
def K44_27 : C := .cond 13 (.v 16) (.skip) (.exit 2)
@[simp] def W44_27 := @C.wpe _ _ K44_27.eq_1
def K44_28 : C := .seq (.seq (.pl <| .st (.ext 13 4) <|
    .st (.act none (.px (some 13) (.mv (.v 10)))) <|
    .st (.act none (.px (some 14) (.mv (.v 8)))) <|
    .st (.act none (.px (some 15) (.lenV (.v 14)))) <|
    .st (.act none (.px (some 16) (.bin .lss (.v 13) (.v 15)))) .done) K44_27) K44_26
@[simp] def W44_28 := @C.wpe _ _ K44_28.eq_1
def K44_29 : C := .block 2 (.loop 13 [0, 3, 4, 5, 11, 12] K44_28)
@[simp] def W44_29 := @C.wpe _ _ K44_29.eq_1
def K44_30 : C := .seq (.seq (.pl <| .st (.ext 13 0) <|
    .st (.act none (.px (some 10) (.mv (.c (.int .i64 0))))) .done) K44_29) K44_8
@[simp] def W44_30 := @C.wpe _ _ K44_30.eq_1
def K44_31 : Pl := .st (.act none (.px (some 9) (.mv (.v 13)))) .done
@[simp] def W44_31 := @Pl.wpe _ _ K44_31.eq_1
def K44_32 : C := .seq (.pl <| .st (.ext 13 1) <|
    .st (.act none (.ex (some 13) (.bls 1 0 [.int .i64 0] []))) K44_31) K44_30
@[simp] def W44_32 := @C.wpe _ _ K44_32.eq_1
def K44_33 : Pl := .st (.act none (.px (some 8) (.mv (.v 19)))) .done
@[simp] def W44_33 := @Pl.wpe _ _ K44_33.eq_1
def K44_34 : C := .seq (.block 1 (.seq (.pl <| .st (.ext 13 7) <|
    .st (.act none (.pget (some 13) none 1 0 (some 2))) <|
    .st (.act none (.als 14 none 6)) <|
    .st (.act none (.pget (some 15) (some 14) 6 0 none)) <|
    .st (.act none (.px (some 16) (.mv (.v 7)))) <|
    .st (.act none (.px (some 17) (.ia 2 (.v 15) (.v 16)))) <|
    .st (.act none (.ld (some 18) (.v 17) (some 2))) <|
    .st (.act none (.ex (some 19) (.call fn_spec_l3Steps [.v 13, .v 18]))) K44_33) K44_32)) K44_2
@[simp] def W44_34 := @C.wpe _ _ K44_34.eq_1
def K44_35 : C := .cond 13 (.v 17) (.skip) (.exit 0)
@[simp] def W44_35 := @C.wpe _ _ K44_35.eq_1
def K44_36 : C := .seq (.seq (.pl <| .st (.ext 13 5) <|
    .st (.act none (.px (some 13) (.mv (.v 7)))) <|
    .st (.act none (.als 14 none 6)) <|
    .st (.act none (.pget (some 15) (some 14) 6 0 none)) <|
    .st (.act none (.px (some 16) (.lenV (.v 15)))) <|
    .st (.act none (.px (some 17) (.bin .lss (.v 13) (.v 16)))) .done) K44_35) K44_34
@[simp] def W44_36 := @C.wpe _ _ K44_36.eq_1
def K44_37 : C := .block 0 (.loop 13 [0, 3, 4, 5, 8, 9, 10, 11, 12] K44_36)
@[simp] def W44_37 := @C.wpe _ _ K44_37.eq_1
def K44_38 : C := .seq (.seq (.pl <| .st (.ext 13 0) <|
    .st (.act none (.px (some 7) (.mv (.c (.int .i64 0))))) .done) K44_37) K44_1
@[simp] def W44_38 := @C.wpe _ _ K44_38.eq_1
def K44_39 : Pl := .st (.act none (.px (some 15) (.build [.slice none 0 0, .slice none 0 0] [(0, 1, .v 14)]))) <|
    .st (.act none (.pnew 6 (.c (.agg #[.slice none 0 0, .slice none 0 0])) [])) <|
    .st (.act none (.pset none 6 0 2 (.v 15))) .done
@[simp] def W44_39 := @Pl.wpe _ _ K44_39.eq_1
def K44_40 : C := .seq (.pl <| .st (.ext 13 3) <|
    .st (.act none (.pget (some 13) none 4 0 (some 2))) <|
    .st (.act none (.ex (some 14) (.bls 2 1 [.slice none 0 0, .slice none 0 0] [(0, 2, .v 13)]))) K44_39) K44_38
@[simp] def W44_40 := @C.wpe _ _ K44_40.eq_1
def K44_41 : C := .seq (.pl <| .st (.ext 13 1) <|
    .st (.act none (.px (some 13) (.build [.slice none 0 0, .slice none 0 0] []))) <|
    .st (.act none (.pset none 2 0 2 (.v 13))) <|
    .st (.act none (.px (some 3) (.mv (.c (.bool false))))) .done) (.ret)
@[simp] def W44_41 := @C.wpe _ _ K44_41.eq_1
def K44_42 : C := .cond 13 (.v 14) K44_41 (.skip)
@[simp] def W44_42 := @C.wpe _ _ K44_42.eq_1
def K44_43 : C := .seq (.seq (.pl <| .st (.ext 13 2) <|
    .st (.act none (.px (some 13) (.mv (.v 5)))) <|
    .st (.act none (.px (some 14) (.un .not (.v 13)))) .done) K44_42) K44_40
@[simp] def W44_43 := @C.wpe _ _ K44_43.eq_1
def K44_44 : Pl := .st (.act none (.px (some 15) (.mv (.v 14)))) <|
    .st (.act none (.px (some 16) (.extract 0 (.v 15)))) <|
    .st (.act none (.px (some 17) (.extract 1 (.v 15)))) <|
    .st (.act none (.pnew 4 (.c (.agg #[.slice none 0 0, .slice none 0 0])) [])) <|
    .st (.act none (.pset none 4 0 2 (.v 16))) <|
    .st (.act none (.px (some 5) (.mv (.v 17)))) .done
@[simp] def W44_44 := @Pl.wpe _ _ K44_44.eq_1
def K44_45 : C := .seq (.pl <| .st (.ext 13 5) <|
    .st (.act none (.pget (some 13) none 1 0 (some 2))) <|
    .st (.act none (.ex (some 14) (.call fn_spec_InitialState [.v 13]))) K44_44) K44_43
@[simp] def W44_45 := @C.wpe _ _ K44_45.eq_1
def B_spec_BuildGraph : C := .seq (.pl <| .st (.ext 13 0) <|
    .st (.act none (.pnew 1 (.v 0) [])) <|
    .st (.act none (.pnew 2 (.c (.agg #[.slice none 0 0, .slice none 0 0])) [])) <|
    .st (.act none (.px (some 3) (.mv (.c (.bool false))))) .done) K44_45
@[simp] def WB_spec_BuildGraph := @C.wpe _ _ B_spec_BuildGraph.eq_1
def R_spec_BuildGraph : FIR := ⟨B_spec_BuildGraph, 13, [(2, some (some 2)), (3, none)]⟩
theorem IR_spec_BuildGraph : cfun Try.prog H_spec_BuildGraph Try.f44 = some R_spec_BuildGraph := by kernel_rfl
theorem EN_spec_BuildGraph {args : List Value} {h : Heap} {k : Value → Heap → Prop} (hargs : args.length = 1) (hw : B_spec_BuildGraph.wp Try.prog (retQ [(2, some (some 2)), (3, none)] k) (env0 args 13) h) : CallE Try.prog fn_spec_BuildGraph args h k := enter Try.func44 rfl IR_spec_BuildGraph hargs hw

def H_spec_DeadEdges : Hint := ⟨[(0, false), (1, false), (2, true), (4, false), (5, false), (6, true), (7, false), (8, false), (9, false), (10, false), (11, false), (12, false)], [[0, 3, 4, 6, 9, 10, 11], [0, 3, 4, 6, 8, 10, 11], [0, 3, 4, 6, 8]]⟩
def K16_1 : C := .seq (.pl <| .st (.ext 12 1) <|
    .st (.act none (.px (some 12) (.mv (.v 7)))) <|
    .st (.act none (.px (some 3) (.mv (.v 12)))) <|
    .st (.act none (.px (some 4) (.mv (.c (.bool true))))) .done) (.ret)
@[simp] def W16_1 := @C.wpe _ _ K16_1.eq_1
def K16_2 : C := .pl <| .st (.ext 12 2) <|
    .st (.act none (.px (some 12) (.mv (.v 9)))) <|
    .st (.act none (.px (some 13) (.bin .add (.v 12) (.c (.int .i64 1))))) <|
    .st (.act none (.px (some 9) (.mv (.v 13)))) .done
@[simp] def W16_2 := @C.wpe _ _ K16_2.eq_1
def K16_3 : C := .pl <| .st (.ext 12 2) <|
    .st (.act none (.px (some 12) (.mv (.v 11)))) <|
    .st (.act none (.px (some 13) (.bin .add (.v 12) (.c (.int .i64 1))))) <|
    .st (.act none (.px (some 11) (.mv (.v 13)))) .done
@[simp] def W16_3 := @C.wpe _ _ K16_3.eq_1
def K16_4 : C := .pl <| .st (.ext 12 7) <|
    .st (.act none (.px (some 12) (.mv (.v 7)))) <|
    .st (.act none (.px (some 13) (.mv (.v 10)))) <|
    .st (.act none (.px (some 14) (.mv (.v 11)))) <|
    .st (.act none (.px (some 15) (.ia 4 (.v 13) (.v 14)))) <|
    .st (.act none (.px (some 16) (.fa 3 (.v 15)))) <|
    .st (.act none (.ld (some 17) (.v 16) none)) <|
    .st (.act none (.px (some 18) (.ia 1 (.v 12) (.v 17)))) <|
    .st (.act none (.ex none (.store 1 (.v 18) (.c (.bool false))))) .done
@[simp] def W16_4 := @C.wpe _ _ K16_4.eq_1
def K16_5 : C := .cond 12 (.v 18) K16_4 (.skip)
@[simp] def W16_5 := @C.wpe _ _ K16_5.eq_1
def K16_6 : C := .seq (.pl <| .st (.ext 12 7) <|
    .st (.act none (.px (some 12) (.mv (.v 10)))) <|
    .st (.act none (.px (some 13) (.mv (.v 11)))) <|
    .st (.act none (.px (some 14) (.ia 4 (.v 12) (.v 13)))) <|
    .st (.act none (.px (some 15) (.fa 2 (.v 14)))) <|
    .st (.act none (.ld (some 16) (.v 15) none)) <|
    .st (.act none (.px (some 17) (.mv (.v 1)))) <|
    .st (.act none (.px (some 18) (.bin .eql (.v 16) (.v 17)))) .done) K16_5
@[simp] def W16_6 := @C.wpe _ _ K16_6.eq_1
def K16_7 : C := .pl <| .st (.ext 12 7) <|
    .st (.act none (.px (some 12) (.mv (.v 7)))) <|
    .st (.act none (.px (some 13) (.mv (.v 10)))) <|
    .st (.act none (.px (some 14) (.mv (.v 11)))) <|
    .st (.act none (.px (some 15) (.ia 4 (.v 13) (.v 14)))) <|
    .st (.act none (.px (some 16) (.fa 1 (.v 15)))) <|
    .st (.act none (.ld (some 17) (.v 16) none)) <|
    .st (.act none (.px (some 18) (.ia 1 (.v 12) (.v 17)))) <|
    .st (.act none (.ex none (.store 1 (.v 18) (.c (.bool false))))) .done
@[simp] def W16_7 := @C.wpe _ _ K16_7.eq_1
def K16_8 : C := .cond 12 (.v 18) K16_7 (.skip)
@[simp] def W16_8 := @C.wpe _ _ K16_8.eq_1
def K16_9 : C := .seq (.block 5 (.seq (.seq (.pl <| .st (.ext 12 7) <|
    .st (.act none (.px (some 12) (.mv (.v 10)))) <|
    .st (.act none (.px (some 13) (.mv (.v 11)))) <|
    .st (.act none (.px (some 14) (.ia 4 (.v 12) (.v 13)))) <|
    .st (.act none (.px (some 15) (.fa 0 (.v 14)))) <|
    .st (.act none (.ld (some 16) (.v 15) none)) <|
    .st (.act none (.px (some 17) (.mv (.v 1)))) <|
    .st (.act none (.px (some 18) (.bin .eql (.v 16) (.v 17)))) .done) K16_8) K16_6)) K16_3
@[simp] def W16_9 := @C.wpe _ _ K16_9.eq_1
def K16_10 : C := .cond 12 (.v 15) (.skip) (.exit 4)
@[simp] def W16_10 := @C.wpe _ _ K16_10.eq_1
def K16_11 : C := .seq (.seq (.pl <| .st (.ext 12 4) <|
    .st (.act none (.px (some 12) (.mv (.v 11)))) <|
    .st (.act none (.px (some 13) (.mv (.v 10)))) <|
    .st (.act none (.px (some 14) (.lenV (.v 13)))) <|
    .st (.act none (.px (some 15) (.bin .lss (.v 12) (.v 14)))) .done) K16_10) K16_9
@[simp] def W16_11 := @C.wpe _ _ K16_11.eq_1
def K16_12 : C := .block 4 (.loop 12 [0, 3, 4, 6, 8] K16_11)
@[simp] def W16_12 := @C.wpe _ _ K16_12.eq_1
def K16_13 : C := .seq (.pl <| .st (.ext 12 0) <|
    .st (.act none (.px (some 11) (.mv (.c (.int .i64 0))))) .done) K16_12
@[simp] def W16_13 := @C.wpe _ _ K16_13.eq_1
def K16_14 : Pl := .st (.act none (.px (some 10) (.mv (.v 18)))) .done
@[simp] def W16_14 := @Pl.wpe _ _ K16_14.eq_1
def K16_15 : C := .seq (.block 3 (.seq (.pl <| .st (.ext 12 7) <|
    .st (.act none (.pget (some 12) none 2 0 (some 2))) <|
    .st (.act none (.als 13 none 5)) <|
    .st (.act none (.pget (some 14) (some 13) 5 0 none)) <|
    .st (.act none (.px (some 15) (.mv (.v 9)))) <|
    .st (.act none (.px (some 16) (.ia 2 (.v 14) (.v 15)))) <|
    .st (.act none (.ld (some 17) (.v 16) (some 2))) <|
    .st (.act none (.ex (some 18) (.call fn_spec_l3Steps [.v 12, .v 17]))) K16_14) K16_13)) K16_2
@[simp] def W16_15 := @C.wpe _ _ K16_15.eq_1
def K16_16 : C := .cond 12 (.v 16) (.skip) (.exit 2)
@[simp] def W16_16 := @C.wpe _ _ K16_16.eq_1
def K16_17 : C := .seq (.seq (.pl <| .st (.ext 12 5) <|
    .st (.act none (.px (some 12) (.mv (.v 9)))) <|
    .st (.act none (.als 13 none 5)) <|
    .st (.act none (.pget (some 14) (some 13) 5 0 none)) <|
    .st (.act none (.px (some 15) (.lenV (.v 14)))) <|
    .st (.act none (.px (some 16) (.bin .lss (.v 12) (.v 15)))) .done) K16_16) K16_15
@[simp] def W16_17 := @C.wpe _ _ K16_17.eq_1
def K16_18 : C := .block 2 (.loop 12 [0, 3, 4, 6, 8, 10, 11] K16_17)
@[simp] def W16_18 := @C.wpe _ _ K16_18.eq_1
def K16_19 : C := .seq (.seq (.pl <| .st (.ext 12 0) <|
    .st (.act none (.px (some 9) (.mv (.c (.int .i64 0))))) .done) K16_18) K16_1
@[simp] def W16_19 := @C.wpe _ _ K16_19.eq_1
def K16_20 : C := .pl <| .st (.ext 12 2) <|
    .st (.act none (.px (some 12) (.mv (.v 8)))) <|
    .st (.act none (.px (some 13) (.bin .add (.v 12) (.c (.int .i64 1))))) <|
    .st (.act none (.px (some 8) (.mv (.v 13)))) .done
@[simp] def W16_20 := @C.wpe _ _ K16_20.eq_1
def K16_21 : Pl := .st (.act none (.px (some 7) (.mv (.v 14)))) .done
@[simp] def W16_21 := @Pl.wpe _ _ K16_21.eq_1
def K16_22 : C := .seq (.block 1 (.pl <| .st (.ext 12 3) <|
    .st (.act none (.px (some 12) (.mv (.v 7)))) <|
    .st (.act none (.psl 13 [.bool false] [(0, 1, .c (.bool true))])) <|
    .st (.act none (.ex (some 14) (.app 1 1 [.bool false] (.o (.v 12)) (.p 1 13)))) K16_21)) K16_20
@[simp] def W16_22 := @C.wpe _ _ K16_22.eq_1
def K16_23 : C := .cond 12 (.v 20) (.skip) (.exit 0)
@[simp] def W16_23 := @C.wpe _ _ K16_23.eq_1
def K16_24 : C := .seq (.seq (.pl <| .st (.ext 12 9) <|
    .st (.act none (.px (some 12) (.mv (.v 8)))) <|
    .st (.act none (.als 13 none 2)) <|
    .st (.act none (.pget (some 14) (some 13) 2 1 none)) <|
    .st (.act none (.px (some 15) (.mv (.v 1)))) <|
    .st (.act none (.px (some 16) (.ia 2 (.v 14) (.v 15)))) <|
    .st (.act none (.px (some 17) (.fa 1 (.v 16)))) <|
    .st (.act none (.ld (some 18) (.v 17) none)) <|
    .st (.act none (.px (some 19) (.lenV (.v 18)))) <|
    .st (.act none (.px (some 20) (.bin .lss (.v 12) (.v 19)))) .done) K16_23) K16_22
@[simp] def W16_24 := @C.wpe _ _ K16_24.eq_1
def K16_25 : C := .block 0 (.loop 12 [0, 3, 4, 6, 9, 10, 11] K16_24)
@[simp] def W16_25 := @C.wpe _ _ K16_25.eq_1
def K16_26 : C := .seq (.seq (.pl <| .st (.ext 12 0) <|
    .st (.act none (.px (some 8) (.mv (.c (.int .i64 0))))) .done) K16_25) K16_19
@[simp] def W16_26 := @C.wpe _ _ K16_26.eq_1
def K16_27 : Pl := .st (.act none (.px (some 7) (.mv (.v 12)))) .done
@[simp] def W16_27 := @Pl.wpe _ _ K16_27.eq_1
def K16_28 : C := .seq (.pl <| .st (.ext 12 1) <|
    .st (.act none (.ex (some 12) (.bls 1 0 [.bool false] []))) K16_27) K16_26
@[simp] def W16_28 := @C.wpe _ _ K16_28.eq_1
def K16_29 : Pl := .st (.act none (.px (some 3) (.mv (.v 12)))) <|
    .st (.act none (.px (some 4) (.mv (.c (.bool false))))) .done
@[simp] def W16_29 := @Pl.wpe _ _ K16_29.eq_1
def K16_30 : C := .seq (.pl <| .st (.ext 12 1) <|
    .st (.act none (.ex (some 12) (.bls 1 0 [.bool false] []))) K16_29) (.ret)
@[simp] def W16_30 := @C.wpe _ _ K16_30.eq_1
def K16_31 : C := .cond 12 (.v 24) K16_30 (.skip)
@[simp] def W16_31 := @C.wpe _ _ K16_31.eq_1
def K16_32 : C := .seq (.seq (.pl <| .st (.ext 12 13) <|
    .st (.act none (.px (some 12) (.mv (.v 6)))) <|
    .st (.act none (.px (some 13) (.un .not (.v 12)))) <|
    .st (.act none (.px (some 14) (.mv (.v 13)))) <|
    .st (.act (some (.v 14, false)) (.px (some 15) (.mv (.v 1)))) <|
    .st (.act (some (.v 14, false)) (.px (some 16) (.bin .lss (.v 15) (.c (.int .i64 0))))) <|
    .st (.act none (.px (some 17) (.pick (.v 14) (.c (.bool true)) (.v 16)))) <|
    .st (.act none (.px (some 18) (.mv (.v 17)))) <|
    .st (.act (some (.v 18, false)) (.px (some 19) (.mv (.v 1)))) <|
    .st (.act (some (.v 18, false)) (.als 20 none 2)) <|
    .st (.act (some (.v 18, false)) (.pget (some 21) (some 20) 2 1 none)) <|
    .st (.act (some (.v 18, false)) (.px (some 22) (.lenV (.v 21)))) <|
    .st (.act (some (.v 18, false)) (.px (some 23) (.bin .geq (.v 19) (.v 22)))) <|
    .st (.act none (.px (some 24) (.pick (.v 18) (.c (.bool true)) (.v 23)))) .done) K16_31) K16_28
@[simp] def W16_32 := @C.wpe _ _ K16_32.eq_1
def K16_33 : Pl := .st (.act none (.px (some 14) (.mv (.v 13)))) <|
    .st (.act none (.px (some 15) (.extract 0 (.v 14)))) <|
    .st (.act none (.px (some 16) (.extract 1 (.v 14)))) <|
    .st (.act none (.pnew 5 (.c (.agg #[.slice none 0 0, .slice none 0 0])) [])) <|
    .st (.act none (.pset none 5 0 2 (.v 15))) <|
    .st (.act none (.px (some 6) (.mv (.v 16)))) .done
@[simp] def W16_33 := @Pl.wpe _ _ K16_33.eq_1
def K16_34 : C := .seq (.pl <| .st (.ext 12 5) <|
    .st (.act none (.pget (some 12) none 2 0 (some 2))) <|
    .st (.act none (.ex (some 13) (.call fn_spec_BuildGraph [.v 12]))) K16_33) K16_32
@[simp] def W16_34 := @C.wpe _ _ K16_34.eq_1
def B_spec_DeadEdges : C := .seq (.pl <| .st (.ext 12 0) <|
    .st (.act none (.pnew 2 (.v 0) [])) <|
    .st (.act none (.px (some 3) (.mv (.c (.slice none 0 0))))) <|
    .st (.act none (.px (some 4) (.mv (.c (.bool false))))) .done) K16_34
@[simp] def WB_spec_DeadEdges := @C.wpe _ _ B_spec_DeadEdges.eq_1
def R_spec_DeadEdges : FIR := ⟨B_spec_DeadEdges, 12, [(3, none), (4, none)]⟩
theorem IR_spec_DeadEdges : cfun Try.prog H_spec_DeadEdges Try.f16 = some R_spec_DeadEdges := by kernel_rfl
theorem EN_spec_DeadEdges {args : List Value} {h : Heap} {k : Value → Heap → Prop} (hargs : args.length = 2) (hw : B_spec_DeadEdges.wp Try.prog (retQ [(3, none), (4, none)] k) (env0 args 12) h) : CallE Try.prog fn_spec_DeadEdges args h k := enter Try.func16 rfl IR_spec_DeadEdges hargs hw

def H_spec_DrawDeadEdges : Hint := ⟨[(0, false), (2, true), (3, false), (4, false), (5, true)], []⟩
def K14_1 : Pl := .st (.act none (.pset none 1 0 2 (.v 5))) <|
    .st (.act none (.px (some 2) (.mv (.v 8)))) .done
@[simp] def W14_1 := @Pl.wpe _ _ K14_1.eq_1
def K14_2 : Pl := .st (.act none (.ex (some 8) (.call fn_spec_l16Rd_num [.v 6, .v 7]))) K14_1
@[simp] def W14_2 := @Pl.wpe _ _ K14_2.eq_1
def K14_3 : C := .seq (.pl <| .st (.ext 5 4) <|
    .st (.act none (.pget (some 5) none 4 0 (some 2))) <|
    .st (.act none (.px (some 6) (.mv (.v 3)))) <|
    .st (.act none (.ex (some 7) (.bls 1 6 [.int .i64 0] [(0, 1, .c (.int .i64 0)), (1, 1, .c (.int .i64 1)), (2, 1, .c (.int .i64 0)), (3, 1, .c (.int .i64 2)), (4, 1, .c (.int .i64 (-1))), (5, 1, .c (.int .i64 3))]))) K14_2) (.ret)
@[simp] def W14_3 := @C.wpe _ _ K14_3.eq_1
def K14_4 : Pl := .st (.act none (.pnew 4 (.c (.agg #[.slice none 0 0, .slice none 0 0])) [])) <|
    .st (.act none (.pset none 4 0 2 (.v 8))) .done
@[simp] def W14_4 := @Pl.wpe _ _ K14_4.eq_1
def K14_5 : Pl := .st (.act none (.ex (some 8) (.call fn_spec_l2Mutate [.v 5, .v 7]))) K14_4
@[simp] def W14_5 := @Pl.wpe _ _ K14_5.eq_1
def K14_6 : C := .seq (.pl <| .st (.ext 5 4) <|
    .st (.act none (.px (some 5) (.mv (.v 3)))) <|
    .st (.act none (.px (some 6) (.mv (.v 3)))) <|
    .st (.act none (.ex (some 7) (.call fn_spec_l2System [.v 6]))) K14_5) K14_3
@[simp] def W14_6 := @C.wpe _ _ K14_6.eq_1
def K14_7 : Pl := .st (.act none (.px (some 3) (.mv (.v 6)))) .done
@[simp] def W14_7 := @Pl.wpe _ _ K14_7.eq_1
def K14_8 : C := .seq (.pl <| .st (.ext 5 2) <|
    .st (.act none (.px (some 5) (.mv (.v 0)))) <|
    .st (.act none (.ex (some 6) (.call fn_spec_l16Open [.v 5]))) K14_7) K14_6
@[simp] def W14_8 := @C.wpe _ _ K14_8.eq_1
def B_spec_DrawDeadEdges : C := .seq (.pl <| .st (.ext 5 0) <|
    .st (.act none (.pnew 1 (.c (.agg #[.slice none 0 0, .slice none 0 0])) [])) <|
    .st (.act none (.px (some 2) (.mv (.c (.int .i64 0))))) .done) K14_8
@[simp] def WB_spec_DrawDeadEdges := @C.wpe _ _ B_spec_DrawDeadEdges.eq_1
def R_spec_DrawDeadEdges : FIR := ⟨B_spec_DrawDeadEdges, 5, [(1, some (some 2)), (2, none)]⟩
theorem IR_spec_DrawDeadEdges : cfun Try.prog H_spec_DrawDeadEdges Try.f14 = some R_spec_DrawDeadEdges := by kernel_rfl
theorem EN_spec_DrawDeadEdges {args : List Value} {h : Heap} {k : Value → Heap → Prop} (hargs : args.length = 1) (hw : B_spec_DrawDeadEdges.wp Try.prog (retQ [(1, some (some 2)), (2, none)] k) (env0 args 5) h) : CallE Try.prog fn_spec_DrawDeadEdges args h k := enter Try.func14 rfl IR_spec_DrawDeadEdges hargs hw

def H_spec_StateSame : Hint := ⟨[(0, false), (1, false), (2, true), (3, true), (4, false)], []⟩
def K117_1 : Pl := .st (.act none (.px (some 16) (.pick (.v 10) (.v 15) (.c (.bool false))))) <|
    .st (.act none (.px (some 4) (.mv (.v 16)))) .done
@[simp] def W117_1 := @Pl.wpe _ _ K117_1.eq_1
def K117_2 : Pl := .st (.act none (.px (some 10) (.mv (.v 9)))) <|
    .st (.act (some (.v 10, true)) (.als 11 none 2)) <|
    .st (.act (some (.v 10, true)) (.pget (some 12) (some 11) 2 1 none)) <|
    .st (.act (some (.v 10, true)) (.als 13 none 3)) <|
    .st (.act (some (.v 10, true)) (.pget (some 14) (some 13) 3 1 none)) <|
    .st (.act (some (.v 10, true)) (.ex (some 15) (.call fn_spec_l2Ints [.v 12, .v 14]))) K117_1
@[simp] def W117_2 := @Pl.wpe _ _ K117_2.eq_1
def K117_3 : C := .seq (.pl <| .st (.ext 5 12) <|
    .st (.act none (.als 5 none 2)) <|
    .st (.act none (.pget (some 6) (some 5) 2 0 none)) <|
    .st (.act none (.als 7 none 3)) <|
    .st (.act none (.pget (some 8) (some 7) 3 0 none)) <|
    .st (.act none (.ex (some 9) (.call fn_spec_l2Ints [.v 6, .v 8]))) K117_2) (.ret)
@[simp] def W117_3 := @C.wpe _ _ K117_3.eq_1
def B_spec_StateSame : C := .seq (.pl <| .st (.ext 5 0) <|
    .st (.act none (.pnew 2 (.v 0) [])) <|
    .st (.act none (.pnew 3 (.v 1) [])) <|
    .st (.act none (.px (some 4) (.mv (.c (.bool false))))) .done) K117_3
@[simp] def WB_spec_StateSame := @C.wpe _ _ B_spec_StateSame.eq_1
def R_spec_StateSame : FIR := ⟨B_spec_StateSame, 5, [(4, none)]⟩
theorem IR_spec_StateSame : cfun Try.prog H_spec_StateSame Try.f117 = some R_spec_StateSame := by kernel_rfl
theorem EN_spec_StateSame {args : List Value} {h : Heap} {k : Value → Heap → Prop} (hargs : args.length = 2) (hw : B_spec_StateSame.wp Try.prog (retQ [(4, none)] k) (env0 args 5) h) : CallE Try.prog fn_spec_StateSame args h k := enter Try.func117 rfl IR_spec_StateSame hargs hw

def H_spec_l2Ints : Hint := ⟨[(0, false), (1, false), (4, false), (5, false)], [[2]]⟩
def K136_1 : C := .seq (.pl <| .st (.ext 4 0) <|
    .st (.act none (.px (some 2) (.mv (.c (.bool true))))) .done) (.ret)
@[simp] def W136_1 := @C.wpe _ _ K136_1.eq_1
def K136_2 : C := .pl <| .st (.ext 4 2) <|
    .st (.act none (.px (some 4) (.mv (.v 3)))) <|
    .st (.act none (.px (some 5) (.bin .add (.v 4) (.c (.int .i64 1))))) <|
    .st (.act none (.px (some 3) (.mv (.v 5)))) .done
@[simp] def W136_2 := @C.wpe _ _ K136_2.eq_1
def K136_3 : C := .seq (.pl <| .st (.ext 4 0) <|
    .st (.act none (.px (some 2) (.mv (.c (.bool false))))) .done) (.ret)
@[simp] def W136_3 := @C.wpe _ _ K136_3.eq_1
def K136_4 : C := .cond 4 (.v 12) K136_3 (.skip)
@[simp] def W136_4 := @C.wpe _ _ K136_4.eq_1
def K136_5 : C := .seq (.block 1 (.seq (.pl <| .st (.ext 4 9) <|
    .st (.act none (.px (some 4) (.mv (.v 0)))) <|
    .st (.act none (.px (some 5) (.mv (.v 3)))) <|
    .st (.act none (.px (some 6) (.ia 1 (.v 4) (.v 5)))) <|
    .st (.act none (.ld (some 7) (.v 6) none)) <|
    .st (.act none (.px (some 8) (.mv (.v 1)))) <|
    .st (.act none (.px (some 9) (.mv (.v 3)))) <|
    .st (.act none (.px (some 10) (.ia 1 (.v 8) (.v 9)))) <|
    .st (.act none (.ld (some 11) (.v 10) none)) <|
    .st (.act none (.px (some 12) (.bin .neq (.v 7) (.v 11)))) .done) K136_4)) K136_2
@[simp] def W136_5 := @C.wpe _ _ K136_5.eq_1
def K136_6 : C := .cond 4 (.v 7) (.skip) (.exit 0)
@[simp] def W136_6 := @C.wpe _ _ K136_6.eq_1
def K136_7 : C := .seq (.seq (.pl <| .st (.ext 4 4) <|
    .st (.act none (.px (some 4) (.mv (.v 3)))) <|
    .st (.act none (.px (some 5) (.mv (.v 0)))) <|
    .st (.act none (.px (some 6) (.lenV (.v 5)))) <|
    .st (.act none (.px (some 7) (.bin .lss (.v 4) (.v 6)))) .done) K136_6) K136_5
@[simp] def W136_7 := @C.wpe _ _ K136_7.eq_1
def K136_8 : C := .block 0 (.loop 4 [2] K136_7)
@[simp] def W136_8 := @C.wpe _ _ K136_8.eq_1
def K136_9 : C := .seq (.seq (.pl <| .st (.ext 4 0) <|
    .st (.act none (.px (some 3) (.mv (.c (.int .i64 0))))) .done) K136_8) K136_1
@[simp] def W136_9 := @C.wpe _ _ K136_9.eq_1
def K136_10 : C := .seq (.pl <| .st (.ext 4 0) <|
    .st (.act none (.px (some 2) (.mv (.c (.bool false))))) .done) (.ret)
@[simp] def W136_10 := @C.wpe _ _ K136_10.eq_1
def K136_11 : C := .cond 4 (.v 8) K136_10 (.skip)
@[simp] def W136_11 := @C.wpe _ _ K136_11.eq_1
def K136_12 : C := .seq (.seq (.pl <| .st (.ext 4 5) <|
    .st (.act none (.px (some 4) (.mv (.v 0)))) <|
    .st (.act none (.px (some 5) (.lenV (.v 4)))) <|
    .st (.act none (.px (some 6) (.mv (.v 1)))) <|
    .st (.act none (.px (some 7) (.lenV (.v 6)))) <|
    .st (.act none (.px (some 8) (.bin .neq (.v 5) (.v 7)))) .done) K136_11) K136_9
@[simp] def W136_12 := @C.wpe _ _ K136_12.eq_1
def B_spec_l2Ints : C := .seq (.pl <| .st (.ext 4 0) <|
    .st (.act none (.px (some 2) (.mv (.c (.bool false))))) .done) K136_12
@[simp] def WB_spec_l2Ints := @C.wpe _ _ B_spec_l2Ints.eq_1
def R_spec_l2Ints : FIR := ⟨B_spec_l2Ints, 4, [(2, none)]⟩
theorem IR_spec_l2Ints : cfun Try.prog H_spec_l2Ints Try.f136 = some R_spec_l2Ints := by kernel_rfl
theorem EN_spec_l2Ints {args : List Value} {h : Heap} {k : Value → Heap → Prop} (hargs : args.length = 2) (hw : B_spec_l2Ints.wp Try.prog (retQ [(2, none)] k) (env0 args 4) h) : CallE Try.prog fn_spec_l2Ints args h k := enter Try.func136 rfl IR_spec_l2Ints hargs hw

def H_spec_l4Find : Hint := ⟨[(0, false), (1, false), (3, true), (4, false), (5, false)], [[1, 3]]⟩
def K82_1 : C := .seq (.pl <| .st (.ext 5 0) <|
    .st (.act none (.px (some 3) (.mv (.c (.int .i64 (-1)))))) .done) (.ret)
@[simp] def W82_1 := @C.wpe _ _ K82_1.eq_1
def K82_2 : C := .pl <| .st (.ext 5 2) <|
    .st (.act none (.px (some 5) (.mv (.v 4)))) <|
    .st (.act none (.px (some 6) (.bin .add (.v 5) (.c (.int .i64 1))))) <|
    .st (.act none (.px (some 4) (.mv (.v 6)))) .done
@[simp] def W82_2 := @C.wpe _ _ K82_2.eq_1
def K82_3 : C := .seq (.pl <| .st (.ext 5 1) <|
    .st (.act none (.px (some 5) (.mv (.v 4)))) <|
    .st (.act none (.px (some 3) (.mv (.v 5)))) .done) (.ret)
@[simp] def W82_3 := @C.wpe _ _ K82_3.eq_1
def K82_4 : C := .cond 5 (.v 10) K82_3 (.skip)
@[simp] def W82_4 := @C.wpe _ _ K82_4.eq_1
def K82_5 : C := .seq (.block 1 (.seq (.pl <| .st (.ext 5 6) <|
    .st (.act none (.px (some 5) (.mv (.v 0)))) <|
    .st (.act none (.px (some 6) (.mv (.v 4)))) <|
    .st (.act none (.px (some 7) (.ia 2 (.v 5) (.v 6)))) <|
    .st (.act none (.ld (some 8) (.v 7) (some 2))) <|
    .st (.act none (.pget (some 9) none 2 0 (some 2))) <|
    .st (.act none (.ex (some 10) (.call fn_spec_StateSame [.v 8, .v 9]))) .done) K82_4)) K82_2
@[simp] def W82_5 := @C.wpe _ _ K82_5.eq_1
def K82_6 : C := .cond 5 (.v 8) (.skip) (.exit 0)
@[simp] def W82_6 := @C.wpe _ _ K82_6.eq_1
def K82_7 : C := .seq (.seq (.pl <| .st (.ext 5 4) <|
    .st (.act none (.px (some 5) (.mv (.v 4)))) <|
    .st (.act none (.px (some 6) (.mv (.v 0)))) <|
    .st (.act none (.px (some 7) (.lenV (.v 6)))) <|
    .st (.act none (.px (some 8) (.bin .lss (.v 5) (.v 7)))) .done) K82_6) K82_5
@[simp] def W82_7 := @C.wpe _ _ K82_7.eq_1
def K82_8 : C := .block 0 (.loop 5 [1, 3] K82_7)
@[simp] def W82_8 := @C.wpe _ _ K82_8.eq_1
def K82_9 : C := .seq (.seq (.pl <| .st (.ext 5 0) <|
    .st (.act none (.px (some 4) (.mv (.c (.int .i64 0))))) .done) K82_8) K82_1
@[simp] def W82_9 := @C.wpe _ _ K82_9.eq_1
def B_spec_l4Find : C := .seq (.pl <| .st (.ext 5 0) <|
    .st (.act none (.pnew 2 (.v 1) [])) <|
    .st (.act none (.px (some 3) (.mv (.c (.int .i64 0))))) .done) K82_9
@[simp] def WB_spec_l4Find := @C.wpe _ _ B_spec_l4Find.eq_1
def R_spec_l4Find : FIR := ⟨B_spec_l4Find, 5, [(3, none)]⟩
theorem IR_spec_l4Find : cfun Try.prog H_spec_l4Find Try.f82 = some R_spec_l4Find := by kernel_rfl
theorem EN_spec_l4Find {args : List Value} {h : Heap} {k : Value → Heap → Prop} (hargs : args.length = 2) (hw : B_spec_l4Find.wp Try.prog (retQ [(3, none)] k) (env0 args 5) h) : CallE Try.prog fn_spec_l4Find args h k := enter Try.func82 rfl IR_spec_l4Find hargs hw

def H_spec_l4In : Hint := ⟨[(0, false), (1, false), (4, false), (5, false)], [[2]]⟩
def K83_1 : C := .seq (.pl <| .st (.ext 4 0) <|
    .st (.act none (.px (some 2) (.mv (.c (.bool false))))) .done) (.ret)
@[simp] def W83_1 := @C.wpe _ _ K83_1.eq_1
def K83_2 : C := .pl <| .st (.ext 4 2) <|
    .st (.act none (.px (some 4) (.mv (.v 3)))) <|
    .st (.act none (.px (some 5) (.bin .add (.v 4) (.c (.int .i64 1))))) <|
    .st (.act none (.px (some 3) (.mv (.v 5)))) .done
@[simp] def W83_2 := @C.wpe _ _ K83_2.eq_1
def K83_3 : C := .seq (.pl <| .st (.ext 4 0) <|
    .st (.act none (.px (some 2) (.mv (.c (.bool true))))) .done) (.ret)
@[simp] def W83_3 := @C.wpe _ _ K83_3.eq_1
def K83_4 : C := .cond 4 (.v 9) K83_3 (.skip)
@[simp] def W83_4 := @C.wpe _ _ K83_4.eq_1
def K83_5 : C := .seq (.block 1 (.seq (.pl <| .st (.ext 4 6) <|
    .st (.act none (.px (some 4) (.mv (.v 0)))) <|
    .st (.act none (.px (some 5) (.mv (.v 3)))) <|
    .st (.act none (.px (some 6) (.ia 1 (.v 4) (.v 5)))) <|
    .st (.act none (.ld (some 7) (.v 6) none)) <|
    .st (.act none (.px (some 8) (.mv (.v 1)))) <|
    .st (.act none (.px (some 9) (.bin .eql (.v 7) (.v 8)))) .done) K83_4)) K83_2
@[simp] def W83_5 := @C.wpe _ _ K83_5.eq_1
def K83_6 : C := .cond 4 (.v 7) (.skip) (.exit 0)
@[simp] def W83_6 := @C.wpe _ _ K83_6.eq_1
def K83_7 : C := .seq (.seq (.pl <| .st (.ext 4 4) <|
    .st (.act none (.px (some 4) (.mv (.v 3)))) <|
    .st (.act none (.px (some 5) (.mv (.v 0)))) <|
    .st (.act none (.px (some 6) (.lenV (.v 5)))) <|
    .st (.act none (.px (some 7) (.bin .lss (.v 4) (.v 6)))) .done) K83_6) K83_5
@[simp] def W83_7 := @C.wpe _ _ K83_7.eq_1
def K83_8 : C := .block 0 (.loop 4 [2] K83_7)
@[simp] def W83_8 := @C.wpe _ _ K83_8.eq_1
def K83_9 : C := .seq (.seq (.pl <| .st (.ext 4 0) <|
    .st (.act none (.px (some 3) (.mv (.c (.int .i64 0))))) .done) K83_8) K83_1
@[simp] def W83_9 := @C.wpe _ _ K83_9.eq_1
def B_spec_l4In : C := .seq (.pl <| .st (.ext 4 0) <|
    .st (.act none (.px (some 2) (.mv (.c (.bool false))))) .done) K83_9
@[simp] def WB_spec_l4In := @C.wpe _ _ B_spec_l4In.eq_1
def R_spec_l4In : FIR := ⟨B_spec_l4In, 4, [(2, none)]⟩
theorem IR_spec_l4In : cfun Try.prog H_spec_l4In Try.f83 = some R_spec_l4In := by kernel_rfl
theorem EN_spec_l4In {args : List Value} {h : Heap} {k : Value → Heap → Prop} (hargs : args.length = 2) (hw : B_spec_l4In.wp Try.prog (retQ [(2, none)] k) (env0 args 4) h) : CallE Try.prog fn_spec_l4In args h k := enter Try.func83 rfl IR_spec_l4In hargs hw


end Go.Proofs.Ytonjglbachhdcaa

/-
  Bodies of functions in the small language, as a program printed them, and that each is what the translation gives.
-/
namespace Go.Proofs.Ytonjglbachhdcaa
open Go
set_option linter.all false
set_option linter.defProp false
set_option maxRecDepth 1000000

def H_spec_InitialState : Hint := ⟨[(0, false), (1, true), (2, true), (3, false)], []⟩
def K80_1 : Pl := .st (.act none (.px (some 12) (.build [.slice none 0 0, .slice none 0 0] [(0, 1, .v 7), (1, 1, .v 11)]))) <|
    .st (.act none (.pset none 2 0 2 (.v 12))) <|
    .st (.act none (.px (some 3) (.mv (.c (.bool true))))) .done
@[simp] def W80_1 := @Pl.wpe _ _ K80_1.eq_1
def K80_2 : Pl := .st (.act none (.ex (some 11) (.app 8 1 [.int .i64 0] (.p 0 8) (.o (.v 10))))) K80_1
@[simp] def W80_2 := @Pl.wpe _ _ K80_2.eq_1
def K80_3 : Pl := .st (.act none (.ex (some 7) (.mks 8 1 [.int .i64 0] (.v 6) (.v 6)))) K80_2
@[simp] def W80_3 := @Pl.wpe _ _ K80_3.eq_1
def K80_4 : Pl := .st (.act none (.px (some 12) (.build [.slice none 0 0, .slice none 0 0] [(0, 1, .v 7), (1, 1, .v 11)]))) <|
    .st (.act none (.pset none 2 0 2 (.v 12))) <|
    .st (.act none (.px (some 3) (.mv (.c (.bool true))))) .done
@[simp] def W80_4 := @Pl.wpe _ _ K80_4.eq_1
def K80_5 : Pl := .st (.act none (.ex (some 7) (.mks 8 1 [.int .i64 0] (.v 6) (.v 6)))) K80_4
@[simp] def W80_5 := @Pl.wpe _ _ K80_5.eq_1
def K80_6 : Pl := .st (.act none (.ex (some 11) (.app 8 1 [.int .i64 0] (.p 0 8) (.o (.v 10))))) K80_5
@[simp] def W80_6 := @Pl.wpe _ _ K80_6.eq_1
def K80_7 : C := .seq (.pl <| .st (.ext 4 9) <|
    .st (.act none (.als 4 none 1)) <|
    .st (.act none (.pget (some 5) (some 4) 1 1 none)) <|
    .st (.act none (.px (some 6) (.lenV (.v 5)))) <|
    .st (.act none (.psl 8 [] [])) <|
    .st (.act none (.als 9 none 1)) <|
    .st (.act none (.pget (some 10) (some 9) 1 0 none)) <|
    .both K80_3 K80_6) (.ret)
@[simp] def W80_7 := @C.wpe _ _ K80_7.eq_1
def K80_8 : C := .seq (.pl <| .st (.ext 4 1) <|
    .st (.act none (.px (some 4) (.build [.slice none 0 0, .slice none 0 0] []))) <|
    .st (.act none (.pset none 2 0 2 (.v 4))) <|
    .st (.act none (.px (some 3) (.mv (.c (.bool false))))) .done) (.ret)
@[simp] def W80_8 := @C.wpe _ _ K80_8.eq_1
def K80_9 : C := .cond 4 (.v 6) K80_8 (.skip)
@[simp] def W80_9 := @C.wpe _ _ K80_9.eq_1
def K80_10 : Pl := .st (.act none (.px (some 6) (.un .not (.v 5)))) .done
@[simp] def W80_10 := @Pl.wpe _ _ K80_10.eq_1
def K80_11 : C := .seq (.seq (.pl <| .st (.ext 4 3) <|
    .st (.act none (.pget (some 4) none 1 0 (some 2))) <|
    .st (.act none (.ex (some 5) (.call fn_spec_SystemValid [.v 4]))) K80_10) K80_9) K80_7
@[simp] def W80_11 := @C.wpe _ _ K80_11.eq_1
def B_spec_InitialState : C := .seq (.pl <| .st (.ext 4 0) <|
    .st (.act none (.pnew 1 (.v 0) [])) <|
    .st (.act none (.pnew 2 (.c (.agg #[.slice none 0 0, .slice none 0 0])) [])) <|
    .st (.act none (.px (some 3) (.mv (.c (.bool false))))) .done) K80_11
@[simp] def WB_spec_InitialState := @C.wpe _ _ B_spec_InitialState.eq_1
def R_spec_InitialState : FIR := ⟨B_spec_InitialState, 4, [(2, some (some 2)), (3, none)]⟩
theorem IR_spec_InitialState : cfun Try.prog H_spec_InitialState Try.f80 = some R_spec_InitialState := by kernel_rfl
theorem EN_spec_InitialState {args : List Value} {h : Heap} {k : Value → Heap → Prop} (hargs : args.length = 1) (hw : B_spec_InitialState.wp Try.prog (retQ [(2, some (some 2)), (3, none)] k) (env0 args 4) h) : CallE Try.prog fn_spec_InitialState args h k := enter Try.func80 rfl IR_spec_InitialState hargs hw

def H_spec_l1Bool : Hint := ⟨[(0, false), (2, false)], []⟩
def K132_1 : C := .seq (.pl <| .st (.ext 2 0) <|
    .st (.act none (.px (some 1) (.mv (.c (.int .i64 0))))) .done) (.ret)
@[simp] def W132_1 := @C.wpe _ _ K132_1.eq_1
def K132_2 : C := .seq (.pl <| .st (.ext 2 0) <|
    .st (.act none (.px (some 1) (.mv (.c (.int .i64 1))))) .done) (.ret)
@[simp] def W132_2 := @C.wpe _ _ K132_2.eq_1
def K132_3 : C := .cond 2 (.v 2) K132_2 (.skip)
@[simp] def W132_3 := @C.wpe _ _ K132_3.eq_1
def K132_4 : C := .seq (.seq (.pl <| .st (.ext 2 1) <|
    .st (.act none (.px (some 2) (.mv (.v 0)))) .done) K132_3) K132_1
@[simp] def W132_4 := @C.wpe _ _ K132_4.eq_1
def B_spec_l1Bool : C := .seq (.pl <| .st (.ext 2 0) <|
    .st (.act none (.px (some 1) (.mv (.c (.int .i64 0))))) .done) K132_4
@[simp] def WB_spec_l1Bool := @C.wpe _ _ B_spec_l1Bool.eq_1
def R_spec_l1Bool : FIR := ⟨B_spec_l1Bool, 2, [(1, none)]⟩
theorem IR_spec_l1Bool : cfun Try.prog H_spec_l1Bool Try.f132 = some R_spec_l1Bool := by kernel_rfl
theorem EN_spec_l1Bool {args : List Value} {h : Heap} {k : Value → Heap → Prop} (hargs : args.length = 1) (hw : B_spec_l1Bool.wp Try.prog (retQ [(1, none)] k) (env0 args 2) h) : CallE Try.prog fn_spec_l1Bool args h k := enter Try.func132 rfl IR_spec_l1Bool hargs hw

def H_spec_l1Eval : Hint := ⟨[(0, false), (1, false), (2, true), (4, false), (5, false), (6, false), (8, false), (43, false)], []⟩
def K111_1 : C := .seq (.pl <| .st (.ext 8 6) <|
    .st (.act none (.px (some 8) (.mv (.v 4)))) <|
    .st (.act none (.px (some 9) (.mv (.v 5)))) <|
    .st (.act none (.px (some 10) (.bin .sub (.v 8) (.v 9)))) <|
    .st (.act none (.px (some 11) (.bin .add (.v 10) (.c (.int .i64 3))))) <|
    .st (.act none (.px (some 12) (.bin .add (.v 11) (.c (.int .i64 1))))) <|
    .st (.act none (.px (some 13) (.bin .rem (.v 12) (.c (.int .i64 4))))) <|
    .st (.act none (.px (some 3) (.mv (.v 13)))) .done) (.ret)
@[simp] def W111_1 := @C.wpe _ _ K111_1.eq_1
def K111_2 : Pl := .st (.act none (.px (some 3) (.mv (.v 14)))) .done
@[simp] def W111_2 := @Pl.wpe _ _ K111_2.eq_1
def K111_3 : C := .seq (.pl <| .st (.ext 8 7) <|
    .st (.act none (.px (some 8) (.mv (.v 4)))) <|
    .st (.act none (.px (some 9) (.bin .neq (.v 8) (.c (.int .i64 0))))) <|
    .st (.act none (.px (some 10) (.mv (.v 9)))) <|
    .st (.act (some (.v 10, true)) (.px (some 11) (.mv (.v 5)))) <|
    .st (.act (some (.v 10, true)) (.px (some 12) (.bin .neq (.v 11) (.c (.int .i64 0))))) <|
    .st (.act none (.px (some 13) (.pick (.v 10) (.v 12) (.c (.bool false))))) <|
    .st (.act none (.ex (some 14) (.call fn_spec_l1Bool [.v 13]))) K111_2) (.ret)
@[simp] def W111_3 := @C.wpe _ _ K111_3.eq_1
def K111_4 : Pl := .st (.act none (.px (some 3) (.mv (.v 14)))) .done
@[simp] def W111_4 := @Pl.wpe _ _ K111_4.eq_1
def K111_5 : C := .seq (.pl <| .st (.ext 8 7) <|
    .st (.act none (.px (some 8) (.mv (.v 4)))) <|
    .st (.act none (.px (some 9) (.bin .neq (.v 8) (.c (.int .i64 0))))) <|
    .st (.act none (.px (some 10) (.mv (.v 9)))) <|
    .st (.act (some (.v 10, false)) (.px (some 11) (.mv (.v 5)))) <|
    .st (.act (some (.v 10, false)) (.px (some 12) (.bin .neq (.v 11) (.c (.int .i64 0))))) <|
    .st (.act none (.px (some 13) (.pick (.v 10) (.c (.bool true)) (.v 12)))) <|
    .st (.act none (.ex (some 14) (.call fn_spec_l1Bool [.v 13]))) K111_4) (.ret)
@[simp] def W111_5 := @C.wpe _ _ K111_5.eq_1
def K111_6 : Pl := .st (.act none (.px (some 3) (.mv (.v 11)))) .done
@[simp] def W111_6 := @Pl.wpe _ _ K111_6.eq_1
def K111_7 : C := .seq (.pl <| .st (.ext 8 4) <|
    .st (.act none (.px (some 8) (.mv (.v 4)))) <|
    .st (.act none (.px (some 9) (.mv (.v 5)))) <|
    .st (.act none (.px (some 10) (.bin .eql (.v 8) (.v 9)))) <|
    .st (.act none (.ex (some 11) (.call fn_spec_l1Bool [.v 10]))) K111_6) (.ret)
@[simp] def W111_7 := @C.wpe _ _ K111_7.eq_1
def K111_8 : Pl := .st (.act none (.px (some 3) (.mv (.v 11)))) .done
@[simp] def W111_8 := @Pl.wpe _ _ K111_8.eq_1
def K111_9 : C := .seq (.pl <| .st (.ext 8 4) <|
    .st (.act none (.px (some 8) (.mv (.v 4)))) <|
    .st (.act none (.px (some 9) (.mv (.v 5)))) <|
    .st (.act none (.px (some 10) (.bin .lss (.v 8) (.v 9)))) <|
    .st (.act none (.ex (some 11) (.call fn_spec_l1Bool [.v 10]))) K111_8) (.ret)
@[simp] def W111_9 := @C.wpe _ _ K111_9.eq_1
def K111_10 : C := .seq (.pl <| .st (.ext 8 4) <|
    .st (.act none (.px (some 8) (.mv (.v 4)))) <|
    .st (.act none (.px (some 9) (.mv (.v 5)))) <|
    .st (.act none (.px (some 10) (.bin .add (.v 8) (.v 9)))) <|
    .st (.act none (.px (some 11) (.bin .rem (.v 10) (.c (.int .i64 4))))) <|
    .st (.act none (.px (some 3) (.mv (.v 11)))) .done) (.ret)
@[simp] def W111_10 := @C.wpe _ _ K111_10.eq_1
def K111_11 : C := .cond 8 (.v 9) K111_10 (.skip)
@[simp] def W111_11 := @C.wpe _ _ K111_11.eq_1
def K111_12 : C := .seq (.pl <| .st (.ext 8 2) <|
    .st (.act none (.px (some 8) (.bin .eql (.v 7) (.c (.int .i64 8))))) <|
    .st (.act none (.px (some 9) (.mv (.v 8)))) .done) K111_11
@[simp] def W111_12 := @C.wpe _ _ K111_12.eq_1
def K111_13 : C := .cond 8 (.v 9) K111_9 K111_12
@[simp] def W111_13 := @C.wpe _ _ K111_13.eq_1
def K111_14 : C := .seq (.pl <| .st (.ext 8 2) <|
    .st (.act none (.px (some 8) (.bin .eql (.v 7) (.c (.int .i64 7))))) <|
    .st (.act none (.px (some 9) (.mv (.v 8)))) .done) K111_13
@[simp] def W111_14 := @C.wpe _ _ K111_14.eq_1
def K111_15 : C := .cond 8 (.v 9) K111_7 K111_14
@[simp] def W111_15 := @C.wpe _ _ K111_15.eq_1
def K111_16 : C := .seq (.pl <| .st (.ext 8 2) <|
    .st (.act none (.px (some 8) (.bin .eql (.v 7) (.c (.int .i64 6))))) <|
    .st (.act none (.px (some 9) (.mv (.v 8)))) .done) K111_15
@[simp] def W111_16 := @C.wpe _ _ K111_16.eq_1
def K111_17 : C := .cond 8 (.v 9) K111_5 K111_16
@[simp] def W111_17 := @C.wpe _ _ K111_17.eq_1
def K111_18 : C := .seq (.pl <| .st (.ext 8 2) <|
    .st (.act none (.px (some 8) (.bin .eql (.v 7) (.c (.int .i64 5))))) <|
    .st (.act none (.px (some 9) (.mv (.v 8)))) .done) K111_17
@[simp] def W111_18 := @C.wpe _ _ K111_18.eq_1
def K111_19 : C := .cond 8 (.v 9) K111_3 K111_18
@[simp] def W111_19 := @C.wpe _ _ K111_19.eq_1
def K111_20 : C := .block 1 (.seq (.pl <| .st (.ext 8 2) <|
    .st (.act none (.px (some 8) (.bin .eql (.v 7) (.c (.int .i64 4))))) <|
    .st (.act none (.px (some 9) (.mv (.v 8)))) .done) K111_19)
@[simp] def W111_20 := @C.wpe _ _ K111_20.eq_1
def K111_21 : C := .seq (.seq (.pl <| .st (.ext 8 1) <|
    .st (.act none (.als 8 none 2)) <|
    .st (.act none (.pget (some 7) (some 8) 2 0 none)) .done) K111_20) K111_1
@[simp] def W111_21 := @C.wpe _ _ K111_21.eq_1
def K111_22 : Pl := .st (.act none (.px (some 5) (.mv (.v 13)))) .done
@[simp] def W111_22 := @Pl.wpe _ _ K111_22.eq_1
def K111_23 : C := .seq (.pl <| .st (.ext 8 6) <|
    .st (.act none (.als 8 none 2)) <|
    .st (.act none (.pget (some 9) (some 8) 2 2 none)) <|
    .st (.act none (.px (some 10) (.ia 3 (.v 9) (.c (.int .i64 1))))) <|
    .st (.act none (.ld (some 11) (.v 10) (some 3))) <|
    .st (.act none (.px (some 12) (.mv (.v 1)))) <|
    .st (.act none (.ex (some 13) (.call fn_spec_l1Eval [.v 11, .v 12]))) K111_22) K111_21
@[simp] def W111_23 := @C.wpe _ _ K111_23.eq_1
def K111_24 : Pl := .st (.act none (.px (some 4) (.mv (.v 13)))) .done
@[simp] def W111_24 := @Pl.wpe _ _ K111_24.eq_1
def K111_25 : C := .seq (.pl <| .st (.ext 8 6) <|
    .st (.act none (.als 8 none 2)) <|
    .st (.act none (.pget (some 9) (some 8) 2 2 none)) <|
    .st (.act none (.px (some 10) (.ia 3 (.v 9) (.c (.int .i64 0))))) <|
    .st (.act none (.ld (some 11) (.v 10) (some 3))) <|
    .st (.act none (.px (some 12) (.mv (.v 1)))) <|
    .st (.act none (.ex (some 13) (.call fn_spec_l1Eval [.v 11, .v 12]))) K111_24) K111_23
@[simp] def W111_25 := @C.wpe _ _ K111_25.eq_1
def K111_26 : C := .seq (.pl <| .st (.ext 8 2) <|
    .st (.act none (.als 8 none 2)) <|
    .st (.act none (.pget (some 9) (some 8) 2 1 none)) <|
    .st (.act none (.px (some 3) (.mv (.v 9)))) .done) (.ret)
@[simp] def W111_26 := @C.wpe _ _ K111_26.eq_1
def K111_27 : C := .seq (.pl <| .st (.ext 8 5) <|
    .st (.act none (.px (some 8) (.mv (.v 1)))) <|
    .st (.act none (.als 9 none 2)) <|
    .st (.act none (.pget (some 10) (some 9) 2 1 none)) <|
    .st (.act none (.px (some 11) (.ia 1 (.v 8) (.v 10)))) <|
    .st (.act none (.ld (some 12) (.v 11) none)) <|
    .st (.act none (.px (some 3) (.mv (.v 12)))) .done) (.ret)
@[simp] def W111_27 := @C.wpe _ _ K111_27.eq_1
def K111_28 : Pl := .st (.act none (.px (some 3) (.mv (.v 15)))) .done
@[simp] def W111_28 := @Pl.wpe _ _ K111_28.eq_1
def K111_29 : Pl := .st (.act none (.px (some 14) (.bin .eql (.v 13) (.c (.int .i64 0))))) <|
    .st (.act none (.ex (some 15) (.call fn_spec_l1Bool [.v 14]))) K111_28
@[simp] def W111_29 := @Pl.wpe _ _ K111_29.eq_1
def K111_30 : C := .seq (.pl <| .st (.ext 8 8) <|
    .st (.act none (.als 8 none 2)) <|
    .st (.act none (.pget (some 9) (some 8) 2 2 none)) <|
    .st (.act none (.px (some 10) (.ia 3 (.v 9) (.c (.int .i64 0))))) <|
    .st (.act none (.ld (some 11) (.v 10) (some 3))) <|
    .st (.act none (.px (some 12) (.mv (.v 1)))) <|
    .st (.act none (.ex (some 13) (.call fn_spec_l1Eval [.v 11, .v 12]))) K111_29) (.ret)
@[simp] def W111_30 := @C.wpe _ _ K111_30.eq_1
def K111_31 : C := .cond 8 (.v 9) K111_30 (.skip)
@[simp] def W111_31 := @C.wpe _ _ K111_31.eq_1
def K111_32 : C := .seq (.pl <| .st (.ext 8 2) <|
    .st (.act none (.px (some 8) (.bin .eql (.v 6) (.c (.int .i64 3))))) <|
    .st (.act none (.px (some 9) (.mv (.v 8)))) .done) K111_31
@[simp] def W111_32 := @C.wpe _ _ K111_32.eq_1
def K111_33 : C := .cond 8 (.v 9) K111_27 K111_32
@[simp] def W111_33 := @C.wpe _ _ K111_33.eq_1
def K111_34 : C := .seq (.pl <| .st (.ext 8 2) <|
    .st (.act none (.px (some 8) (.bin .eql (.v 6) (.c (.int .i64 2))))) <|
    .st (.act none (.px (some 9) (.mv (.v 8)))) .done) K111_33
@[simp] def W111_34 := @C.wpe _ _ K111_34.eq_1
def K111_35 : C := .cond 8 (.v 9) K111_26 K111_34
@[simp] def W111_35 := @C.wpe _ _ K111_35.eq_1
def K111_36 : C := .block 0 (.seq (.pl <| .st (.ext 8 2) <|
    .st (.act none (.px (some 8) (.bin .eql (.v 6) (.c (.int .i64 1))))) <|
    .st (.act none (.px (some 9) (.mv (.v 8)))) .done) K111_35)
@[simp] def W111_36 := @C.wpe _ _ K111_36.eq_1
def K111_37 : C := .seq (.seq (.pl <| .st (.ext 8 1) <|
    .st (.act none (.als 8 none 2)) <|
    .st (.act none (.pget (some 6) (some 8) 2 0 none)) .done) K111_36) K111_25
@[simp] def W111_37 := @C.wpe _ _ K111_37.eq_1
def B_spec_l1Eval : C := .seq (.pl <| .st (.ext 8 0) <|
    .st (.act none (.pnew 2 (.v 0) [])) <|
    .st (.act none (.px (some 3) (.mv (.c (.int .i64 0))))) .done) K111_37
@[simp] def WB_spec_l1Eval := @C.wpe _ _ B_spec_l1Eval.eq_1
def R_spec_l1Eval : FIR := ⟨B_spec_l1Eval, 8, [(3, none)]⟩
theorem IR_spec_l1Eval : cfun Try.prog H_spec_l1Eval Try.f111 = some R_spec_l1Eval := by kernel_rfl
theorem EN_spec_l1Eval {args : List Value} {h : Heap} {k : Value → Heap → Prop} (hargs : args.length = 2) (hw : B_spec_l1Eval.wp Try.prog (retQ [(3, none)] k) (env0 args 8) h) : CallE Try.prog fn_spec_l1Eval args h k := enter Try.func111 rfl IR_spec_l1Eval hargs hw

def H_spec_l3Apply : Hint := ⟨[(0, false), (1, false), (2, false), (3, true), (4, true), (5, true), (6, true), (7, true)], []⟩
def K81_1 : C := .seq (.pl <| .st (.ext 8 1) <|
    .st (.act none (.pget (some 8) none 7 0 (some 2))) <|
    .st (.act none (.pset none 6 0 2 (.v 8))) .done) (.ret)
@[simp] def W81_1 := @C.wpe _ _ K81_1.eq_1
def K81_2 : Pl := .st (.act none (.pset none 7 0 2 (.v 22))) .done
@[simp] def W81_2 := @Pl.wpe _ _ K81_2.eq_1
def K81_3 : C := .pl <| .st (.ext 8 15) <|
    .st (.act none (.pget (some 8) none 7 0 (some 2))) <|
    .st (.act none (.als 9 none 5)) <|
    .st (.act none (.pget (some 10) (some 9) 5 2 none)) <|
    .st (.act none (.als 11 none 3)) <|
    .st (.act none (.pget (some 12) (some 11) 3 1 none)) <|
    .st (.act none (.als 13 none 5)) <|
    .st (.act none (.pget (some 14) (some 13) 5 2 none)) <|
    .st (.act none (.px (some 15) (.ia 2 (.v 12) (.v 14)))) <|
    .st (.act none (.px (some 16) (.fa 1 (.v 15)))) <|
    .st (.act none (.ld (some 17) (.v 16) none)) <|
    .st (.act none (.als 18 none 5)) <|
    .st (.act none (.pget (some 19) (some 18) 5 3 none)) <|
    .st (.act none (.px (some 20) (.ia 10 (.v 17) (.v 19)))) <|
    .st (.act none (.ld (some 21) (.v 20) (some 10))) <|
    .st (.act none (.ex (some 22) (.call fn_spec_l3Take [.v 8, .v 10, .v 21]))) K81_2
@[simp] def W81_3 := @C.wpe _ _ K81_3.eq_1
def K81_4 : C := .cond 8 (.v 10) K81_3 (.skip)
@[simp] def W81_4 := @C.wpe _ _ K81_4.eq_1
def K81_5 : C := .seq (.seq (.pl <| .st (.ext 8 3) <|
    .st (.act none (.als 8 none 5)) <|
    .st (.act none (.pget (some 9) (some 8) 5 2 none)) <|
    .st (.act none (.px (some 10) (.bin .geq (.v 9) (.c (.int .i64 0))))) .done) K81_4) K81_1
@[simp] def W81_5 := @C.wpe _ _ K81_5.eq_1
def K81_6 : Pl := .st (.act none (.pset none 7 0 2 (.v 22))) .done
@[simp] def W81_6 := @Pl.wpe _ _ K81_6.eq_1
def K81_7 : C := .seq (.pl <| .st (.ext 8 15) <|
    .st (.act none (.pget (some 8) none 7 0 (some 2))) <|
    .st (.act none (.als 9 none 5)) <|
    .st (.act none (.pget (some 10) (some 9) 5 0 none)) <|
    .st (.act none (.als 11 none 3)) <|
    .st (.act none (.pget (some 12) (some 11) 3 1 none)) <|
    .st (.act none (.als 13 none 5)) <|
    .st (.act none (.pget (some 14) (some 13) 5 0 none)) <|
    .st (.act none (.px (some 15) (.ia 2 (.v 12) (.v 14)))) <|
    .st (.act none (.px (some 16) (.fa 1 (.v 15)))) <|
    .st (.act none (.ld (some 17) (.v 16) none)) <|
    .st (.act none (.als 18 none 5)) <|
    .st (.act none (.pget (some 19) (some 18) 5 1 none)) <|
    .st (.act none (.px (some 20) (.ia 10 (.v 17) (.v 19)))) <|
    .st (.act none (.ld (some 21) (.v 20) (some 10))) <|
    .st (.act none (.ex (some 22) (.call fn_spec_l3Take [.v 8, .v 10, .v 21]))) K81_6) K81_5
@[simp] def W81_7 := @C.wpe _ _ K81_7.eq_1
def K81_8 : Pl := .st (.act none (.px (some 16) (.build [.slice none 0 0, .slice none 0 0] [(0, 1, .v 11), (1, 1, .v 15)]))) <|
    .st (.act none (.pset none 7 0 2 (.v 16))) .done
@[simp] def W81_8 := @Pl.wpe _ _ K81_8.eq_1
def K81_9 : Pl := .st (.act none (.ex (some 15) (.app 8 1 [.int .i64 0] (.p 0 12) (.o (.v 14))))) K81_8
@[simp] def W81_9 := @Pl.wpe _ _ K81_9.eq_1
def K81_10 : C := .seq (.pl <| .st (.ext 8 9) <|
    .st (.act none (.psl 8 [] [])) <|
    .st (.act none (.als 9 none 4)) <|
    .st (.act none (.pget (some 10) (some 9) 4 0 none)) <|
    .st (.act none (.psl 12 [] [])) <|
    .st (.act none (.als 13 none 4)) <|
    .st (.act none (.pget (some 14) (some 13) 4 1 none)) <|
    .st (.act none (.pnew 7 (.c (.agg #[.slice none 0 0, .slice none 0 0])) [])) <|
    .st (.act none (.ex (some 11) (.app 8 1 [.int .i64 0] (.p 0 8) (.o (.v 10))))) K81_9) K81_7
@[simp] def W81_10 := @C.wpe _ _ K81_10.eq_1
def B_spec_l3Apply : C := .seq (.pl <| .st (.ext 8 0) <|
    .st (.act none (.pnew 3 (.v 0) [])) <|
    .st (.act none (.pnew 4 (.v 1) [])) <|
    .st (.act none (.pnew 5 (.v 2) [])) <|
    .st (.act none (.pnew 6 (.c (.agg #[.slice none 0 0, .slice none 0 0])) [])) .done) K81_10
@[simp] def WB_spec_l3Apply := @C.wpe _ _ B_spec_l3Apply.eq_1
def R_spec_l3Apply : FIR := ⟨B_spec_l3Apply, 8, [(6, some (some 2))]⟩
theorem IR_spec_l3Apply : cfun Try.prog H_spec_l3Apply Try.f81 = some R_spec_l3Apply := by kernel_rfl
theorem EN_spec_l3Apply {args : List Value} {h : Heap} {k : Value → Heap → Prop} (hargs : args.length = 3) (hw : B_spec_l3Apply.wp Try.prog (retQ [(6, some (some 2))] k) (env0 args 8) h) : CallE Try.prog fn_spec_l3Apply args h k := enter Try.func81 rfl IR_spec_l3Apply hargs hw

def H_spec_l3Partners : Hint := ⟨[(0, false), (1, false), (2, false), (3, false), (4, true), (5, true), (8, false), (9, false), (10, false), (11, false), (12, false)], [[0, 1, 6, 10], [0, 1, 6]]⟩
def K72_1 : C := .seq (.pl <| .st (.ext 11 1) <|
    .st (.act none (.px (some 11) (.mv (.v 7)))) <|
    .st (.act none (.px (some 6) (.mv (.v 11)))) .done) (.ret)
@[simp] def W72_1 := @C.wpe _ _ K72_1.eq_1
def K72_2 : C := .pl <| .st (.ext 11 2) <|
    .st (.act none (.px (some 11) (.mv (.v 9)))) <|
    .st (.act none (.px (some 12) (.bin .add (.v 11) (.c (.int .i64 1))))) <|
    .st (.act none (.px (some 9) (.mv (.v 12)))) .done
@[simp] def W72_2 := @C.wpe _ _ K72_2.eq_1
def K72_3 : C := .pl <| .st (.ext 11 2) <|
    .st (.act none (.px (some 11) (.mv (.v 10)))) <|
    .st (.act none (.px (some 12) (.bin .add (.v 11) (.c (.int .i64 1))))) <|
    .st (.act none (.px (some 10) (.mv (.v 12)))) .done
@[simp] def W72_3 := @C.wpe _ _ K72_3.eq_1
def K72_4 : Pl := .st (.act none (.px (some 7) (.mv (.v 18)))) .done
@[simp] def W72_4 := @Pl.wpe _ _ K72_4.eq_1
def K72_5 : C := .pl <| .st (.ext 11 8) <|
    .st (.act none (.px (some 11) (.mv (.v 7)))) <|
    .st (.act none (.px (some 12) (.mv (.v 2)))) <|
    .st (.act none (.px (some 13) (.mv (.v 3)))) <|
    .st (.act none (.px (some 14) (.mv (.v 9)))) <|
    .st (.act none (.px (some 15) (.mv (.v 10)))) <|
    .st (.act none (.px (some 16) (.build [.int .i64 0, .int .i64 0, .int .i64 0, .int .i64 0] [(0, 1, .v 12), (1, 1, .v 13), (2, 1, .v 14), (3, 1, .v 15)]))) <|
    .st (.act none (.psl 17 [.int .i64 0, .int .i64 0, .int .i64 0, .int .i64 0] [(0, 4, .v 16)])) <|
    .st (.act none (.ex (some 18) (.app 32 4 [.int .i64 0, .int .i64 0, .int .i64 0, .int .i64 0] (.o (.v 11)) (.p 1 17)))) K72_4
@[simp] def W72_5 := @C.wpe _ _ K72_5.eq_1
def K72_6 : C := .cond 11 (.v 35) K72_5 (.skip)
@[simp] def W72_6 := @C.wpe _ _ K72_6.eq_1
def K72_7 : Pl := .st (.act none (.px (some 35) (.pick (.v 29) (.v 34) (.c (.bool false))))) .done
@[simp] def W72_7 := @Pl.wpe _ _ K72_7.eq_1
def K72_8 : C := .seq (.block 3 (.seq (.pl <| .st (.ext 11 25) <|
    .st (.act none (.px (some 11) (.mv (.v 9)))) <|
    .st (.act none (.px (some 12) (.mv (.v 2)))) <|
    .st (.act none (.px (some 13) (.bin .neq (.v 11) (.v 12)))) <|
    .st (.act none (.px (some 14) (.mv (.v 13)))) <|
    .st (.act (some (.v 14, true)) (.als 15 none 4)) <|
    .st (.act (some (.v 14, true)) (.pget (some 16) (some 15) 4 1 none)) <|
    .st (.act (some (.v 14, true)) (.px (some 17) (.mv (.v 9)))) <|
    .st (.act (some (.v 14, true)) (.px (some 18) (.ia 2 (.v 16) (.v 17)))) <|
    .st (.act (some (.v 14, true)) (.px (some 19) (.fa 1 (.v 18)))) <|
    .st (.act (some (.v 14, true)) (.ld (some 20) (.v 19) none)) <|
    .st (.act (some (.v 14, true)) (.px (some 21) (.mv (.v 10)))) <|
    .st (.act (some (.v 14, true)) (.px (some 22) (.ia 10 (.v 20) (.v 21)))) <|
    .st (.act (some (.v 14, true)) (.px (some 23) (.fa 9 (.v 22)))) <|
    .st (.act (some (.v 14, true)) (.ld (some 24) (.v 23) none)) <|
    .st (.act (some (.v 14, true)) (.px (some 25) (.mv (.v 8)))) <|
    .st (.act (some (.v 14, true)) (.px (some 26) (.un .neg (.v 25)))) <|
    .st (.act (some (.v 14, true)) (.px (some 27) (.bin .eql (.v 24) (.v 26)))) <|
    .st (.act none (.px (some 28) (.pick (.v 14) (.v 27) (.c (.bool false))))) <|
    .st (.act none (.px (some 29) (.mv (.v 28)))) <|
    .st (.act (some (.v 29, true)) (.pget (some 30) none 4 0 (some 2))) <|
    .st (.act (some (.v 29, true)) (.pget (some 31) none 5 0 (some 2))) <|
    .st (.act (some (.v 29, true)) (.px (some 32) (.mv (.v 9)))) <|
    .st (.act (some (.v 29, true)) (.px (some 33) (.mv (.v 10)))) <|
    .st (.act (some (.v 29, true)) (.ex (some 34) (.call fn_spec_l3Ready [.v 30, .v 31, .v 32, .v 33]))) K72_7) K72_6)) K72_3
@[simp] def W72_8 := @C.wpe _ _ K72_8.eq_1
def K72_9 : C := .cond 11 (.v 19) (.skip) (.exit 2)
@[simp] def W72_9 := @C.wpe _ _ K72_9.eq_1
def K72_10 : C := .seq (.seq (.pl <| .st (.ext 11 9) <|
    .st (.act none (.px (some 11) (.mv (.v 10)))) <|
    .st (.act none (.als 12 none 4)) <|
    .st (.act none (.pget (some 13) (some 12) 4 1 none)) <|
    .st (.act none (.px (some 14) (.mv (.v 9)))) <|
    .st (.act none (.px (some 15) (.ia 2 (.v 13) (.v 14)))) <|
    .st (.act none (.px (some 16) (.fa 1 (.v 15)))) <|
    .st (.act none (.ld (some 17) (.v 16) none)) <|
    .st (.act none (.px (some 18) (.lenV (.v 17)))) <|
    .st (.act none (.px (some 19) (.bin .lss (.v 11) (.v 18)))) .done) K72_9) K72_8
@[simp] def W72_10 := @C.wpe _ _ K72_10.eq_1
def K72_11 : C := .block 2 (.loop 11 [0, 1, 6] K72_10)
@[simp] def W72_11 := @C.wpe _ _ K72_11.eq_1
def K72_12 : C := .seq (.block 1 (.seq (.pl <| .st (.ext 11 0) <|
    .st (.act none (.px (some 10) (.mv (.c (.int .i64 0))))) .done) K72_11)) K72_2
@[simp] def W72_12 := @C.wpe _ _ K72_12.eq_1
def K72_13 : C := .cond 11 (.v 15) (.skip) (.exit 0)
@[simp] def W72_13 := @C.wpe _ _ K72_13.eq_1
def K72_14 : C := .seq (.seq (.pl <| .st (.ext 11 5) <|
    .st (.act none (.px (some 11) (.mv (.v 9)))) <|
    .st (.act none (.als 12 none 4)) <|
    .st (.act none (.pget (some 13) (some 12) 4 1 none)) <|
    .st (.act none (.px (some 14) (.lenV (.v 13)))) <|
    .st (.act none (.px (some 15) (.bin .lss (.v 11) (.v 14)))) .done) K72_13) K72_12
@[simp] def W72_14 := @C.wpe _ _ K72_14.eq_1
def K72_15 : C := .block 0 (.loop 11 [0, 1, 6, 10] K72_14)
@[simp] def W72_15 := @C.wpe _ _ K72_15.eq_1
def K72_16 : C := .seq (.seq (.pl <| .st (.ext 11 0) <|
    .st (.act none (.px (some 9) (.mv (.c (.int .i64 0))))) .done) K72_15) K72_1
@[simp] def W72_16 := @C.wpe _ _ K72_16.eq_1
def K72_17 : C := .seq (.pl <| .st (.ext 11 10) <|
    .st (.act none (.als 11 none 4)) <|
    .st (.act none (.pget (some 12) (some 11) 4 1 none)) <|
    .st (.act none (.px (some 13) (.mv (.v 2)))) <|
    .st (.act none (.px (some 14) (.ia 2 (.v 12) (.v 13)))) <|
    .st (.act none (.px (some 15) (.fa 1 (.v 14)))) <|
    .st (.act none (.ld (some 16) (.v 15) none)) <|
    .st (.act none (.px (some 17) (.mv (.v 3)))) <|
    .st (.act none (.px (some 18) (.ia 10 (.v 16) (.v 17)))) <|
    .st (.act none (.px (some 19) (.fa 9 (.v 18)))) <|
    .st (.act none (.ld (some 20) (.v 19) none)) <|
    .st (.act none (.px (some 8) (.mv (.v 20)))) .done) K72_16
@[simp] def W72_17 := @C.wpe _ _ K72_17.eq_1
def K72_18 : Pl := .st (.act none (.px (some 7) (.mv (.v 11)))) .done
@[simp] def W72_18 := @Pl.wpe _ _ K72_18.eq_1
def K72_19 : C := .seq (.pl <| .st (.ext 11 1) <|
    .st (.act none (.ex (some 11) (.bls 4 0 [.int .i64 0, .int .i64 0, .int .i64 0, .int .i64 0] []))) K72_18) K72_17
@[simp] def W72_19 := @C.wpe _ _ K72_19.eq_1
def B_spec_l3Partners : C := .seq (.pl <| .st (.ext 11 0) <|
    .st (.act none (.pnew 4 (.v 0) [])) <|
    .st (.act none (.pnew 5 (.v 1) [])) <|
    .st (.act none (.px (some 6) (.mv (.c (.slice none 0 0))))) .done) K72_19
@[simp] def WB_spec_l3Partners := @C.wpe _ _ B_spec_l3Partners.eq_1
def R_spec_l3Partners : FIR := ⟨B_spec_l3Partners, 11, [(6, none)]⟩
theorem IR_spec_l3Partners : cfun Try.prog H_spec_l3Partners Try.f72 = some R_spec_l3Partners := by kernel_rfl
theorem EN_spec_l3Partners {args : List Value} {h : Heap} {k : Value → Heap → Prop} (hargs : args.length = 4) (hw : B_spec_l3Partners.wp Try.prog (retQ [(6, none)] k) (env0 args 11) h) : CallE Try.prog fn_spec_l3Partners args h k := enter Try.func72 rfl IR_spec_l3Partners hargs hw

def H_spec_l3Ready : Hint := ⟨[(0, false), (1, false), (2, false), (3, false), (4, true), (5, true), (8, false), (9, true)], []⟩
def K71_1 : Pl := .st (.act (some (.v 16, true)) (.px (some 22) (.bin .neq (.v 21) (.c (.int .i64 0))))) <|
    .st (.act none (.px (some 23) (.pick (.v 16) (.v 22) (.c (.bool false))))) <|
    .st (.act none (.px (some 6) (.mv (.v 23)))) .done
@[simp] def W71_1 := @Pl.wpe _ _ K71_1.eq_1
def K71_2 : C := .seq (.pl <| .st (.ext 8 16) <|
    .st (.act none (.als 8 none 7)) <|
    .st (.act none (.pget (some 9) (some 8) 7 0 none)) <|
    .st (.act none (.als 10 none 5)) <|
    .st (.act none (.pget (some 11) (some 10) 5 0 none)) <|
    .st (.act none (.px (some 12) (.mv (.v 2)))) <|
    .st (.act none (.px (some 13) (.ia 1 (.v 11) (.v 12)))) <|
    .st (.act none (.ld (some 14) (.v 13) none)) <|
    .st (.act none (.px (some 15) (.bin .eql (.v 9) (.v 14)))) <|
    .st (.act none (.px (some 16) (.mv (.v 15)))) <|
    .st (.act (some (.v 16, true)) (.als 17 none 7)) <|
    .st (.act (some (.v 16, true)) (.pget (some 18) (some 17) 7 2 (some 3))) <|
    .st (.act (some (.v 16, true)) (.als 19 none 5)) <|
    .st (.act (some (.v 16, true)) (.pget (some 20) (some 19) 5 1 none)) <|
    .st (.act (some (.v 16, true)) (.ex (some 21) (.call fn_spec_l1Eval [.v 18, .v 20]))) K71_1) (.ret)
@[simp] def W71_2 := @C.wpe _ _ K71_2.eq_1
def K71_3 : C := .seq (.pl <| .st (.ext 8 9) <|
    .st (.act none (.als 8 none 4)) <|
    .st (.act none (.pget (some 9) (some 8) 4 1 none)) <|
    .st (.act none (.px (some 10) (.mv (.v 2)))) <|
    .st (.act none (.px (some 11) (.ia 2 (.v 9) (.v 10)))) <|
    .st (.act none (.px (some 12) (.fa 1 (.v 11)))) <|
    .st (.act none (.ld (some 13) (.v 12) none)) <|
    .st (.act none (.px (some 14) (.mv (.v 3)))) <|
    .st (.act none (.px (some 15) (.ia 10 (.v 13) (.v 14)))) <|
    .st (.act none (.ld (some 16) (.v 15) (some 10))) <|
    .st (.act none (.pnew 7 (.c (.agg #[.int .i64 0, .int .i64 0, .int .i64 0, .int .i64 0, .slice none 0 0, .int .i64 0, .int .i64 0, .int .i64 0, .slice none 0 0, .int .i64 0])) [])) <|
    .st (.act none (.pset none 7 0 10 (.v 16))) .done) K71_2
@[simp] def W71_3 := @C.wpe _ _ K71_3.eq_1
def B_spec_l3Ready : C := .seq (.pl <| .st (.ext 8 0) <|
    .st (.act none (.pnew 4 (.v 0) [])) <|
    .st (.act none (.pnew 5 (.v 1) [])) <|
    .st (.act none (.px (some 6) (.mv (.c (.bool false))))) .done) K71_3
@[simp] def WB_spec_l3Ready := @C.wpe _ _ B_spec_l3Ready.eq_1
def R_spec_l3Ready : FIR := ⟨B_spec_l3Ready, 8, [(6, none)]⟩
theorem IR_spec_l3Ready : cfun Try.prog H_spec_l3Ready Try.f71 = some R_spec_l3Ready := by kernel_rfl
theorem EN_spec_l3Ready {args : List Value} {h : Heap} {k : Value → Heap → Prop} (hargs : args.length = 4) (hw : B_spec_l3Ready.wp Try.prog (retQ [(6, none)] k) (env0 args 8) h) : CallE Try.prog fn_spec_l3Ready args h k := enter Try.func71 rfl IR_spec_l3Ready hargs hw

def H_spec_l3Steps : Hint := ⟨[(0, false), (1, false), (2, true), (3, true), (4, false), (5, false), (6, false), (7, false), (8, false)], [[0, 1, 4, 7, 8], [0, 1, 4, 8]]⟩
def K34_1 : C := .seq (.pl <| .st (.ext 9 1) <|
    .st (.act none (.px (some 9) (.mv (.v 5)))) <|
    .st (.act none (.px (some 4) (.mv (.v 9)))) .done) (.ret)
@[simp] def W34_1 := @C.wpe _ _ K34_1.eq_1
def K34_2 : C := .pl <| .st (.ext 9 2) <|
    .st (.act none (.px (some 9) (.mv (.v 6)))) <|
    .st (.act none (.px (some 10) (.bin .add (.v 9) (.c (.int .i64 1))))) <|
    .st (.act none (.px (some 6) (.mv (.v 10)))) .done
@[simp] def W34_2 := @C.wpe _ _ K34_2.eq_1
def K34_3 : C := .pl <| .st (.ext 9 2) <|
    .st (.act none (.px (some 9) (.mv (.v 7)))) <|
    .st (.act none (.px (some 10) (.bin .add (.v 9) (.c (.int .i64 1))))) <|
    .st (.act none (.px (some 7) (.mv (.v 10)))) .done
@[simp] def W34_3 := @C.wpe _ _ K34_3.eq_1
def K34_4 : Pl := .st (.act none (.px (some 5) (.mv (.v 14)))) .done
@[simp] def W34_4 := @Pl.wpe _ _ K34_4.eq_1
def K34_5 : C := .pl <| .st (.ext 9 6) <|
    .st (.act none (.px (some 9) (.mv (.v 5)))) <|
    .st (.act none (.px (some 10) (.mv (.v 6)))) <|
    .st (.act none (.px (some 11) (.mv (.v 7)))) <|
    .st (.act none (.px (some 12) (.build [.int .i64 0, .int .i64 0, .int .i64 0, .int .i64 0] [(0, 1, .v 10), (1, 1, .v 11), (2, 1, .c (.int .i64 (-1))), (3, 1, .c (.int .i64 (-1)))]))) <|
    .st (.act none (.psl 13 [.int .i64 0, .int .i64 0, .int .i64 0, .int .i64 0] [(0, 4, .v 12)])) <|
    .st (.act none (.ex (some 14) (.app 32 4 [.int .i64 0, .int .i64 0, .int .i64 0, .int .i64 0] (.o (.v 9)) (.p 1 13)))) K34_4
@[simp] def W34_5 := @C.wpe _ _ K34_5.eq_1
def K34_6 : Pl := .st (.act none (.px (some 5) (.mv (.v 15)))) .done
@[simp] def W34_6 := @Pl.wpe _ _ K34_6.eq_1
def K34_7 : Pl := .st (.act none (.ex (some 15) (.app 32 4 [.int .i64 0, .int .i64 0, .int .i64 0, .int .i64 0] (.o (.v 9)) (.o (.v 14))))) K34_6
@[simp] def W34_7 := @Pl.wpe _ _ K34_7.eq_1
def K34_8 : C := .pl <| .st (.ext 9 7) <|
    .st (.act none (.px (some 9) (.mv (.v 5)))) <|
    .st (.act none (.pget (some 10) none 2 0 (some 2))) <|
    .st (.act none (.pget (some 11) none 3 0 (some 2))) <|
    .st (.act none (.px (some 12) (.mv (.v 6)))) <|
    .st (.act none (.px (some 13) (.mv (.v 7)))) <|
    .st (.act none (.ex (some 14) (.call fn_spec_l3Partners [.v 10, .v 11, .v 12, .v 13]))) K34_7
@[simp] def W34_8 := @C.wpe _ _ K34_8.eq_1
def K34_9 : C := .cond 9 (.v 10) K34_5 K34_8
@[simp] def W34_9 := @C.wpe _ _ K34_9.eq_1
def K34_10 : C := .seq (.pl <| .st (.ext 9 2) <|
    .st (.act none (.px (some 9) (.mv (.v 8)))) <|
    .st (.act none (.px (some 10) (.bin .eql (.v 9) (.c (.int .i64 0))))) .done) K34_9
@[simp] def W34_10 := @C.wpe _ _ K34_10.eq_1
def K34_11 : C := .cond 9 (.v 18) (.exit 3) (.skip)
@[simp] def W34_11 := @C.wpe _ _ K34_11.eq_1
def K34_12 : Pl := .st (.act (some (.v 11, false)) (.px (some 17) (.un .not (.v 16)))) <|
    .st (.act none (.px (some 18) (.pick (.v 11) (.c (.bool true)) (.v 17)))) .done
@[simp] def W34_12 := @Pl.wpe _ _ K34_12.eq_1
def K34_13 : C := .seq (.seq (.pl <| .st (.ext 9 10) <|
    .st (.act none (.px (some 9) (.mv (.v 8)))) <|
    .st (.act none (.px (some 10) (.bin .lss (.v 9) (.c (.int .i64 0))))) <|
    .st (.act none (.px (some 11) (.mv (.v 10)))) <|
    .st (.act (some (.v 11, false)) (.pget (some 12) none 2 0 (some 2))) <|
    .st (.act (some (.v 11, false)) (.pget (some 13) none 3 0 (some 2))) <|
    .st (.act (some (.v 11, false)) (.px (some 14) (.mv (.v 6)))) <|
    .st (.act (some (.v 11, false)) (.px (some 15) (.mv (.v 7)))) <|
    .st (.act (some (.v 11, false)) (.ex (some 16) (.call fn_spec_l3Ready [.v 12, .v 13, .v 14, .v 15]))) K34_12) K34_11) K34_10
@[simp] def W34_13 := @C.wpe _ _ K34_13.eq_1
def K34_14 : C := .seq (.block 3 (.seq (.pl <| .st (.ext 9 10) <|
    .st (.act none (.als 9 none 2)) <|
    .st (.act none (.pget (some 10) (some 9) 2 1 none)) <|
    .st (.act none (.px (some 11) (.mv (.v 6)))) <|
    .st (.act none (.px (some 12) (.ia 2 (.v 10) (.v 11)))) <|
    .st (.act none (.px (some 13) (.fa 1 (.v 12)))) <|
    .st (.act none (.ld (some 14) (.v 13) none)) <|
    .st (.act none (.px (some 15) (.mv (.v 7)))) <|
    .st (.act none (.px (some 16) (.ia 10 (.v 14) (.v 15)))) <|
    .st (.act none (.px (some 17) (.fa 9 (.v 16)))) <|
    .st (.act none (.ld (some 18) (.v 17) none)) <|
    .st (.act none (.px (some 8) (.mv (.v 18)))) .done) K34_13)) K34_3
@[simp] def W34_14 := @C.wpe _ _ K34_14.eq_1
def K34_15 : C := .cond 9 (.v 17) (.skip) (.exit 2)
@[simp] def W34_15 := @C.wpe _ _ K34_15.eq_1
def K34_16 : C := .seq (.seq (.pl <| .st (.ext 9 9) <|
    .st (.act none (.px (some 9) (.mv (.v 7)))) <|
    .st (.act none (.als 10 none 2)) <|
    .st (.act none (.pget (some 11) (some 10) 2 1 none)) <|
    .st (.act none (.px (some 12) (.mv (.v 6)))) <|
    .st (.act none (.px (some 13) (.ia 2 (.v 11) (.v 12)))) <|
    .st (.act none (.px (some 14) (.fa 1 (.v 13)))) <|
    .st (.act none (.ld (some 15) (.v 14) none)) <|
    .st (.act none (.px (some 16) (.lenV (.v 15)))) <|
    .st (.act none (.px (some 17) (.bin .lss (.v 9) (.v 16)))) .done) K34_15) K34_14
@[simp] def W34_16 := @C.wpe _ _ K34_16.eq_1
def K34_17 : C := .block 2 (.loop 9 [0, 1, 4, 8] K34_16)
@[simp] def W34_17 := @C.wpe _ _ K34_17.eq_1
def K34_18 : C := .seq (.block 1 (.seq (.pl <| .st (.ext 9 0) <|
    .st (.act none (.px (some 7) (.mv (.c (.int .i64 0))))) .done) K34_17)) K34_2
@[simp] def W34_18 := @C.wpe _ _ K34_18.eq_1
def K34_19 : C := .cond 9 (.v 13) (.skip) (.exit 0)
@[simp] def W34_19 := @C.wpe _ _ K34_19.eq_1
def K34_20 : C := .seq (.seq (.pl <| .st (.ext 9 5) <|
    .st (.act none (.px (some 9) (.mv (.v 6)))) <|
    .st (.act none (.als 10 none 2)) <|
    .st (.act none (.pget (some 11) (some 10) 2 1 none)) <|
    .st (.act none (.px (some 12) (.lenV (.v 11)))) <|
    .st (.act none (.px (some 13) (.bin .lss (.v 9) (.v 12)))) .done) K34_19) K34_18
@[simp] def W34_20 := @C.wpe _ _ K34_20.eq_1
def K34_21 : C := .block 0 (.loop 9 [0, 1, 4, 7, 8] K34_20)
@[simp] def W34_21 := @C.wpe _ _ K34_21.eq_1
def K34_22 : C := .seq (.seq (.pl <| .st (.ext 9 0) <|
    .st (.act none (.px (some 6) (.mv (.c (.int .i64 0))))) .done) K34_21) K34_1
@[simp] def W34_22 := @C.wpe _ _ K34_22.eq_1
def K34_23 : Pl := .st (.act none (.px (some 5) (.mv (.v 9)))) .done
@[simp] def W34_23 := @Pl.wpe _ _ K34_23.eq_1
def K34_24 : C := .seq (.pl <| .st (.ext 9 1) <|
    .st (.act none (.ex (some 9) (.bls 4 0 [.int .i64 0, .int .i64 0, .int .i64 0, .int .i64 0] []))) K34_23) K34_22
@[simp] def W34_24 := @C.wpe _ _ K34_24.eq_1
def B_spec_l3Steps : C := .seq (.pl <| .st (.ext 9 0) <|
    .st (.act none (.pnew 2 (.v 0) [])) <|
    .st (.act none (.pnew 3 (.v 1) [])) <|
    .st (.act none (.px (some 4) (.mv (.c (.slice none 0 0))))) .done) K34_24
@[simp] def WB_spec_l3Steps := @C.wpe _ _ B_spec_l3Steps.eq_1
def R_spec_l3Steps : FIR := ⟨B_spec_l3Steps, 9, [(4, none)]⟩
theorem IR_spec_l3Steps : cfun Try.prog H_spec_l3Steps Try.f34 = some R_spec_l3Steps := by kernel_rfl
theorem EN_spec_l3Steps {args : List Value} {h : Heap} {k : Value → Heap → Prop} (hargs : args.length = 2) (hw : B_spec_l3Steps.wp Try.prog (retQ [(4, none)] k) (env0 args 9) h) : CallE Try.prog fn_spec_l3Steps args h k := enter Try.func34 rfl IR_spec_l3Steps hargs hw

def H_spec_l3Take : Hint := ⟨[(0, false), (1, false), (2, false), (3, true), (5, true), (6, true)], []⟩
def K116_1 : C := .seq (.pl <| .st (.ext 6 1) <|
    .st (.act none (.pget (some 6) none 3 0 (some 2))) <|
    .st (.act none (.pset none 5 0 2 (.v 6))) .done) (.ret)
@[simp] def W116_1 := @C.wpe _ _ K116_1.eq_1
def K116_2 : Pl := .st (.act none (.px (some 15) (.ia 1 (.v 7) (.v 9)))) <|
    .st (.act none (.ex none (.store 1 (.v 15) (.v 14)))) .done
@[simp] def W116_2 := @Pl.wpe _ _ K116_2.eq_1
def K116_3 : C := .pl <| .st (.ext 6 10) <|
    .st (.act none (.als 6 none 3)) <|
    .st (.act none (.pget (some 7) (some 6) 3 1 none)) <|
    .st (.act none (.als 8 none 4)) <|
    .st (.act none (.pget (some 9) (some 8) 4 5 none)) <|
    .st (.act none (.als 10 none 4)) <|
    .st (.act none (.pget (some 11) (some 10) 4 6 (some 3))) <|
    .st (.act none (.als 12 none 3)) <|
    .st (.act none (.pget (some 13) (some 12) 3 1 none)) <|
    .st (.act none (.ex (some 14) (.call fn_spec_l1Eval [.v 11, .v 13]))) K116_2
@[simp] def W116_3 := @C.wpe _ _ K116_3.eq_1
def K116_4 : C := .cond 6 (.v 8) K116_3 (.skip)
@[simp] def W116_4 := @C.wpe _ _ K116_4.eq_1
def K116_5 : C := .seq (.seq (.pl <| .st (.ext 6 3) <|
    .st (.act none (.als 6 none 4)) <|
    .st (.act none (.pget (some 7) (some 6) 4 5 none)) <|
    .st (.act none (.px (some 8) (.bin .geq (.v 7) (.c (.int .i64 0))))) .done) K116_4) K116_1
@[simp] def W116_5 := @C.wpe _ _ K116_5.eq_1
def K116_6 : C := .seq (.pl <| .st (.ext 6 6) <|
    .st (.act none (.als 6 none 3)) <|
    .st (.act none (.pget (some 7) (some 6) 3 0 none)) <|
    .st (.act none (.px (some 8) (.mv (.v 1)))) <|
    .st (.act none (.als 9 none 4)) <|
    .st (.act none (.pget (some 10) (some 9) 4 1 none)) <|
    .st (.act none (.px (some 11) (.ia 1 (.v 7) (.v 8)))) <|
    .st (.act none (.ex none (.store 1 (.v 11) (.v 10)))) .done) K116_5
@[simp] def W116_6 := @C.wpe _ _ K116_6.eq_1
def B_spec_l3Take : C := .seq (.pl <| .st (.ext 6 0) <|
    .st (.act none (.pnew 3 (.v 0) [])) <|
    .st (.act none (.pnew 4 (.v 2) [])) <|
    .st (.act none (.pnew 5 (.c (.agg #[.slice none 0 0, .slice none 0 0])) [])) .done) K116_6
@[simp] def WB_spec_l3Take := @C.wpe _ _ B_spec_l3Take.eq_1
def R_spec_l3Take : FIR := ⟨B_spec_l3Take, 6, [(5, some (some 2))]⟩
theorem IR_spec_l3Take : cfun Try.prog H_spec_l3Take Try.f116 = some R_spec_l3Take := by kernel_rfl
theorem EN_spec_l3Take {args : List Value} {h : Heap} {k : Value → Heap → Prop} (hargs : args.length = 3) (hw : B_spec_l3Take.wp Try.prog (retQ [(5, some (some 2))] k) (env0 args 6) h) : CallE Try.prog fn_spec_l3Take args h k := enter Try.func116 rfl IR_spec_l3Take hargs hw


end Go.Proofs.Ytonjglbachhdcaa

/-
  Bodies of functions in the small language, as a program printed them, and that each is what the translation gives.
-/
namespace Go.Proofs.Ytonjglbachhdcaa
open Go
set_option linter.all false
set_option linter.defProp false
set_option maxRecDepth 1000000

def H_spec_l1Count : Hint := ⟨[(0, false), (1, false), (2, true), (4, false), (5, false), (6, false)], [[0, 3]]⟩
def K135_1 : C := .seq (.pl <| .st (.ext 6 1) <|
    .st (.act none (.px (some 6) (.mv (.v 4)))) <|
    .st (.act none (.px (some 3) (.mv (.v 6)))) .done) (.ret)
@[simp] def W135_1 := @C.wpe _ _ K135_1.eq_1
def K135_2 : C := .pl <| .st (.ext 6 2) <|
    .st (.act none (.px (some 6) (.mv (.v 5)))) <|
    .st (.act none (.px (some 7) (.bin .add (.v 6) (.c (.int .i64 1))))) <|
    .st (.act none (.px (some 5) (.mv (.v 7)))) .done
@[simp] def W135_2 := @C.wpe _ _ K135_2.eq_1
def K135_3 : Pl := .st (.act none (.px (some 15) (.bin .add (.v 6) (.v 14)))) <|
    .st (.act none (.px (some 4) (.mv (.v 15)))) .done
@[simp] def W135_3 := @Pl.wpe _ _ K135_3.eq_1
def K135_4 : C := .seq (.block 1 (.pl <| .st (.ext 6 10) <|
    .st (.act none (.px (some 6) (.mv (.v 4)))) <|
    .st (.act none (.als 7 none 2)) <|
    .st (.act none (.pget (some 8) (some 7) 2 2 none)) <|
    .st (.act none (.px (some 9) (.mv (.v 5)))) <|
    .st (.act none (.px (some 10) (.ia 3 (.v 8) (.v 9)))) <|
    .st (.act none (.ld (some 11) (.v 10) (some 3))) <|
    .st (.act none (.px (some 12) (.mv (.v 1)))) <|
    .st (.act none (.px (some 13) (.bin .sub (.v 12) (.c (.int .i64 1))))) <|
    .st (.act none (.ex (some 14) (.call fn_spec_l1Count [.v 11, .v 13]))) K135_3)) K135_2
@[simp] def W135_4 := @C.wpe _ _ K135_4.eq_1
def K135_5 : C := .cond 6 (.v 14) (.skip) (.exit 0)
@[simp] def W135_5 := @C.wpe _ _ K135_5.eq_1
def K135_6 : C := .seq (.seq (.pl <| .st (.ext 6 9) <|
    .st (.act none (.px (some 6) (.mv (.v 5)))) <|
    .st (.act none (.als 7 none 2)) <|
    .st (.act none (.pget (some 8) (some 7) 2 2 none)) <|
    .st (.act none (.px (some 9) (.lenV (.v 8)))) <|
    .st (.act none (.px (some 10) (.bin .lss (.v 6) (.v 9)))) <|
    .st (.act none (.px (some 11) (.mv (.v 10)))) <|
    .st (.act (some (.v 11, true)) (.px (some 12) (.mv (.v 1)))) <|
    .st (.act (some (.v 11, true)) (.px (some 13) (.bin .gtr (.v 12) (.c (.int .i64 0))))) <|
    .st (.act none (.px (some 14) (.pick (.v 11) (.v 13) (.c (.bool false))))) .done) K135_5) K135_4
@[simp] def W135_6 := @C.wpe _ _ K135_6.eq_1
def K135_7 : C := .block 0 (.loop 6 [0, 3] K135_6)
@[simp] def W135_7 := @C.wpe _ _ K135_7.eq_1
def K135_8 : C := .seq (.seq (.pl <| .st (.ext 6 0) <|
    .st (.act none (.px (some 5) (.mv (.c (.int .i64 0))))) .done) K135_7) K135_1
@[simp] def W135_8 := @C.wpe _ _ K135_8.eq_1
def K135_9 : C := .seq (.pl <| .st (.ext 6 0) <|
    .st (.act none (.px (some 4) (.mv (.c (.int .i64 1))))) .done) K135_8
@[simp] def W135_9 := @C.wpe _ _ K135_9.eq_1
def B_spec_l1Count : C := .seq (.pl <| .st (.ext 6 0) <|
    .st (.act none (.pnew 2 (.v 0) [])) <|
    .st (.act none (.px (some 3) (.mv (.c (.int .i64 0))))) .done) K135_9
@[simp] def WB_spec_l1Count := @C.wpe _ _ B_spec_l1Count.eq_1
def R_spec_l1Count : FIR := ⟨B_spec_l1Count, 6, [(3, none)]⟩
theorem IR_spec_l1Count : cfun Try.prog H_spec_l1Count Try.f135 = some R_spec_l1Count := by kernel_rfl
theorem EN_spec_l1Count {args : List Value} {h : Heap} {k : Value → Heap → Prop} (hargs : args.length = 2) (hw : B_spec_l1Count.wp Try.prog (retQ [(3, none)] k) (env0 args 6) h) : CallE Try.prog fn_spec_l1Count args h k := enter Try.func135 rfl IR_spec_l1Count hargs hw

def H_spec_l1Expr : Hint := ⟨[(0, false), (2, true), (3, true)], []⟩
def K78_1 : Pl := .st (.act none (.px (some 5) (.build [.int .i64 0, .int .i64 0, .slice none 0 0] [(0, 1, .c (.int .i64 2)), (1, 1, .v 4)]))) <|
    .st (.act none (.pset none 1 0 3 (.v 5))) .done
@[simp] def W78_1 := @Pl.wpe _ _ K78_1.eq_1
def K78_2 : C := .seq (.pl <| .st (.ext 3 3) <|
    .st (.act none (.px (some 3) (.mv (.v 0)))) <|
    .st (.act none (.ex (some 4) (.call fn_spec_l16Rd_pick [.v 3, .c (.int .i64 3)]))) K78_1) (.ret)
@[simp] def W78_2 := @C.wpe _ _ K78_2.eq_1
def K78_3 : C := .seq (.pl <| .st (.ext 3 1) <|
    .st (.act none (.pget (some 3) none 2 0 (some 3))) <|
    .st (.act none (.pset none 1 0 3 (.v 3))) .done) (.ret)
@[simp] def W78_3 := @C.wpe _ _ K78_3.eq_1
def K78_4 : C := .cond 3 (.v 4) K78_3 (.skip)
@[simp] def W78_4 := @C.wpe _ _ K78_4.eq_1
def K78_5 : C := .seq (.seq (.pl <| .st (.ext 3 2) <|
    .st (.act none (.pget (some 3) none 2 0 (some 3))) <|
    .st (.act none (.ex (some 4) (.call fn_spec_ExprValid [.v 3]))) .done) K78_4) K78_2
@[simp] def W78_5 := @C.wpe _ _ K78_5.eq_1
def K78_6 : Pl := .st (.act none (.pnew 2 (.c (.agg #[.int .i64 0, .int .i64 0, .slice none 0 0])) [])) <|
    .st (.act none (.pset none 2 0 3 (.v 7))) .done
@[simp] def W78_6 := @Pl.wpe _ _ K78_6.eq_1
def K78_7 : Pl := .st (.act none (.ex (some 7) (.call fn_spec_l1Random [.v 3, .v 6]))) K78_6
@[simp] def W78_7 := @Pl.wpe _ _ K78_7.eq_1
def K78_8 : Pl := .st (.act none (.ex (some 6) (.call fn_spec_l16Rd_num [.v 4, .v 5]))) K78_7
@[simp] def W78_8 := @Pl.wpe _ _ K78_8.eq_1
def K78_9 : C := .seq (.pl <| .st (.ext 3 5) <|
    .st (.act none (.px (some 3) (.mv (.v 0)))) <|
    .st (.act none (.px (some 4) (.mv (.v 0)))) <|
    .st (.act none (.ex (some 5) (.bls 1 4 [.int .i64 0] [(0, 1, .c (.int .i64 3)), (1, 1, .c (.int .i64 2)), (2, 1, .c (.int .i64 3)), (3, 1, .c (.int .i64 4))]))) K78_8) K78_5
@[simp] def W78_9 := @C.wpe _ _ K78_9.eq_1
def B_spec_l1Expr : C := .seq (.pl <| .st (.ext 3 0) <|
    .st (.act none (.pnew 1 (.c (.agg #[.int .i64 0, .int .i64 0, .slice none 0 0])) [])) .done) K78_9
@[simp] def WB_spec_l1Expr := @C.wpe _ _ B_spec_l1Expr.eq_1
def R_spec_l1Expr : FIR := ⟨B_spec_l1Expr, 3, [(1, some (some 3))]⟩
theorem IR_spec_l1Expr : cfun Try.prog H_spec_l1Expr Try.f78 = some R_spec_l1Expr := by kernel_rfl
theorem EN_spec_l1Expr {args : List Value} {h : Heap} {k : Value → Heap → Prop} (hargs : args.length = 1) (hw : B_spec_l1Expr.wp Try.prog (retQ [(1, some (some 3))] k) (env0 args 3) h) : CallE Try.prog fn_spec_l1Expr args h k := enter Try.func78 rfl IR_spec_l1Expr hargs hw

def H_spec_l1Mutate : Hint := ⟨[(0, false), (1, false), (3, true), (4, true), (5, true), (10, false)], []⟩
def K77_1 : C := .seq (.pl <| .st (.ext 6 1) <|
    .st (.act none (.pget (some 6) none 4 0 (some 3))) <|
    .st (.act none (.pset none 3 0 3 (.v 6))) .done) (.ret)
@[simp] def W77_1 := @C.wpe _ _ K77_1.eq_1
def K77_2 : Pl := .st (.act none (.als 9 none 4)) <|
    .st (.act none (.pset (some 9) 4 0 1 (.v 8))) .done
@[simp] def W77_2 := @Pl.wpe _ _ K77_2.eq_1
def K77_3 : Pl := .st (.act none (.ex (some 8) (.call fn_spec_l16Rd_num [.v 6, .v 7]))) K77_2
@[simp] def W77_3 := @Pl.wpe _ _ K77_3.eq_1
def K77_4 : C := .pl <| .st (.ext 6 4) <|
    .st (.act none (.px (some 6) (.mv (.v 0)))) <|
    .st (.act none (.ex (some 7) (.bls 1 7 [.int .i64 0] [(0, 1, .c (.int .i64 0)), (1, 1, .c (.int .i64 10)), (2, 1, .c (.int .i64 (-1))), (3, 1, .c (.int .i64 1)), (4, 1, .c (.int .i64 2)), (5, 1, .c (.int .i64 3)), (6, 1, .c (.int .i64 4))]))) K77_3
@[simp] def W77_4 := @C.wpe _ _ K77_4.eq_1
def K77_5 : Pl := .st (.act none (.als 9 none 4)) <|
    .st (.act none (.pset (some 9) 4 1 1 (.v 8))) .done
@[simp] def W77_5 := @Pl.wpe _ _ K77_5.eq_1
def K77_6 : Pl := .st (.act none (.ex (some 8) (.call fn_spec_l16Rd_num [.v 6, .v 7]))) K77_5
@[simp] def W77_6 := @Pl.wpe _ _ K77_6.eq_1
def K77_7 : C := .pl <| .st (.ext 6 4) <|
    .st (.act none (.px (some 6) (.mv (.v 0)))) <|
    .st (.act none (.ex (some 7) (.bls 1 4 [.int .i64 0] [(0, 1, .c (.int .i64 (-1))), (1, 1, .c (.int .i64 4)), (2, 1, .c (.int .i64 3)), (3, 1, .c (.int .i64 9223372036854775807))]))) K77_6
@[simp] def W77_7 := @C.wpe _ _ K77_7.eq_1
def K77_8 : Pl := .st (.act none (.als 11 none 4)) <|
    .st (.act none (.pset (some 11) 4 2 1 (.v 10))) .done
@[simp] def W77_8 := @Pl.wpe _ _ K77_8.eq_1
def K77_9 : C := .pl <| .st (.ext 6 6) <|
    .st (.act none (.als 6 none 4)) <|
    .st (.act none (.pget (some 7) (some 6) 4 2 none)) <|
    .st (.act none (.px (some 8) (.build [.int .i64 0, .int .i64 0, .slice none 0 0] [(0, 1, .c (.int .i64 1))]))) <|
    .st (.act none (.psl 9 [.int .i64 0, .int .i64 0, .slice none 0 0] [(0, 3, .v 8)])) <|
    .st (.act none (.ex (some 10) (.app 40 3 [.int .i64 0, .int .i64 0, .slice none 0 0] (.o (.v 7)) (.p 1 9)))) K77_8
@[simp] def W77_9 := @C.wpe _ _ K77_9.eq_1
def K77_10 : C := .seq (.pl <| .st (.ext 6 1) <|
    .st (.act none (.px (some 6) (.build [.int .i64 0, .int .i64 0, .slice none 0 0] []))) <|
    .st (.act none (.pset none 3 0 3 (.v 6))) .done) (.ret)
@[simp] def W77_10 := @C.wpe _ _ K77_10.eq_1
def K77_11 : C := .cond 6 (.v 7) K77_10 (.skip)
@[simp] def W77_11 := @C.wpe _ _ K77_11.eq_1
def K77_12 : C := .seq (.pl <| .st (.ext 6 2) <|
    .st (.act none (.px (some 6) (.bin .eql (.v 5) (.c (.int .i64 3))))) <|
    .st (.act none (.px (some 7) (.mv (.v 6)))) .done) K77_11
@[simp] def W77_12 := @C.wpe _ _ K77_12.eq_1
def K77_13 : C := .cond 6 (.v 7) K77_9 K77_12
@[simp] def W77_13 := @C.wpe _ _ K77_13.eq_1
def K77_14 : C := .seq (.pl <| .st (.ext 6 2) <|
    .st (.act none (.px (some 6) (.bin .eql (.v 5) (.c (.int .i64 2))))) <|
    .st (.act none (.px (some 7) (.mv (.v 6)))) .done) K77_13
@[simp] def W77_14 := @C.wpe _ _ K77_14.eq_1
def K77_15 : C := .cond 6 (.v 7) K77_7 K77_14
@[simp] def W77_15 := @C.wpe _ _ K77_15.eq_1
def K77_16 : C := .seq (.pl <| .st (.ext 6 2) <|
    .st (.act none (.px (some 6) (.bin .eql (.v 5) (.c (.int .i64 1))))) <|
    .st (.act none (.px (some 7) (.mv (.v 6)))) .done) K77_15
@[simp] def W77_16 := @C.wpe _ _ K77_16.eq_1
def K77_17 : C := .cond 6 (.v 7) K77_4 K77_16
@[simp] def W77_17 := @C.wpe _ _ K77_17.eq_1
def K77_18 : C := .block 0 (.seq (.pl <| .st (.ext 6 2) <|
    .st (.act none (.px (some 6) (.bin .eql (.v 5) (.c (.int .i64 0))))) <|
    .st (.act none (.px (some 7) (.mv (.v 6)))) .done) K77_17)
@[simp] def W77_18 := @C.wpe _ _ K77_18.eq_1
def K77_19 : C := .seq (.seq (.pl <| .st (.ext 6 1) <|
    .st (.act none (.px (some 6) (.mv (.v 0)))) <|
    .st (.act none (.ex (some 5) (.call fn_spec_l16Rd_pick [.v 6, .c (.int .i64 40)]))) .done) K77_18) K77_1
@[simp] def W77_19 := @C.wpe _ _ K77_19.eq_1
def K77_20 : Pl := .st (.act none (.pnew 4 (.c (.agg #[.int .i64 0, .int .i64 0, .slice none 0 0])) [])) <|
    .st (.act none (.pset none 4 0 3 (.v 8))) .done
@[simp] def W77_20 := @Pl.wpe _ _ K77_20.eq_1
def K77_21 : C := .seq (.pl <| .st (.ext 6 3) <|
    .st (.act none (.pget (some 6) none 2 0 (some 3))) <|
    .st (.act none (.px (some 7) (.build [.int .i64 0, .int .i64 0, .slice none 0 0] []))) <|
    .st (.act none (.ex (some 8) (.call fn_spec_l1Subst [.v 6, .c (.int .i64 (-1)), .v 7]))) K77_20) K77_19
@[simp] def W77_21 := @C.wpe _ _ K77_21.eq_1
def B_spec_l1Mutate : C := .seq (.pl <| .st (.ext 6 0) <|
    .st (.act none (.pnew 2 (.v 1) [])) <|
    .st (.act none (.pnew 3 (.c (.agg #[.int .i64 0, .int .i64 0, .slice none 0 0])) [])) .done) K77_21
@[simp] def WB_spec_l1Mutate := @C.wpe _ _ B_spec_l1Mutate.eq_1
def R_spec_l1Mutate : FIR := ⟨B_spec_l1Mutate, 6, [(3, some (some 3))]⟩
theorem IR_spec_l1Mutate : cfun Try.prog H_spec_l1Mutate Try.f77 = some R_spec_l1Mutate := by kernel_rfl
theorem EN_spec_l1Mutate {args : List Value} {h : Heap} {k : Value → Heap → Prop} (hargs : args.length = 2) (hw : B_spec_l1Mutate.wp Try.prog (retQ [(3, some (some 3))] k) (env0 args 6) h) : CallE Try.prog fn_spec_l1Mutate args h k := enter Try.func77 rfl IR_spec_l1Mutate hargs hw

def H_spec_l1Random : Hint := ⟨[(0, false), (1, false), (4, true), (5, false), (6, true), (7, false)], [[3]]⟩
def K113_1 : C := .seq (.pl <| .st (.ext 6 1) <|
    .st (.act none (.pget (some 6) none 4 0 (some 3))) <|
    .st (.act none (.pset none 2 0 3 (.v 6))) .done) (.ret)
@[simp] def W113_1 := @C.wpe _ _ K113_1.eq_1
def K113_2 : C := .pl <| .st (.ext 6 2) <|
    .st (.act none (.px (some 6) (.mv (.v 5)))) <|
    .st (.act none (.px (some 7) (.bin .sub (.v 6) (.c (.int .i64 1))))) <|
    .st (.act none (.px (some 5) (.mv (.v 7)))) .done
@[simp] def W113_2 := @C.wpe _ _ K113_2.eq_1
def K113_3 : Pl := .st (.act none (.als 14 none 4)) <|
    .st (.act none (.pset (some 14) 4 2 1 (.v 13))) .done
@[simp] def W113_3 := @Pl.wpe _ _ K113_3.eq_1
def K113_4 : Pl := .st (.act none (.psl 12 [.int .i64 0, .int .i64 0, .slice none 0 0] [(0, 3, .v 11)])) <|
    .st (.act none (.ex (some 13) (.app 40 3 [.int .i64 0, .int .i64 0, .slice none 0 0] (.o (.v 7)) (.p 1 12)))) K113_3
@[simp] def W113_4 := @Pl.wpe _ _ K113_4.eq_1
def K113_5 : C := .seq (.block 1 (.pl <| .st (.ext 6 9) <|
    .st (.act none (.als 6 none 4)) <|
    .st (.act none (.pget (some 7) (some 6) 4 2 none)) <|
    .st (.act none (.px (some 8) (.mv (.v 0)))) <|
    .st (.act none (.px (some 9) (.mv (.v 1)))) <|
    .st (.act none (.px (some 10) (.bin .sub (.v 9) (.c (.int .i64 1))))) <|
    .st (.act none (.ex (some 11) (.call fn_spec_l1Random [.v 8, .v 10]))) K113_4)) K113_2
@[simp] def W113_5 := @C.wpe _ _ K113_5.eq_1
def K113_6 : C := .cond 6 (.v 7) (.skip) (.exit 0)
@[simp] def W113_6 := @C.wpe _ _ K113_6.eq_1
def K113_7 : C := .seq (.seq (.pl <| .st (.ext 6 2) <|
    .st (.act none (.px (some 6) (.mv (.v 5)))) <|
    .st (.act none (.px (some 7) (.bin .gtr (.v 6) (.c (.int .i64 0))))) .done) K113_6) K113_5
@[simp] def W113_7 := @C.wpe _ _ K113_7.eq_1
def K113_8 : C := .block 0 (.loop 6 [3] K113_7)
@[simp] def W113_8 := @C.wpe _ _ K113_8.eq_1
def K113_9 : Pl := .st (.act none (.px (some 5) (.mv (.v 7)))) .done
@[simp] def W113_9 := @Pl.wpe _ _ K113_9.eq_1
def K113_10 : C := .seq (.seq (.pl <| .st (.ext 6 2) <|
    .st (.act none (.px (some 6) (.mv (.v 3)))) <|
    .st (.act none (.ex (some 7) (.call fn_spec_l1Arity [.v 6]))) K113_9) K113_8) K113_1
@[simp] def W113_10 := @C.wpe _ _ K113_10.eq_1
def K113_11 : C := .seq (.pl <| .st (.ext 6 2) <|
    .st (.act none (.px (some 6) (.mv (.v 3)))) <|
    .st (.act none (.px (some 7) (.build [.int .i64 0, .int .i64 0, .slice none 0 0] [(0, 1, .v 6)]))) <|
    .st (.act none (.pnew 4 (.c (.agg #[.int .i64 0, .int .i64 0, .slice none 0 0])) [])) <|
    .st (.act none (.pset none 4 0 3 (.v 7))) .done) K113_10
@[simp] def W113_11 := @C.wpe _ _ K113_11.eq_1
def K113_12 : Pl := .st (.act none (.px (some 3) (.mv (.v 8)))) .done
@[simp] def W113_12 := @Pl.wpe _ _ K113_12.eq_1
def K113_13 : Pl := .st (.act none (.ex (some 8) (.call fn_spec_l16Rd_num [.v 6, .v 7]))) K113_12
@[simp] def W113_13 := @Pl.wpe _ _ K113_13.eq_1
def K113_14 : C := .seq (.pl <| .st (.ext 6 3) <|
    .st (.act none (.px (some 6) (.mv (.v 0)))) <|
    .st (.act none (.ex (some 7) (.bls 1 7 [.int .i64 0] [(0, 1, .c (.int .i64 6)), (1, 1, .c (.int .i64 8)), (2, 1, .c (.int .i64 7)), (3, 1, .c (.int .i64 4)), (4, 1, .c (.int .i64 3)), (5, 1, .c (.int .i64 5)), (6, 1, .c (.int .i64 9))]))) K113_13) K113_11
@[simp] def W113_14 := @C.wpe _ _ K113_14.eq_1
def K113_15 : Pl := .st (.act none (.px (some 9) (.build [.int .i64 0, .int .i64 0, .slice none 0 0] [(0, 1, .c (.int .i64 2)), (1, 1, .v 8)]))) <|
    .st (.act none (.pset none 2 0 3 (.v 9))) .done
@[simp] def W113_15 := @Pl.wpe _ _ K113_15.eq_1
def K113_16 : Pl := .st (.act none (.ex (some 8) (.call fn_spec_l16Rd_num [.v 6, .v 7]))) K113_15
@[simp] def W113_16 := @Pl.wpe _ _ K113_16.eq_1
def K113_17 : C := .seq (.pl <| .st (.ext 6 4) <|
    .st (.act none (.px (some 6) (.mv (.v 0)))) <|
    .st (.act none (.ex (some 7) (.bls 1 4 [.int .i64 0] [(0, 1, .c (.int .i64 0)), (1, 1, .c (.int .i64 1)), (2, 1, .c (.int .i64 0)), (3, 1, .c (.int .i64 2))]))) K113_16) (.ret)
@[simp] def W113_17 := @C.wpe _ _ K113_17.eq_1
def K113_18 : Pl := .st (.act none (.px (some 8) (.build [.int .i64 0, .int .i64 0, .slice none 0 0] [(0, 1, .c (.int .i64 1)), (1, 1, .v 7)]))) <|
    .st (.act none (.pset none 2 0 3 (.v 8))) .done
@[simp] def W113_18 := @Pl.wpe _ _ K113_18.eq_1
def K113_19 : C := .seq (.pl <| .st (.ext 6 3) <|
    .st (.act none (.px (some 6) (.mv (.v 0)))) <|
    .st (.act none (.ex (some 7) (.call fn_spec_l16Rd_pick [.v 6, .c (.int .i64 4)]))) K113_18) (.ret)
@[simp] def W113_19 := @C.wpe _ _ K113_19.eq_1
def K113_20 : C := .cond 6 (.v 8) K113_19 (.skip)
@[simp] def W113_20 := @C.wpe _ _ K113_20.eq_1
def K113_21 : Pl := .st (.act none (.px (some 8) (.bin .eql (.v 7) (.c (.int .i64 0))))) .done
@[simp] def W113_21 := @Pl.wpe _ _ K113_21.eq_1
def K113_22 : C := .seq (.seq (.pl <| .st (.ext 6 3) <|
    .st (.act none (.px (some 6) (.mv (.v 0)))) <|
    .st (.act none (.ex (some 7) (.call fn_spec_l16Rd_pick [.v 6, .c (.int .i64 3)]))) K113_21) K113_20) K113_17
@[simp] def W113_22 := @C.wpe _ _ K113_22.eq_1
def K113_23 : C := .cond 6 (.v 12) K113_22 (.skip)
@[simp] def W113_23 := @C.wpe _ _ K113_23.eq_1
def K113_24 : Pl := .st (.act (some (.v 8, false)) (.px (some 11) (.bin .eql (.v 10) (.c (.int .i64 0))))) <|
    .st (.act none (.px (some 12) (.pick (.v 8) (.c (.bool true)) (.v 11)))) .done
@[simp] def W113_24 := @Pl.wpe _ _ K113_24.eq_1
def K113_25 : C := .seq (.seq (.pl <| .st (.ext 6 7) <|
    .st (.act none (.px (some 6) (.mv (.v 1)))) <|
    .st (.act none (.px (some 7) (.bin .lss (.v 6) (.c (.int .i64 2))))) <|
    .st (.act none (.px (some 8) (.mv (.v 7)))) <|
    .st (.act (some (.v 8, false)) (.px (some 9) (.mv (.v 0)))) <|
    .st (.act (some (.v 8, false)) (.ex (some 10) (.call fn_spec_l16Rd_pick [.v 9, .c (.int .i64 5)]))) K113_24) K113_23) K113_14
@[simp] def W113_25 := @C.wpe _ _ K113_25.eq_1
def B_spec_l1Random : C := .seq (.pl <| .st (.ext 6 0) <|
    .st (.act none (.pnew 2 (.c (.agg #[.int .i64 0, .int .i64 0, .slice none 0 0])) [])) .done) K113_25
@[simp] def WB_spec_l1Random := @C.wpe _ _ B_spec_l1Random.eq_1
def R_spec_l1Random : FIR := ⟨B_spec_l1Random, 6, [(2, some (some 3))]⟩
theorem IR_spec_l1Random : cfun Try.prog H_spec_l1Random Try.f113 = some R_spec_l1Random := by kernel_rfl
theorem EN_spec_l1Random {args : List Value} {h : Heap} {k : Value → Heap → Prop} (hargs : args.length = 2) (hw : B_spec_l1Random.wp Try.prog (retQ [(2, some (some 3))] k) (env0 args 6) h) : CallE Try.prog fn_spec_l1Random args h k := enter Try.func113 rfl IR_spec_l1Random hargs hw

def H_spec_l1Shape : Hint := ⟨[(0, false), (1, false), (2, true), (4, false), (5, false), (6, false), (19, false)], [[0, 3, 4, 6]]⟩
def K134_1 : C := .seq (.pl <| .st (.ext 7 0) <|
    .st (.act none (.px (some 3) (.mv (.c (.bool true))))) .done) (.ret)
@[simp] def W134_1 := @C.wpe _ _ K134_1.eq_1
def K134_2 : C := .pl <| .st (.ext 7 2) <|
    .st (.act none (.px (some 7) (.mv (.v 5)))) <|
    .st (.act none (.px (some 8) (.bin .add (.v 7) (.c (.int .i64 1))))) <|
    .st (.act none (.px (some 5) (.mv (.v 8)))) .done
@[simp] def W134_2 := @C.wpe _ _ K134_2.eq_1
def K134_3 : C := .seq (.pl <| .st (.ext 7 0) <|
    .st (.act none (.px (some 3) (.mv (.c (.bool false))))) .done) (.ret)
@[simp] def W134_3 := @C.wpe _ _ K134_3.eq_1
def K134_4 : C := .cond 7 (.v 15) K134_3 (.skip)
@[simp] def W134_4 := @C.wpe _ _ K134_4.eq_1
def K134_5 : Pl := .st (.act none (.px (some 15) (.un .not (.v 14)))) .done
@[simp] def W134_5 := @Pl.wpe _ _ K134_5.eq_1
def K134_6 : C := .seq (.block 2 (.seq (.pl <| .st (.ext 7 9) <|
    .st (.act none (.als 7 none 2)) <|
    .st (.act none (.pget (some 8) (some 7) 2 2 none)) <|
    .st (.act none (.px (some 9) (.mv (.v 5)))) <|
    .st (.act none (.px (some 10) (.ia 3 (.v 8) (.v 9)))) <|
    .st (.act none (.ld (some 11) (.v 10) (some 3))) <|
    .st (.act none (.px (some 12) (.mv (.v 1)))) <|
    .st (.act none (.px (some 13) (.bin .sub (.v 12) (.c (.int .i64 1))))) <|
    .st (.act none (.ex (some 14) (.call fn_spec_l1Shape [.v 11, .v 13]))) K134_5) K134_4)) K134_2
@[simp] def W134_6 := @C.wpe _ _ K134_6.eq_1
def K134_7 : C := .cond 7 (.v 11) (.skip) (.exit 1)
@[simp] def W134_7 := @C.wpe _ _ K134_7.eq_1
def K134_8 : C := .seq (.seq (.pl <| .st (.ext 7 5) <|
    .st (.act none (.px (some 7) (.mv (.v 5)))) <|
    .st (.act none (.als 8 none 2)) <|
    .st (.act none (.pget (some 9) (some 8) 2 2 none)) <|
    .st (.act none (.px (some 10) (.lenV (.v 9)))) <|
    .st (.act none (.px (some 11) (.bin .lss (.v 7) (.v 10)))) .done) K134_7) K134_6
@[simp] def W134_8 := @C.wpe _ _ K134_8.eq_1
def K134_9 : C := .block 1 (.loop 7 [0, 3, 4, 6] K134_8)
@[simp] def W134_9 := @C.wpe _ _ K134_9.eq_1
def K134_10 : C := .seq (.seq (.pl <| .st (.ext 7 0) <|
    .st (.act none (.px (some 5) (.mv (.c (.int .i64 0))))) .done) K134_9) K134_1
@[simp] def W134_10 := @C.wpe _ _ K134_10.eq_1
def K134_11 : C := .seq (.pl <| .st (.ext 7 0) <|
    .st (.act none (.px (some 3) (.mv (.c (.bool false))))) .done) (.ret)
@[simp] def W134_11 := @C.wpe _ _ K134_11.eq_1
def K134_12 : C := .cond 7 (.v 15) K134_11 (.skip)
@[simp] def W134_12 := @C.wpe _ _ K134_12.eq_1
def K134_13 : C := .seq (.seq (.pl <| .st (.ext 7 9) <|
    .st (.act none (.als 7 none 2)) <|
    .st (.act none (.pget (some 8) (some 7) 2 1 none)) <|
    .st (.act none (.px (some 9) (.bin .lss (.v 8) (.c (.int .i64 0))))) <|
    .st (.act none (.px (some 10) (.mv (.v 9)))) <|
    .st (.act (some (.v 10, false)) (.als 11 none 2)) <|
    .st (.act (some (.v 10, false)) (.pget (some 12) (some 11) 2 1 none)) <|
    .st (.act (some (.v 10, false)) (.px (some 13) (.mv (.v 4)))) <|
    .st (.act (some (.v 10, false)) (.px (some 14) (.bin .gtr (.v 12) (.v 13)))) <|
    .st (.act none (.px (some 15) (.pick (.v 10) (.c (.bool true)) (.v 14)))) .done) K134_12) K134_10
@[simp] def W134_13 := @C.wpe _ _ K134_13.eq_1
def K134_14 : C := .pl <| .st (.ext 7 0) <|
    .st (.act none (.px (some 4) (.mv (.c (.int .i64 3))))) .done
@[simp] def W134_14 := @C.wpe _ _ K134_14.eq_1
def K134_15 : C := .pl <| .st (.ext 7 0) <|
    .st (.act none (.px (some 4) (.mv (.c (.int .i64 2))))) .done
@[simp] def W134_15 := @C.wpe _ _ K134_15.eq_1
def K134_16 : C := .cond 7 (.v 8) K134_15 (.skip)
@[simp] def W134_16 := @C.wpe _ _ K134_16.eq_1
def K134_17 : C := .seq (.pl <| .st (.ext 7 2) <|
    .st (.act none (.px (some 7) (.bin .eql (.v 6) (.c (.int .i64 2))))) <|
    .st (.act none (.px (some 8) (.mv (.v 7)))) .done) K134_16
@[simp] def W134_17 := @C.wpe _ _ K134_17.eq_1
def K134_18 : C := .cond 7 (.v 8) K134_14 K134_17
@[simp] def W134_18 := @C.wpe _ _ K134_18.eq_1
def K134_19 : C := .block 0 (.seq (.pl <| .st (.ext 7 2) <|
    .st (.act none (.px (some 7) (.bin .eql (.v 6) (.c (.int .i64 1))))) <|
    .st (.act none (.px (some 8) (.mv (.v 7)))) .done) K134_18)
@[simp] def W134_19 := @C.wpe _ _ K134_19.eq_1
def K134_20 : C := .seq (.seq (.pl <| .st (.ext 7 1) <|
    .st (.act none (.als 7 none 2)) <|
    .st (.act none (.pget (some 6) (some 7) 2 0 none)) .done) K134_19) K134_13
@[simp] def W134_20 := @C.wpe _ _ K134_20.eq_1
def K134_21 : C := .seq (.pl <| .st (.ext 7 0) <|
    .st (.act none (.px (some 4) (.mv (.c (.int .i64 0))))) .done) K134_20
@[simp] def W134_21 := @C.wpe _ _ K134_21.eq_1
def K134_22 : C := .seq (.pl <| .st (.ext 7 0) <|
    .st (.act none (.px (some 3) (.mv (.c (.bool false))))) .done) (.ret)
@[simp] def W134_22 := @C.wpe _ _ K134_22.eq_1
def K134_23 : C := .cond 7 (.v 17) K134_22 (.skip)
@[simp] def W134_23 := @C.wpe _ _ K134_23.eq_1
def K134_24 : Pl := .st (.act (some (.v 9, false)) (.px (some 16) (.bin .neq (.v 12) (.v 15)))) <|
    .st (.act none (.px (some 17) (.pick (.v 9) (.c (.bool true)) (.v 16)))) .done
@[simp] def W134_24 := @Pl.wpe _ _ K134_24.eq_1
def K134_25 : C := .seq (.seq (.pl <| .st (.ext 7 11) <|
    .st (.act none (.px (some 7) (.mv (.v 1)))) <|
    .st (.act none (.px (some 8) (.bin .lss (.v 7) (.c (.int .i64 1))))) <|
    .st (.act none (.px (some 9) (.mv (.v 8)))) <|
    .st (.act (some (.v 9, false)) (.als 10 none 2)) <|
    .st (.act (some (.v 9, false)) (.pget (some 11) (some 10) 2 2 none)) <|
    .st (.act (some (.v 9, false)) (.px (some 12) (.lenV (.v 11)))) <|
    .st (.act (some (.v 9, false)) (.als 13 none 2)) <|
    .st (.act (some (.v 9, false)) (.pget (some 14) (some 13) 2 0 none)) <|
    .st (.act (some (.v 9, false)) (.ex (some 15) (.call fn_spec_l1Arity [.v 14]))) K134_24) K134_23) K134_21
@[simp] def W134_25 := @C.wpe _ _ K134_25.eq_1
def B_spec_l1Shape : C := .seq (.pl <| .st (.ext 7 0) <|
    .st (.act none (.pnew 2 (.v 0) [])) <|
    .st (.act none (.px (some 3) (.mv (.c (.bool false))))) .done) K134_25
@[simp] def WB_spec_l1Shape := @C.wpe _ _ B_spec_l1Shape.eq_1
def R_spec_l1Shape : FIR := ⟨B_spec_l1Shape, 7, [(3, none)]⟩
theorem IR_spec_l1Shape : cfun Try.prog H_spec_l1Shape Try.f134 = some R_spec_l1Shape := by kernel_rfl
theorem EN_spec_l1Shape {args : List Value} {h : Heap} {k : Value → Heap → Prop} (hargs : args.length = 2) (hw : B_spec_l1Shape.wp Try.prog (retQ [(3, none)] k) (env0 args 7) h) : CallE Try.prog fn_spec_l1Shape args h k := enter Try.func134 rfl IR_spec_l1Shape hargs hw

def H_spec_l1Subst : Hint := ⟨[(0, false), (1, false), (2, false), (3, true), (5, true), (6, true), (7, true), (8, false)], [[0, 2]]⟩
def K108_1 : C := .seq (.pl <| .st (.ext 8 1) <|
    .st (.act none (.pget (some 8) none 6 0 (some 3))) <|
    .st (.act none (.pset none 5 0 3 (.v 8))) .done) (.ret)
@[simp] def W108_1 := @C.wpe _ _ K108_1.eq_1
def K108_2 : C := .pl <| .st (.ext 8 2) <|
    .st (.act none (.px (some 8) (.mv (.v 7)))) <|
    .st (.act none (.px (some 9) (.bin .add (.v 8) (.c (.int .i64 1))))) <|
    .st (.act none (.px (some 7) (.mv (.v 9)))) .done
@[simp] def W108_2 := @C.wpe _ _ K108_2.eq_1
def K108_3 : Pl := .st (.act none (.als 20 none 6)) <|
    .st (.act none (.pset (some 20) 6 2 1 (.v 19))) .done
@[simp] def W108_3 := @Pl.wpe _ _ K108_3.eq_1
def K108_4 : Pl := .st (.act none (.psl 18 [.int .i64 0, .int .i64 0, .slice none 0 0] [(0, 3, .v 17)])) <|
    .st (.act none (.ex (some 19) (.app 40 3 [.int .i64 0, .int .i64 0, .slice none 0 0] (.o (.v 9)) (.p 1 18)))) K108_3
@[simp] def W108_4 := @Pl.wpe _ _ K108_4.eq_1
def K108_5 : C := .seq (.block 1 (.pl <| .st (.ext 8 13) <|
    .st (.act none (.als 8 none 6)) <|
    .st (.act none (.pget (some 9) (some 8) 6 2 none)) <|
    .st (.act none (.als 10 none 3)) <|
    .st (.act none (.pget (some 11) (some 10) 3 2 none)) <|
    .st (.act none (.px (some 12) (.mv (.v 7)))) <|
    .st (.act none (.px (some 13) (.ia 3 (.v 11) (.v 12)))) <|
    .st (.act none (.ld (some 14) (.v 13) (some 3))) <|
    .st (.act none (.px (some 15) (.mv (.v 1)))) <|
    .st (.act none (.pget (some 16) none 4 0 (some 3))) <|
    .st (.act none (.ex (some 17) (.call fn_spec_l1Subst [.v 14, .v 15, .v 16]))) K108_4)) K108_2
@[simp] def W108_5 := @C.wpe _ _ K108_5.eq_1
def K108_6 : C := .cond 8 (.v 12) (.skip) (.exit 0)
@[simp] def W108_6 := @C.wpe _ _ K108_6.eq_1
def K108_7 : C := .seq (.seq (.pl <| .st (.ext 8 5) <|
    .st (.act none (.px (some 8) (.mv (.v 7)))) <|
    .st (.act none (.als 9 none 3)) <|
    .st (.act none (.pget (some 10) (some 9) 3 2 none)) <|
    .st (.act none (.px (some 11) (.lenV (.v 10)))) <|
    .st (.act none (.px (some 12) (.bin .lss (.v 8) (.v 11)))) .done) K108_6) K108_5
@[simp] def W108_7 := @C.wpe _ _ K108_7.eq_1
def K108_8 : C := .block 0 (.loop 8 [0, 2] K108_7)
@[simp] def W108_8 := @C.wpe _ _ K108_8.eq_1
def K108_9 : C := .seq (.seq (.pl <| .st (.ext 8 0) <|
    .st (.act none (.px (some 7) (.mv (.c (.int .i64 0))))) .done) K108_8) K108_1
@[simp] def W108_9 := @C.wpe _ _ K108_9.eq_1
def K108_10 : C := .seq (.pl <| .st (.ext 8 5) <|
    .st (.act none (.als 8 none 3)) <|
    .st (.act none (.pget (some 9) (some 8) 3 0 none)) <|
    .st (.act none (.als 10 none 3)) <|
    .st (.act none (.pget (some 11) (some 10) 3 1 none)) <|
    .st (.act none (.px (some 12) (.build [.int .i64 0, .int .i64 0, .slice none 0 0] [(0, 1, .v 9), (1, 1, .v 11)]))) <|
    .st (.act none (.pnew 6 (.c (.agg #[.int .i64 0, .int .i64 0, .slice none 0 0])) [])) <|
    .st (.act none (.pset none 6 0 3 (.v 12))) .done) K108_9
@[simp] def W108_10 := @C.wpe _ _ K108_10.eq_1
def K108_11 : Pl := .st (.act none (.pset none 5 0 3 (.v 10))) .done
@[simp] def W108_11 := @Pl.wpe _ _ K108_11.eq_1
def K108_12 : C := .seq (.pl <| .st (.ext 8 3) <|
    .st (.act none (.pget (some 8) none 4 0 (some 3))) <|
    .st (.act none (.px (some 9) (.build [.int .i64 0, .int .i64 0, .slice none 0 0] []))) <|
    .st (.act none (.ex (some 10) (.call fn_spec_l1Subst [.v 8, .c (.int .i64 (-1)), .v 9]))) K108_11) (.ret)
@[simp] def W108_12 := @C.wpe _ _ K108_12.eq_1
def K108_13 : C := .cond 8 (.v 16) K108_12 (.skip)
@[simp] def W108_13 := @C.wpe _ _ K108_13.eq_1
def K108_14 : C := .seq (.seq (.pl <| .st (.ext 8 9) <|
    .st (.act none (.als 8 none 3)) <|
    .st (.act none (.pget (some 9) (some 8) 3 0 none)) <|
    .st (.act none (.px (some 10) (.bin .eql (.v 9) (.c (.int .i64 2))))) <|
    .st (.act none (.px (some 11) (.mv (.v 10)))) <|
    .st (.act (some (.v 11, true)) (.als 12 none 3)) <|
    .st (.act (some (.v 11, true)) (.pget (some 13) (some 12) 3 1 none)) <|
    .st (.act (some (.v 11, true)) (.px (some 14) (.mv (.v 1)))) <|
    .st (.act (some (.v 11, true)) (.px (some 15) (.bin .eql (.v 13) (.v 14)))) <|
    .st (.act none (.px (some 16) (.pick (.v 11) (.v 15) (.c (.bool false))))) .done) K108_13) K108_10
@[simp] def W108_14 := @C.wpe _ _ K108_14.eq_1
def B_spec_l1Subst : C := .seq (.pl <| .st (.ext 8 0) <|
    .st (.act none (.pnew 3 (.v 0) [])) <|
    .st (.act none (.pnew 4 (.v 2) [])) <|
    .st (.act none (.pnew 5 (.c (.agg #[.int .i64 0, .int .i64 0, .slice none 0 0])) [])) .done) K108_14
@[simp] def WB_spec_l1Subst := @C.wpe _ _ B_spec_l1Subst.eq_1
def R_spec_l1Subst : FIR := ⟨B_spec_l1Subst, 8, [(5, some (some 3))]⟩
theorem IR_spec_l1Subst : cfun Try.prog H_spec_l1Subst Try.f108 = some R_spec_l1Subst := by kernel_rfl
theorem EN_spec_l1Subst {args : List Value} {h : Heap} {k : Value → Heap → Prop} (hargs : args.length = 3) (hw : B_spec_l1Subst.wp Try.prog (retQ [(5, some (some 3))] k) (env0 args 8) h) : CallE Try.prog fn_spec_l1Subst args h k := enter Try.func108 rfl IR_spec_l1Subst hargs hw

def H_spec_l1Vals : Hint := ⟨[(0, false), (2, false), (3, false)], [[1]]⟩
def K70_1 : C := .seq (.pl <| .st (.ext 3 3) <|
    .st (.act none (.px (some 3) (.mv (.v 0)))) <|
    .st (.act none (.px (some 4) (.lenV (.v 3)))) <|
    .st (.act none (.px (some 5) (.bin .eql (.v 4) (.c (.int .i64 3))))) <|
    .st (.act none (.px (some 1) (.mv (.v 5)))) .done) (.ret)
@[simp] def W70_1 := @C.wpe _ _ K70_1.eq_1
def K70_2 : C := .pl <| .st (.ext 3 2) <|
    .st (.act none (.px (some 3) (.mv (.v 2)))) <|
    .st (.act none (.px (some 4) (.bin .add (.v 3) (.c (.int .i64 1))))) <|
    .st (.act none (.px (some 2) (.mv (.v 4)))) .done
@[simp] def W70_2 := @C.wpe _ _ K70_2.eq_1
def K70_3 : C := .seq (.pl <| .st (.ext 3 0) <|
    .st (.act none (.px (some 1) (.mv (.c (.bool false))))) .done) (.ret)
@[simp] def W70_3 := @C.wpe _ _ K70_3.eq_1
def K70_4 : C := .cond 3 (.v 14) K70_3 (.skip)
@[simp] def W70_4 := @C.wpe _ _ K70_4.eq_1
def K70_5 : C := .seq (.block 1 (.seq (.pl <| .st (.ext 3 12) <|
    .st (.act none (.px (some 3) (.mv (.v 0)))) <|
    .st (.act none (.px (some 4) (.mv (.v 2)))) <|
    .st (.act none (.px (some 5) (.ia 1 (.v 3) (.v 4)))) <|
    .st (.act none (.ld (some 6) (.v 5) none)) <|
    .st (.act none (.px (some 7) (.bin .lss (.v 6) (.c (.int .i64 0))))) <|
    .st (.act none (.px (some 8) (.mv (.v 7)))) <|
    .st (.act (some (.v 8, false)) (.px (some 9) (.mv (.v 0)))) <|
    .st (.act (some (.v 8, false)) (.px (some 10) (.mv (.v 2)))) <|
    .st (.act (some (.v 8, false)) (.px (some 11) (.ia 1 (.v 9) (.v 10)))) <|
    .st (.act (some (.v 8, false)) (.ld (some 12) (.v 11) none)) <|
    .st (.act (some (.v 8, false)) (.px (some 13) (.bin .gtr (.v 12) (.c (.int .i64 3))))) <|
    .st (.act none (.px (some 14) (.pick (.v 8) (.c (.bool true)) (.v 13)))) .done) K70_4)) K70_2
@[simp] def W70_5 := @C.wpe _ _ K70_5.eq_1
def K70_6 : C := .cond 3 (.v 6) (.skip) (.exit 0)
@[simp] def W70_6 := @C.wpe _ _ K70_6.eq_1
def K70_7 : C := .seq (.seq (.pl <| .st (.ext 3 4) <|
    .st (.act none (.px (some 3) (.mv (.v 2)))) <|
    .st (.act none (.px (some 4) (.mv (.v 0)))) <|
    .st (.act none (.px (some 5) (.lenV (.v 4)))) <|
    .st (.act none (.px (some 6) (.bin .lss (.v 3) (.v 5)))) .done) K70_6) K70_5
@[simp] def W70_7 := @C.wpe _ _ K70_7.eq_1
def K70_8 : C := .block 0 (.loop 3 [1] K70_7)
@[simp] def W70_8 := @C.wpe _ _ K70_8.eq_1
def K70_9 : C := .seq (.seq (.pl <| .st (.ext 3 0) <|
    .st (.act none (.px (some 2) (.mv (.c (.int .i64 0))))) .done) K70_8) K70_1
@[simp] def W70_9 := @C.wpe _ _ K70_9.eq_1
def B_spec_l1Vals : C := .seq (.pl <| .st (.ext 3 0) <|
    .st (.act none (.px (some 1) (.mv (.c (.bool false))))) .done) K70_9
@[simp] def WB_spec_l1Vals := @C.wpe _ _ B_spec_l1Vals.eq_1
def R_spec_l1Vals : FIR := ⟨B_spec_l1Vals, 3, [(1, none)]⟩
theorem IR_spec_l1Vals : cfun Try.prog H_spec_l1Vals Try.f70 = some R_spec_l1Vals := by kernel_rfl
theorem EN_spec_l1Vals {args : List Value} {h : Heap} {k : Value → Heap → Prop} (hargs : args.length = 1) (hw : B_spec_l1Vals.wp Try.prog (retQ [(1, none)] k) (env0 args 3) h) : CallE Try.prog fn_spec_l1Vals args h k := enter Try.func70 rfl IR_spec_l1Vals hargs hw

def H_spec_l2Copy : Hint := ⟨[(0, false), (1, true), (2, true), (3, true), (4, false), (5, true), (6, false), (7, true)], [[0, 5, 6, 7], [0, 7]]⟩
def K62_1 : C := .seq (.pl <| .st (.ext 8 1) <|
    .st (.act none (.pget (some 8) none 3 0 (some 2))) <|
    .st (.act none (.pset none 2 0 2 (.v 8))) .done) (.ret)
@[simp] def W62_1 := @C.wpe _ _ K62_1.eq_1
def K62_2 : C := .pl <| .st (.ext 8 2) <|
    .st (.act none (.px (some 8) (.mv (.v 4)))) <|
    .st (.act none (.px (some 9) (.bin .add (.v 8) (.c (.int .i64 1))))) <|
    .st (.act none (.px (some 4) (.mv (.v 9)))) .done
@[simp] def W62_2 := @C.wpe _ _ K62_2.eq_1
def K62_3 : Pl := .st (.act none (.als 13 none 3)) <|
    .st (.act none (.pset (some 13) 3 1 1 (.v 12))) .done
@[simp] def W62_3 := @Pl.wpe _ _ K62_3.eq_1
def K62_4 : C := .pl <| .st (.ext 8 6) <|
    .st (.act none (.als 8 none 3)) <|
    .st (.act none (.pget (some 9) (some 8) 3 1 none)) <|
    .st (.act none (.pget (some 10) none 5 0 (some 2))) <|
    .st (.act none (.psl 11 [.int .i64 0, .slice none 0 0] [(0, 2, .v 10)])) <|
    .st (.act none (.ex (some 12) (.app 32 2 [.int .i64 0, .slice none 0 0] (.o (.v 9)) (.p 1 11)))) K62_3
@[simp] def W62_4 := @C.wpe _ _ K62_4.eq_1
def K62_5 : C := .pl <| .st (.ext 8 2) <|
    .st (.act none (.px (some 8) (.mv (.v 6)))) <|
    .st (.act none (.px (some 9) (.bin .add (.v 8) (.c (.int .i64 1))))) <|
    .st (.act none (.px (some 6) (.mv (.v 9)))) .done
@[simp] def W62_5 := @C.wpe _ _ K62_5.eq_1
def K62_6 : Pl := .st (.act none (.als 13 none 5)) <|
    .st (.act none (.pset (some 13) 5 1 1 (.v 12))) .done
@[simp] def W62_6 := @Pl.wpe _ _ K62_6.eq_1
def K62_7 : C := .pl <| .st (.ext 8 6) <|
    .st (.act none (.als 8 none 5)) <|
    .st (.act none (.pget (some 9) (some 8) 5 1 none)) <|
    .st (.act none (.pget (some 10) none 7 0 (some 10))) <|
    .st (.act none (.psl 11 [.int .i64 0, .int .i64 0, .int .i64 0, .int .i64 0, .slice none 0 0, .int .i64 0, .int .i64 0, .int .i64 0, .slice none 0 0, .int .i64 0] [(0, 10, .v 10)])) <|
    .st (.act none (.ex (some 12) (.app 112 10 [.int .i64 0, .int .i64 0, .int .i64 0, .int .i64 0, .slice none 0 0, .int .i64 0, .int .i64 0, .int .i64 0, .slice none 0 0, .int .i64 0] (.o (.v 9)) (.p 1 11)))) K62_6
@[simp] def W62_7 := @C.wpe _ _ K62_7.eq_1
def K62_8 : Pl := .st (.act none (.als 12 none 7)) <|
    .st (.act none (.pset (some 12) 7 6 3 (.v 11))) .done
@[simp] def W62_8 := @Pl.wpe _ _ K62_8.eq_1
def K62_9 : C := .seq (.pl <| .st (.ext 8 5) <|
    .st (.act none (.als 8 none 7)) <|
    .st (.act none (.pget (some 9) (some 8) 7 6 (some 3))) <|
    .st (.act none (.px (some 10) (.build [.int .i64 0, .int .i64 0, .slice none 0 0] []))) <|
    .st (.act none (.ex (some 11) (.call fn_spec_l1Subst [.v 9, .c (.int .i64 (-1)), .v 10]))) K62_8) K62_7
@[simp] def W62_9 := @C.wpe _ _ K62_9.eq_1
def K62_10 : Pl := .st (.act none (.als 12 none 7)) <|
    .st (.act none (.pset (some 12) 7 2 3 (.v 11))) .done
@[simp] def W62_10 := @Pl.wpe _ _ K62_10.eq_1
def K62_11 : C := .seq (.pl <| .st (.ext 8 5) <|
    .st (.act none (.als 8 none 7)) <|
    .st (.act none (.pget (some 9) (some 8) 7 2 (some 3))) <|
    .st (.act none (.px (some 10) (.build [.int .i64 0, .int .i64 0, .slice none 0 0] []))) <|
    .st (.act none (.ex (some 11) (.call fn_spec_l1Subst [.v 9, .c (.int .i64 (-1)), .v 10]))) K62_10) K62_9
@[simp] def W62_11 := @C.wpe _ _ K62_11.eq_1
def K62_12 : C := .seq (.block 3 (.seq (.pl <| .st (.ext 8 9) <|
    .st (.act none (.als 8 none 1)) <|
    .st (.act none (.pget (some 9) (some 8) 1 1 none)) <|
    .st (.act none (.px (some 10) (.mv (.v 4)))) <|
    .st (.act none (.px (some 11) (.ia 2 (.v 9) (.v 10)))) <|
    .st (.act none (.px (some 12) (.fa 1 (.v 11)))) <|
    .st (.act none (.ld (some 13) (.v 12) none)) <|
    .st (.act none (.px (some 14) (.mv (.v 6)))) <|
    .st (.act none (.px (some 15) (.ia 10 (.v 13) (.v 14)))) <|
    .st (.act none (.ld (some 16) (.v 15) (some 10))) <|
    .st (.act none (.pnew 7 (.c (.agg #[.int .i64 0, .int .i64 0, .int .i64 0, .int .i64 0, .slice none 0 0, .int .i64 0, .int .i64 0, .int .i64 0, .slice none 0 0, .int .i64 0])) [])) <|
    .st (.act none (.pset none 7 0 10 (.v 16))) .done) K62_11)) K62_5
@[simp] def W62_12 := @C.wpe _ _ K62_12.eq_1
def K62_13 : C := .cond 8 (.v 16) (.skip) (.exit 2)
@[simp] def W62_13 := @C.wpe _ _ K62_13.eq_1
def K62_14 : C := .seq (.seq (.pl <| .st (.ext 8 9) <|
    .st (.act none (.px (some 8) (.mv (.v 6)))) <|
    .st (.act none (.als 9 none 1)) <|
    .st (.act none (.pget (some 10) (some 9) 1 1 none)) <|
    .st (.act none (.px (some 11) (.mv (.v 4)))) <|
    .st (.act none (.px (some 12) (.ia 2 (.v 10) (.v 11)))) <|
    .st (.act none (.px (some 13) (.fa 1 (.v 12)))) <|
    .st (.act none (.ld (some 14) (.v 13) none)) <|
    .st (.act none (.px (some 15) (.lenV (.v 14)))) <|
    .st (.act none (.px (some 16) (.bin .lss (.v 8) (.v 15)))) .done) K62_13) K62_12
@[simp] def W62_14 := @C.wpe _ _ K62_14.eq_1
def K62_15 : C := .block 2 (.loop 8 [0, 7] K62_14)
@[simp] def W62_15 := @C.wpe _ _ K62_15.eq_1
def K62_16 : C := .seq (.seq (.pl <| .st (.ext 8 0) <|
    .st (.act none (.px (some 6) (.mv (.c (.int .i64 0))))) .done) K62_15) K62_4
@[simp] def W62_16 := @C.wpe _ _ K62_16.eq_1
def K62_17 : C := .seq (.block 1 (.seq (.pl <| .st (.ext 8 7) <|
    .st (.act none (.als 8 none 1)) <|
    .st (.act none (.pget (some 9) (some 8) 1 1 none)) <|
    .st (.act none (.px (some 10) (.mv (.v 4)))) <|
    .st (.act none (.px (some 11) (.ia 2 (.v 9) (.v 10)))) <|
    .st (.act none (.px (some 12) (.fa 0 (.v 11)))) <|
    .st (.act none (.ld (some 13) (.v 12) none)) <|
    .st (.act none (.px (some 14) (.build [.int .i64 0, .slice none 0 0] [(0, 1, .v 13)]))) <|
    .st (.act none (.pnew 5 (.c (.agg #[.int .i64 0, .slice none 0 0])) [])) <|
    .st (.act none (.pset none 5 0 2 (.v 14))) .done) K62_16)) K62_2
@[simp] def W62_17 := @C.wpe _ _ K62_17.eq_1
def K62_18 : C := .cond 8 (.v 12) (.skip) (.exit 0)
@[simp] def W62_18 := @C.wpe _ _ K62_18.eq_1
def K62_19 : C := .seq (.seq (.pl <| .st (.ext 8 5) <|
    .st (.act none (.px (some 8) (.mv (.v 4)))) <|
    .st (.act none (.als 9 none 1)) <|
    .st (.act none (.pget (some 10) (some 9) 1 1 none)) <|
    .st (.act none (.px (some 11) (.lenV (.v 10)))) <|
    .st (.act none (.px (some 12) (.bin .lss (.v 8) (.v 11)))) .done) K62_18) K62_17
@[simp] def W62_19 := @C.wpe _ _ K62_19.eq_1
def K62_20 : C := .block 0 (.loop 8 [0, 5, 6, 7] K62_19)
@[simp] def W62_20 := @C.wpe _ _ K62_20.eq_1
def K62_21 : C := .seq (.seq (.pl <| .st (.ext 8 0) <|
    .st (.act none (.px (some 4) (.mv (.c (.int .i64 0))))) .done) K62_20) K62_1
@[simp] def W62_21 := @C.wpe _ _ K62_21.eq_1
def K62_22 : Pl := .st (.act none (.px (some 12) (.build [.slice none 0 0, .slice none 0 0] [(0, 1, .v 11)]))) <|
    .st (.act none (.pnew 3 (.c (.agg #[.slice none 0 0, .slice none 0 0])) [])) <|
    .st (.act none (.pset none 3 0 2 (.v 12))) .done
@[simp] def W62_22 := @Pl.wpe _ _ K62_22.eq_1
def K62_23 : C := .seq (.pl <| .st (.ext 8 5) <|
    .st (.act none (.psl 8 [] [])) <|
    .st (.act none (.als 9 none 1)) <|
    .st (.act none (.pget (some 10) (some 9) 1 0 none)) <|
    .st (.act none (.ex (some 11) (.app 8 1 [.int .i64 0] (.p 0 8) (.o (.v 10))))) K62_22) K62_21
@[simp] def W62_23 := @C.wpe _ _ K62_23.eq_1
def B_spec_l2Copy : C := .seq (.pl <| .st (.ext 8 0) <|
    .st (.act none (.pnew 1 (.v 0) [])) <|
    .st (.act none (.pnew 2 (.c (.agg #[.slice none 0 0, .slice none 0 0])) [])) .done) K62_23
@[simp] def WB_spec_l2Copy := @C.wpe _ _ B_spec_l2Copy.eq_1
def R_spec_l2Copy : FIR := ⟨B_spec_l2Copy, 8, [(2, some (some 2))]⟩
theorem IR_spec_l2Copy : cfun Try.prog H_spec_l2Copy Try.f62 = some R_spec_l2Copy := by kernel_rfl
theorem EN_spec_l2Copy {args : List Value} {h : Heap} {k : Value → Heap → Prop} (hargs : args.length = 1) (hw : B_spec_l2Copy.wp Try.prog (retQ [(2, some (some 2))] k) (env0 args 8) h) : CallE Try.prog fn_spec_l2Copy args h k := enter Try.func62 rfl IR_spec_l2Copy hargs hw

def H_spec_l2DrawEdge : Hint := ⟨[(0, false), (1, false), (4, true), (5, true), (6, true), (7, true), (29, false)], []⟩
def K79_1 : C := .seq (.pl <| .st (.ext 7 1) <|
    .st (.act none (.pget (some 7) none 3 0 (some 10))) <|
    .st (.act none (.pset none 2 0 10 (.v 7))) .done) (.ret)
@[simp] def W79_1 := @C.wpe _ _ K79_1.eq_1
def K79_2 : Pl := .st (.act none (.als 10 none 3)) <|
    .st (.act none (.pset (some 10) 3 9 1 (.v 9))) .done
@[simp] def W79_2 := @Pl.wpe _ _ K79_2.eq_1
def K79_3 : Pl := .st (.act none (.ex (some 9) (.call fn_spec_l16Rd_num [.v 7, .v 8]))) K79_2
@[simp] def W79_3 := @Pl.wpe _ _ K79_3.eq_1
def K79_4 : C := .pl <| .st (.ext 7 4) <|
    .st (.act none (.px (some 7) (.mv (.v 0)))) <|
    .st (.act none (.ex (some 8) (.bls 1 6 [.int .i64 0] [(0, 1, .c (.int .i64 1)), (1, 1, .c (.int .i64 (-1))), (2, 1, .c (.int .i64 1)), (3, 1, .c (.int .i64 (-1))), (4, 1, .c (.int .i64 2)), (5, 1, .c (.int .i64 (-2)))]))) K79_3
@[simp] def W79_4 := @C.wpe _ _ K79_4.eq_1
def K79_5 : C := .cond 7 (.v 9) K79_4 (.skip)
@[simp] def W79_5 := @C.wpe _ _ K79_5.eq_1
def K79_6 : Pl := .st (.act none (.px (some 9) (.bin .eql (.v 8) (.c (.int .i64 0))))) .done
@[simp] def W79_6 := @Pl.wpe _ _ K79_6.eq_1
def K79_7 : C := .seq (.seq (.pl <| .st (.ext 7 3) <|
    .st (.act none (.px (some 7) (.mv (.v 0)))) <|
    .st (.act none (.ex (some 8) (.call fn_spec_l16Rd_pick [.v 7, .c (.int .i64 4)]))) K79_6) K79_5) K79_1
@[simp] def W79_7 := @C.wpe _ _ K79_7.eq_1
def K79_8 : Pl := .st (.act none (.px (some 9) (.build [.int .i64 0, .int .i64 0, .slice none 0 0] [(0, 1, .c (.int .i64 1)), (1, 1, .v 8)]))) <|
    .st (.act none (.als 10 none 3)) <|
    .st (.act none (.pset (some 10) 3 6 3 (.v 9))) .done
@[simp] def W79_8 := @Pl.wpe _ _ K79_8.eq_1
def K79_9 : C := .pl <| .st (.ext 7 4) <|
    .st (.act none (.px (some 7) (.mv (.v 0)))) <|
    .st (.act none (.ex (some 8) (.call fn_spec_l16Rd_pick [.v 7, .c (.int .i64 3)]))) K79_8
@[simp] def W79_9 := @C.wpe _ _ K79_9.eq_1
def K79_10 : Pl := .st (.act none (.px (some 10) (.build [.int .i64 0, .int .i64 0, .slice none 0 0] [(0, 1, .c (.int .i64 8)), (2, 1, .v 9)]))) <|
    .st (.act none (.als 11 none 3)) <|
    .st (.act none (.pset (some 11) 3 6 3 (.v 10))) .done
@[simp] def W79_10 := @Pl.wpe _ _ K79_10.eq_1
def K79_11 : C := .pl <| .st (.ext 7 5) <|
    .st (.act none (.pget (some 7) none 4 0 (some 3))) <|
    .st (.act none (.pget (some 8) none 5 0 (some 3))) <|
    .st (.act none (.ex (some 9) (.bls 3 2 [.int .i64 0, .int .i64 0, .slice none 0 0] [(0, 3, .v 7), (3, 3, .v 8)]))) K79_10
@[simp] def W79_11 := @C.wpe _ _ K79_11.eq_1
def K79_12 : Pl := .st (.act none (.px (some 10) (.build [.int .i64 0, .int .i64 0, .slice none 0 0] [(0, 1, .c (.int .i64 9)), (2, 1, .v 9)]))) <|
    .st (.act none (.als 11 none 3)) <|
    .st (.act none (.pset (some 11) 3 6 3 (.v 10))) .done
@[simp] def W79_12 := @Pl.wpe _ _ K79_12.eq_1
def K79_13 : C := .pl <| .st (.ext 7 5) <|
    .st (.act none (.pget (some 7) none 5 0 (some 3))) <|
    .st (.act none (.pget (some 8) none 4 0 (some 3))) <|
    .st (.act none (.ex (some 9) (.bls 3 2 [.int .i64 0, .int .i64 0, .slice none 0 0] [(0, 3, .v 7), (3, 3, .v 8)]))) K79_12
@[simp] def W79_13 := @C.wpe _ _ K79_13.eq_1
def K79_14 : Pl := .st (.act none (.als 9 none 3)) <|
    .st (.act none (.pset (some 9) 3 6 3 (.v 8))) .done
@[simp] def W79_14 := @Pl.wpe _ _ K79_14.eq_1
def K79_15 : C := .pl <| .st (.ext 7 3) <|
    .st (.act none (.px (some 7) (.mv (.v 0)))) <|
    .st (.act none (.ex (some 8) (.call fn_spec_l1Expr [.v 7]))) K79_14
@[simp] def W79_15 := @C.wpe _ _ K79_15.eq_1
def K79_16 : C := .cond 7 (.v 8) K79_13 K79_15
@[simp] def W79_16 := @C.wpe _ _ K79_16.eq_1
def K79_17 : C := .seq (.pl <| .st (.ext 7 2) <|
    .st (.act none (.px (some 7) (.bin .eql (.v 6) (.c (.int .i64 2))))) <|
    .st (.act none (.px (some 8) (.mv (.v 7)))) .done) K79_16
@[simp] def W79_17 := @C.wpe _ _ K79_17.eq_1
def K79_18 : C := .cond 7 (.v 8) K79_11 K79_17
@[simp] def W79_18 := @C.wpe _ _ K79_18.eq_1
def K79_19 : C := .seq (.pl <| .st (.ext 7 2) <|
    .st (.act none (.px (some 7) (.bin .eql (.v 6) (.c (.int .i64 1))))) <|
    .st (.act none (.px (some 8) (.mv (.v 7)))) .done) K79_18
@[simp] def W79_19 := @C.wpe _ _ K79_19.eq_1
def K79_20 : C := .cond 7 (.v 8) K79_9 K79_19
@[simp] def W79_20 := @C.wpe _ _ K79_20.eq_1
def K79_21 : C := .block 0 (.seq (.pl <| .st (.ext 7 2) <|
    .st (.act none (.px (some 7) (.bin .eql (.v 6) (.c (.int .i64 0))))) <|
    .st (.act none (.px (some 8) (.mv (.v 7)))) .done) K79_20)
@[simp] def W79_21 := @C.wpe _ _ K79_21.eq_1
def K79_22 : C := .seq (.pl <| .st (.ext 7 1) <|
    .st (.act none (.px (some 7) (.mv (.v 0)))) <|
    .st (.act none (.ex (some 6) (.call fn_spec_l16Rd_pick [.v 7, .c (.int .i64 4)]))) .done) K79_21
@[simp] def W79_22 := @C.wpe _ _ K79_22.eq_1
def K79_23 : C := .seq (.pl <| .st (.ext 7 1) <|
    .st (.act none (.px (some 7) (.build [.int .i64 0, .int .i64 0, .slice none 0 0] [(0, 1, .c (.int .i64 1)), (1, 1, .c (.int .i64 1))]))) <|
    .st (.act none (.pnew 5 (.c (.agg #[.int .i64 0, .int .i64 0, .slice none 0 0])) [])) <|
    .st (.act none (.pset none 5 0 3 (.v 7))) .done) K79_22
@[simp] def W79_23 := @C.wpe _ _ K79_23.eq_1
def K79_24 : C := .seq (.pl <| .st (.ext 7 3) <|
    .st (.act none (.als 7 none 3)) <|
    .st (.act none (.pget (some 8) (some 7) 3 5 none)) <|
    .st (.act none (.px (some 9) (.build [.int .i64 0, .int .i64 0, .slice none 0 0] [(0, 1, .c (.int .i64 2)), (1, 1, .v 8)]))) <|
    .st (.act none (.pnew 4 (.c (.agg #[.int .i64 0, .int .i64 0, .slice none 0 0])) [])) <|
    .st (.act none (.pset none 4 0 3 (.v 9))) .done) K79_23
@[simp] def W79_24 := @C.wpe _ _ K79_24.eq_1
def K79_25 : Pl := .st (.act none (.als 10 none 3)) <|
    .st (.act none (.pset (some 10) 3 5 1 (.v 9))) .done
@[simp] def W79_25 := @Pl.wpe _ _ K79_25.eq_1
def K79_26 : Pl := .st (.act none (.ex (some 9) (.call fn_spec_l16Rd_num [.v 7, .v 8]))) K79_25
@[simp] def W79_26 := @Pl.wpe _ _ K79_26.eq_1
def K79_27 : C := .seq (.pl <| .st (.ext 7 4) <|
    .st (.act none (.px (some 7) (.mv (.v 0)))) <|
    .st (.act none (.ex (some 8) (.bls 1 4 [.int .i64 0] [(0, 1, .c (.int .i64 0)), (1, 1, .c (.int .i64 1)), (2, 1, .c (.int .i64 0)), (3, 1, .c (.int .i64 2))]))) K79_26) K79_24
@[simp] def W79_27 := @C.wpe _ _ K79_27.eq_1
def K79_28 : C := .cond 7 (.v 9) K79_27 (.skip)
@[simp] def W79_28 := @C.wpe _ _ K79_28.eq_1
def K79_29 : Pl := .st (.act none (.px (some 9) (.bin .gtr (.v 8) (.c (.int .i64 0))))) .done
@[simp] def W79_29 := @Pl.wpe _ _ K79_29.eq_1
def K79_30 : C := .seq (.seq (.pl <| .st (.ext 7 3) <|
    .st (.act none (.px (some 7) (.mv (.v 0)))) <|
    .st (.act none (.ex (some 8) (.call fn_spec_l16Rd_pick [.v 7, .c (.int .i64 3)]))) K79_29) K79_28) K79_7
@[simp] def W79_30 := @C.wpe _ _ K79_30.eq_1
def K79_31 : Pl := .st (.act none (.px (some 15) (.build [.int .i64 0, .int .i64 0, .int .i64 0, .int .i64 0, .slice none 0 0, .int .i64 0, .int .i64 0, .int .i64 0, .slice none 0 0, .int .i64 0] [(0, 1, .v 9), (1, 1, .v 12), (2, 3, .v 14), (5, 1, .c (.int .i64 (-1)))]))) <|
    .st (.act none (.pnew 3 (.c (.agg #[.int .i64 0, .int .i64 0, .int .i64 0, .int .i64 0, .slice none 0 0, .int .i64 0, .int .i64 0, .int .i64 0, .slice none 0 0, .int .i64 0])) [])) <|
    .st (.act none (.pset none 3 0 10 (.v 15))) .done
@[simp] def W79_31 := @Pl.wpe _ _ K79_31.eq_1
def K79_32 : Pl := .st (.act none (.px (some 13) (.mv (.v 0)))) <|
    .st (.act none (.ex (some 14) (.call fn_spec_l2Guard [.v 13]))) K79_31
@[simp] def W79_32 := @Pl.wpe _ _ K79_32.eq_1
def K79_33 : Pl := .st (.act none (.px (some 10) (.mv (.v 0)))) <|
    .st (.act none (.px (some 11) (.mv (.v 1)))) <|
    .st (.act none (.ex (some 12) (.call fn_spec_l16Rd_pick [.v 10, .v 11]))) K79_32
@[simp] def W79_33 := @Pl.wpe _ _ K79_33.eq_1
def K79_34 : C := .seq (.pl <| .st (.ext 7 9) <|
    .st (.act none (.px (some 7) (.mv (.v 0)))) <|
    .st (.act none (.px (some 8) (.mv (.v 1)))) <|
    .st (.act none (.ex (some 9) (.call fn_spec_l16Rd_pick [.v 7, .v 8]))) K79_33) K79_30
@[simp] def W79_34 := @C.wpe _ _ K79_34.eq_1
def B_spec_l2DrawEdge : C := .seq (.pl <| .st (.ext 7 0) <|
    .st (.act none (.pnew 2 (.c (.agg #[.int .i64 0, .int .i64 0, .int .i64 0, .int .i64 0, .slice none 0 0, .int .i64 0, .int .i64 0, .int .i64 0, .slice none 0 0, .int .i64 0])) [])) .done) K79_34
@[simp] def WB_spec_l2DrawEdge := @C.wpe _ _ B_spec_l2DrawEdge.eq_1
def R_spec_l2DrawEdge : FIR := ⟨B_spec_l2DrawEdge, 7, [(2, some (some 10))]⟩
theorem IR_spec_l2DrawEdge : cfun Try.prog H_spec_l2DrawEdge Try.f79 = some R_spec_l2DrawEdge := by kernel_rfl
theorem EN_spec_l2DrawEdge {args : List Value} {h : Heap} {k : Value → Heap → Prop} (hargs : args.length = 2) (hw : B_spec_l2DrawEdge.wp Try.prog (retQ [(2, some (some 10))] k) (env0 args 7) h) : CallE Try.prog fn_spec_l2DrawEdge args h k := enter Try.func79 rfl IR_spec_l2DrawEdge hargs hw

def H_spec_l2Guard : Hint := ⟨[(0, false), (2, true), (3, true), (4, true), (5, true)], []⟩
def K115_1 : C := .seq (.pl <| .st (.ext 5 1) <|
    .st (.act none (.pget (some 5) none 4 0 (some 3))) <|
    .st (.act none (.pset none 1 0 3 (.v 5))) .done) (.ret)
@[simp] def W115_1 := @C.wpe _ _ K115_1.eq_1
def K115_2 : Pl := .st (.act none (.px (some 7) (.build [.int .i64 0, .int .i64 0, .slice none 0 0] [(0, 1, .c (.int .i64 3)), (2, 1, .v 6)]))) <|
    .st (.act none (.pset none 1 0 3 (.v 7))) .done
@[simp] def W115_2 := @Pl.wpe _ _ K115_2.eq_1
def K115_3 : C := .seq (.pl <| .st (.ext 5 3) <|
    .st (.act none (.pget (some 5) none 4 0 (some 3))) <|
    .st (.act none (.ex (some 6) (.bls 3 1 [.int .i64 0, .int .i64 0, .slice none 0 0] [(0, 3, .v 5)]))) K115_2) (.ret)
@[simp] def W115_3 := @C.wpe _ _ K115_3.eq_1
def K115_4 : C := .cond 5 (.v 7) K115_3 (.skip)
@[simp] def W115_4 := @C.wpe _ _ K115_4.eq_1
def K115_5 : Pl := .st (.act none (.px (some 7) (.bin .eql (.v 6) (.c (.int .i64 0))))) .done
@[simp] def W115_5 := @Pl.wpe _ _ K115_5.eq_1
def K115_6 : C := .seq (.seq (.pl <| .st (.ext 5 3) <|
    .st (.act none (.px (some 5) (.mv (.v 0)))) <|
    .st (.act none (.ex (some 6) (.call fn_spec_l16Rd_pick [.v 5, .c (.int .i64 5)]))) K115_5) K115_4) K115_1
@[simp] def W115_6 := @C.wpe _ _ K115_6.eq_1
def K115_7 : Pl := .st (.act none (.px (some 11) (.build [.int .i64 0, .int .i64 0, .slice none 0 0] [(0, 1, .v 7), (2, 1, .v 10)]))) <|
    .st (.act none (.pset none 4 0 3 (.v 11))) .done
@[simp] def W115_7 := @Pl.wpe _ _ K115_7.eq_1
def K115_8 : Pl := .st (.act none (.ex (some 10) (.bls 3 2 [.int .i64 0, .int .i64 0, .slice none 0 0] [(0, 3, .v 8), (3, 3, .v 9)]))) K115_7
@[simp] def W115_8 := @Pl.wpe _ _ K115_8.eq_1
def K115_9 : Pl := .st (.act none (.ex (some 7) (.call fn_spec_l16Rd_num [.v 5, .v 6]))) K115_8
@[simp] def W115_9 := @Pl.wpe _ _ K115_9.eq_1
def K115_10 : Pl := .st (.act none (.px (some 11) (.build [.int .i64 0, .int .i64 0, .slice none 0 0] [(0, 1, .v 7), (2, 1, .v 10)]))) <|
    .st (.act none (.pset none 4 0 3 (.v 11))) .done
@[simp] def W115_10 := @Pl.wpe _ _ K115_10.eq_1
def K115_11 : Pl := .st (.act none (.ex (some 7) (.call fn_spec_l16Rd_num [.v 5, .v 6]))) K115_10
@[simp] def W115_11 := @Pl.wpe _ _ K115_11.eq_1
def K115_12 : Pl := .st (.act none (.ex (some 10) (.bls 3 2 [.int .i64 0, .int .i64 0, .slice none 0 0] [(0, 3, .v 8), (3, 3, .v 9)]))) K115_11
@[simp] def W115_12 := @Pl.wpe _ _ K115_12.eq_1
def K115_13 : Pl := .both K115_9 K115_12
@[simp] def W115_13 := @Pl.wpe _ _ K115_13.eq_1
def K115_14 : Pl := .st (.act none (.ex (some 6) (.bls 1 3 [.int .i64 0] [(0, 1, .c (.int .i64 6)), (1, 1, .c (.int .i64 7)), (2, 1, .c (.int .i64 6))]))) K115_13
@[simp] def W115_14 := @Pl.wpe _ _ K115_14.eq_1
def K115_15 : Pl := .st (.act none (.px (some 11) (.build [.int .i64 0, .int .i64 0, .slice none 0 0] [(0, 1, .v 7), (2, 1, .v 10)]))) <|
    .st (.act none (.pset none 4 0 3 (.v 11))) .done
@[simp] def W115_15 := @Pl.wpe _ _ K115_15.eq_1
def K115_16 : Pl := .st (.act none (.ex (some 7) (.call fn_spec_l16Rd_num [.v 5, .v 6]))) K115_15
@[simp] def W115_16 := @Pl.wpe _ _ K115_16.eq_1
def K115_17 : Pl := .st (.act none (.ex (some 6) (.bls 1 3 [.int .i64 0] [(0, 1, .c (.int .i64 6)), (1, 1, .c (.int .i64 7)), (2, 1, .c (.int .i64 6))]))) K115_16
@[simp] def W115_17 := @Pl.wpe _ _ K115_17.eq_1
def K115_18 : Pl := .st (.act none (.ex (some 10) (.bls 3 2 [.int .i64 0, .int .i64 0, .slice none 0 0] [(0, 3, .v 8), (3, 3, .v 9)]))) K115_17
@[simp] def W115_18 := @Pl.wpe _ _ K115_18.eq_1
def K115_19 : C := .seq (.pl <| .st (.ext 5 7) <|
    .st (.act none (.px (some 5) (.mv (.v 0)))) <|
    .st (.act none (.pget (some 8) none 2 0 (some 3))) <|
    .st (.act none (.pget (some 9) none 3 0 (some 3))) <|
    .st (.act none (.pnew 4 (.c (.agg #[.int .i64 0, .int .i64 0, .slice none 0 0])) [])) <|
    .both K115_14 K115_18) K115_6
@[simp] def W115_19 := @C.wpe _ _ K115_19.eq_1
def K115_20 : Pl := .st (.act none (.px (some 7) (.build [.int .i64 0, .int .i64 0, .slice none 0 0] [(0, 1, .c (.int .i64 1)), (1, 1, .v 6)]))) <|
    .st (.act none (.pnew 3 (.c (.agg #[.int .i64 0, .int .i64 0, .slice none 0 0])) [])) <|
    .st (.act none (.pset none 3 0 3 (.v 7))) .done
@[simp] def W115_20 := @Pl.wpe _ _ K115_20.eq_1
def K115_21 : C := .seq (.pl <| .st (.ext 5 3) <|
    .st (.act none (.px (some 5) (.mv (.v 0)))) <|
    .st (.act none (.ex (some 6) (.call fn_spec_l16Rd_pick [.v 5, .c (.int .i64 3)]))) K115_20) K115_19
@[simp] def W115_21 := @C.wpe _ _ K115_21.eq_1
def K115_22 : Pl := .st (.act none (.px (some 8) (.build [.int .i64 0, .int .i64 0, .slice none 0 0] [(0, 1, .c (.int .i64 2)), (1, 1, .v 7)]))) <|
    .st (.act none (.pnew 2 (.c (.agg #[.int .i64 0, .int .i64 0, .slice none 0 0])) [])) <|
    .st (.act none (.pset none 2 0 3 (.v 8))) .done
@[simp] def W115_22 := @Pl.wpe _ _ K115_22.eq_1
def K115_23 : Pl := .st (.act none (.ex (some 7) (.call fn_spec_l16Rd_num [.v 5, .v 6]))) K115_22
@[simp] def W115_23 := @Pl.wpe _ _ K115_23.eq_1
def K115_24 : C := .seq (.pl <| .st (.ext 5 4) <|
    .st (.act none (.px (some 5) (.mv (.v 0)))) <|
    .st (.act none (.ex (some 6) (.bls 1 4 [.int .i64 0] [(0, 1, .c (.int .i64 0)), (1, 1, .c (.int .i64 1)), (2, 1, .c (.int .i64 0)), (3, 1, .c (.int .i64 2))]))) K115_23) K115_21
@[simp] def W115_24 := @C.wpe _ _ K115_24.eq_1
def K115_25 : C := .seq (.pl <| .st (.ext 5 1) <|
    .st (.act none (.px (some 5) (.build [.int .i64 0, .int .i64 0, .slice none 0 0] [(0, 1, .c (.int .i64 1)), (1, 1, .c (.int .i64 1))]))) <|
    .st (.act none (.pset none 1 0 3 (.v 5))) .done) (.ret)
@[simp] def W115_25 := @C.wpe _ _ K115_25.eq_1
def K115_26 : C := .cond 5 (.v 7) K115_25 (.skip)
@[simp] def W115_26 := @C.wpe _ _ K115_26.eq_1
def K115_27 : Pl := .st (.act none (.px (some 7) (.bin .eql (.v 6) (.c (.int .i64 0))))) .done
@[simp] def W115_27 := @Pl.wpe _ _ K115_27.eq_1
def K115_28 : C := .seq (.seq (.pl <| .st (.ext 5 3) <|
    .st (.act none (.px (some 5) (.mv (.v 0)))) <|
    .st (.act none (.ex (some 6) (.call fn_spec_l16Rd_pick [.v 5, .c (.int .i64 3)]))) K115_27) K115_26) K115_24
@[simp] def W115_28 := @C.wpe _ _ K115_28.eq_1
def B_spec_l2Guard : C := .seq (.pl <| .st (.ext 5 0) <|
    .st (.act none (.pnew 1 (.c (.agg #[.int .i64 0, .int .i64 0, .slice none 0 0])) [])) .done) K115_28
@[simp] def WB_spec_l2Guard := @C.wpe _ _ B_spec_l2Guard.eq_1
def R_spec_l2Guard : FIR := ⟨B_spec_l2Guard, 5, [(1, some (some 3))]⟩
theorem IR_spec_l2Guard : cfun Try.prog H_spec_l2Guard Try.f115 = some R_spec_l2Guard := by kernel_rfl
theorem EN_spec_l2Guard {args : List Value} {h : Heap} {k : Value → Heap → Prop} (hargs : args.length = 1) (hw : B_spec_l2Guard.wp Try.prog (retQ [(1, some (some 3))] k) (env0 args 5) h) : CallE Try.prog fn_spec_l2Guard args h k := enter Try.func115 rfl IR_spec_l2Guard hargs hw

def H_spec_l2Mutate : Hint := ⟨[(0, false), (1, false), (3, true), (4, true), (5, true), (6, false), (31, false)], []⟩
def K40_1 : C := .seq (.pl <| .st (.ext 7 1) <|
    .st (.act none (.pget (some 7) none 4 0 (some 2))) <|
    .st (.act none (.pset none 3 0 2 (.v 7))) .done) (.ret)
@[simp] def W40_1 := @C.wpe _ _ K40_1.eq_1
def K40_2 : Pl := .st (.act none (.als 11 none 4)) <|
    .st (.act none (.pset (some 11) 4 0 1 (.v 10))) .done
@[simp] def W40_2 := @Pl.wpe _ _ K40_2.eq_1
def K40_3 : C := .pl <| .st (.ext 7 5) <|
    .st (.act none (.als 7 none 4)) <|
    .st (.act none (.pget (some 8) (some 7) 4 0 none)) <|
    .st (.act none (.psl 9 [.int .i64 0] [(0, 1, .c (.int .i64 0))])) <|
    .st (.act none (.ex (some 10) (.app 8 1 [.int .i64 0] (.o (.v 8)) (.p 1 9)))) K40_2
@[simp] def W40_3 := @C.wpe _ _ K40_3.eq_1
def K40_4 : Pl := .st (.act none (.als 15 none 4)) <|
    .st (.act none (.pset (some 15) 4 1 1 (.v 14))) .done
@[simp] def W40_4 := @Pl.wpe _ _ K40_4.eq_1
def K40_5 : Pl := .st (.act none (.px (some 12) (.build [.int .i64 0, .slice none 0 0] [(0, 1, .v 11)]))) <|
    .st (.act none (.psl 13 [.int .i64 0, .slice none 0 0] [(0, 2, .v 12)])) <|
    .st (.act none (.ex (some 14) (.app 32 2 [.int .i64 0, .slice none 0 0] (.o (.v 8)) (.p 1 13)))) K40_4
@[simp] def W40_5 := @Pl.wpe _ _ K40_5.eq_1
def K40_6 : Pl := .st (.act none (.ex (some 11) (.call fn_spec_l16Rd_num [.v 9, .v 10]))) K40_5
@[simp] def W40_6 := @Pl.wpe _ _ K40_6.eq_1
def K40_7 : C := .pl <| .st (.ext 7 9) <|
    .st (.act none (.als 7 none 4)) <|
    .st (.act none (.pget (some 8) (some 7) 4 1 none)) <|
    .st (.act none (.px (some 9) (.mv (.v 0)))) <|
    .st (.act none (.ex (some 10) (.bls 1 4 [.int .i64 0] [(0, 1, .c (.int .i64 0)), (1, 1, .c (.int .i64 1)), (2, 1, .c (.int .i64 4)), (3, 1, .c (.int .i64 5))]))) K40_6
@[simp] def W40_7 := @C.wpe _ _ K40_7.eq_1
def K40_8 : Pl := .st (.re 12 (.v 11) none none) <|
    .st (.act none (.px (some 17) (.ia 10 (.v 12) (.c (.int .i64 0))))) <|
    .st (.act none (.px (some 18) (.fa 2 (.v 17)))) <|
    .st (.act none (.ex none (.store 3 (.v 18) (.v 16)))) .done
@[simp] def W40_8 := @Pl.wpe _ _ K40_8.eq_1
def K40_9 : Pl := .st (.re 12 (.v 11) none none) <|
    .st (.act none (.ex (some 16) (.call fn_spec_l1Mutate [.v 13, .v 15]))) K40_8
@[simp] def W40_9 := @Pl.wpe _ _ K40_9.eq_1
def K40_10 : C := .pl <| .st (.ext 7 12) <|
    .st (.act none (.als 7 none 4)) <|
    .st (.act none (.pget (some 8) (some 7) 4 1 none)) <|
    .st (.act none (.px (some 9) (.mv (.v 5)))) <|
    .st (.act none (.px (some 10) (.ia 2 (.v 8) (.v 9)))) <|
    .st (.act none (.px (some 11) (.fa 1 (.v 10)))) <|
    .st (.act none (.ld (some 12) (.v 11) none)) <|
    .st (.act none (.px (some 13) (.mv (.v 0)))) <|
    .st (.act none (.px (some 14) (.mv (.v 0)))) <|
    .st (.act none (.ex (some 15) (.call fn_spec_l1Expr [.v 14]))) K40_9
@[simp] def W40_10 := @C.wpe _ _ K40_10.eq_1
def K40_11 : C := .cond 7 (.v 8) K40_10 (.skip)
@[simp] def W40_11 := @C.wpe _ _ K40_11.eq_1
def K40_12 : C := .seq (.pl <| .st (.ext 7 2) <|
    .st (.act none (.px (some 7) (.mv (.v 5)))) <|
    .st (.act none (.px (some 8) (.bin .geq (.v 7) (.c (.int .i64 0))))) .done) K40_11
@[simp] def W40_12 := @C.wpe _ _ K40_12.eq_1
def K40_13 : Pl := .st (.re 12 (.v 11) none none) <|
    .st (.act none (.px (some 16) (.ia 10 (.v 12) (.c (.int .i64 0))))) <|
    .st (.act none (.px (some 17) (.fa 5 (.v 16)))) <|
    .st (.act none (.ex none (.store 1 (.v 17) (.v 15)))) .done
@[simp] def W40_13 := @Pl.wpe _ _ K40_13.eq_1
def K40_14 : Pl := .st (.re 12 (.v 11) none none) <|
    .st (.act none (.ex (some 15) (.call fn_spec_l16Rd_num [.v 13, .v 14]))) K40_13
@[simp] def W40_14 := @Pl.wpe _ _ K40_14.eq_1
def K40_15 : C := .pl <| .st (.ext 7 11) <|
    .st (.act none (.als 7 none 4)) <|
    .st (.act none (.pget (some 8) (some 7) 4 1 none)) <|
    .st (.act none (.px (some 9) (.mv (.v 5)))) <|
    .st (.act none (.px (some 10) (.ia 2 (.v 8) (.v 9)))) <|
    .st (.act none (.px (some 11) (.fa 1 (.v 10)))) <|
    .st (.act none (.ld (some 12) (.v 11) none)) <|
    .st (.act none (.px (some 13) (.mv (.v 0)))) <|
    .st (.act none (.ex (some 14) (.bls 1 4 [.int .i64 0] [(0, 1, .c (.int .i64 (-1))), (1, 1, .c (.int .i64 3)), (2, 1, .c (.int .i64 0)), (3, 1, .c (.int .i64 (-2)))]))) K40_14
@[simp] def W40_15 := @C.wpe _ _ K40_15.eq_1
def K40_16 : C := .cond 7 (.v 8) K40_15 (.skip)
@[simp] def W40_16 := @C.wpe _ _ K40_16.eq_1
def K40_17 : C := .seq (.pl <| .st (.ext 7 2) <|
    .st (.act none (.px (some 7) (.mv (.v 5)))) <|
    .st (.act none (.px (some 8) (.bin .geq (.v 7) (.c (.int .i64 0))))) .done) K40_16
@[simp] def W40_17 := @C.wpe _ _ K40_17.eq_1
def K40_18 : Pl := .st (.re 12 (.v 11) none none) <|
    .st (.act none (.px (some 16) (.ia 10 (.v 12) (.c (.int .i64 0))))) <|
    .st (.act none (.px (some 17) (.fa 9 (.v 16)))) <|
    .st (.act none (.ex none (.store 1 (.v 17) (.v 15)))) .done
@[simp] def W40_18 := @Pl.wpe _ _ K40_18.eq_1
def K40_19 : Pl := .st (.re 12 (.v 11) none none) <|
    .st (.act none (.ex (some 15) (.call fn_spec_l16Rd_num [.v 13, .v 14]))) K40_18
@[simp] def W40_19 := @Pl.wpe _ _ K40_19.eq_1
def K40_20 : C := .pl <| .st (.ext 7 11) <|
    .st (.act none (.als 7 none 4)) <|
    .st (.act none (.pget (some 8) (some 7) 4 1 none)) <|
    .st (.act none (.px (some 9) (.mv (.v 5)))) <|
    .st (.act none (.px (some 10) (.ia 2 (.v 8) (.v 9)))) <|
    .st (.act none (.px (some 11) (.fa 1 (.v 10)))) <|
    .st (.act none (.ld (some 12) (.v 11) none)) <|
    .st (.act none (.px (some 13) (.mv (.v 0)))) <|
    .st (.act none (.ex (some 14) (.bls 1 4 [.int .i64 0] [(0, 1, .c (.int .i64 3)), (1, 1, .c (.int .i64 (-3))), (2, 1, .c (.int .i64 2)), (3, 1, .c (.int .i64 (-9223372036854775808)))]))) K40_19
@[simp] def W40_20 := @C.wpe _ _ K40_20.eq_1
def K40_21 : C := .cond 7 (.v 8) K40_20 (.skip)
@[simp] def W40_21 := @C.wpe _ _ K40_21.eq_1
def K40_22 : C := .seq (.pl <| .st (.ext 7 2) <|
    .st (.act none (.px (some 7) (.mv (.v 5)))) <|
    .st (.act none (.px (some 8) (.bin .geq (.v 7) (.c (.int .i64 0))))) .done) K40_21
@[simp] def W40_22 := @C.wpe _ _ K40_22.eq_1
def K40_23 : Pl := .st (.re 12 (.v 11) none none) <|
    .st (.act none (.px (some 16) (.ia 10 (.v 12) (.c (.int .i64 0))))) <|
    .st (.act none (.px (some 17) (.fa 1 (.v 16)))) <|
    .st (.act none (.ex none (.store 1 (.v 17) (.v 15)))) .done
@[simp] def W40_23 := @Pl.wpe _ _ K40_23.eq_1
def K40_24 : Pl := .st (.re 12 (.v 11) none none) <|
    .st (.act none (.ex (some 15) (.call fn_spec_l16Rd_num [.v 13, .v 14]))) K40_23
@[simp] def W40_24 := @Pl.wpe _ _ K40_24.eq_1
def K40_25 : C := .pl <| .st (.ext 7 11) <|
    .st (.act none (.als 7 none 4)) <|
    .st (.act none (.pget (some 8) (some 7) 4 1 none)) <|
    .st (.act none (.px (some 9) (.mv (.v 5)))) <|
    .st (.act none (.px (some 10) (.ia 2 (.v 8) (.v 9)))) <|
    .st (.act none (.px (some 11) (.fa 1 (.v 10)))) <|
    .st (.act none (.ld (some 12) (.v 11) none)) <|
    .st (.act none (.px (some 13) (.mv (.v 0)))) <|
    .st (.act none (.ex (some 14) (.bls 1 4 [.int .i64 0] [(0, 1, .c (.int .i64 (-1))), (1, 1, .c (.int .i64 4)), (2, 1, .c (.int .i64 0)), (3, 1, .c (.int .i64 9223372036854775807))]))) K40_24
@[simp] def W40_25 := @C.wpe _ _ K40_25.eq_1
def K40_26 : C := .cond 7 (.v 8) K40_25 (.skip)
@[simp] def W40_26 := @C.wpe _ _ K40_26.eq_1
def K40_27 : C := .seq (.pl <| .st (.ext 7 2) <|
    .st (.act none (.px (some 7) (.mv (.v 5)))) <|
    .st (.act none (.px (some 8) (.bin .geq (.v 7) (.c (.int .i64 0))))) .done) K40_26
@[simp] def W40_27 := @C.wpe _ _ K40_27.eq_1
def K40_28 : C := .seq (.pl <| .st (.ext 7 1) <|
    .st (.act none (.px (some 7) (.build [.slice none 0 0, .slice none 0 0] []))) <|
    .st (.act none (.pset none 3 0 2 (.v 7))) .done) (.ret)
@[simp] def W40_28 := @C.wpe _ _ K40_28.eq_1
def K40_29 : C := .cond 7 (.v 8) K40_28 (.skip)
@[simp] def W40_29 := @C.wpe _ _ K40_29.eq_1
def K40_30 : C := .seq (.pl <| .st (.ext 7 2) <|
    .st (.act none (.px (some 7) (.bin .eql (.v 6) (.c (.int .i64 6))))) <|
    .st (.act none (.px (some 8) (.mv (.v 7)))) .done) K40_29
@[simp] def W40_30 := @C.wpe _ _ K40_30.eq_1
def K40_31 : C := .cond 7 (.v 8) K40_27 K40_30
@[simp] def W40_31 := @C.wpe _ _ K40_31.eq_1
def K40_32 : C := .seq (.pl <| .st (.ext 7 2) <|
    .st (.act none (.px (some 7) (.bin .eql (.v 6) (.c (.int .i64 5))))) <|
    .st (.act none (.px (some 8) (.mv (.v 7)))) .done) K40_31
@[simp] def W40_32 := @C.wpe _ _ K40_32.eq_1
def K40_33 : C := .cond 7 (.v 8) K40_22 K40_32
@[simp] def W40_33 := @C.wpe _ _ K40_33.eq_1
def K40_34 : C := .seq (.pl <| .st (.ext 7 2) <|
    .st (.act none (.px (some 7) (.bin .eql (.v 6) (.c (.int .i64 4))))) <|
    .st (.act none (.px (some 8) (.mv (.v 7)))) .done) K40_33
@[simp] def W40_34 := @C.wpe _ _ K40_34.eq_1
def K40_35 : C := .cond 7 (.v 8) K40_17 K40_34
@[simp] def W40_35 := @C.wpe _ _ K40_35.eq_1
def K40_36 : C := .seq (.pl <| .st (.ext 7 2) <|
    .st (.act none (.px (some 7) (.bin .eql (.v 6) (.c (.int .i64 3))))) <|
    .st (.act none (.px (some 8) (.mv (.v 7)))) .done) K40_35
@[simp] def W40_36 := @C.wpe _ _ K40_36.eq_1
def K40_37 : C := .cond 7 (.v 8) K40_12 K40_36
@[simp] def W40_37 := @C.wpe _ _ K40_37.eq_1
def K40_38 : C := .seq (.pl <| .st (.ext 7 2) <|
    .st (.act none (.px (some 7) (.bin .eql (.v 6) (.c (.int .i64 2))))) <|
    .st (.act none (.px (some 8) (.mv (.v 7)))) .done) K40_37
@[simp] def W40_38 := @C.wpe _ _ K40_38.eq_1
def K40_39 : C := .cond 7 (.v 8) K40_7 K40_38
@[simp] def W40_39 := @C.wpe _ _ K40_39.eq_1
def K40_40 : C := .seq (.pl <| .st (.ext 7 2) <|
    .st (.act none (.px (some 7) (.bin .eql (.v 6) (.c (.int .i64 1))))) <|
    .st (.act none (.px (some 8) (.mv (.v 7)))) .done) K40_39
@[simp] def W40_40 := @C.wpe _ _ K40_40.eq_1
def K40_41 : C := .cond 7 (.v 8) K40_3 K40_40
@[simp] def W40_41 := @C.wpe _ _ K40_41.eq_1
def K40_42 : C := .block 0 (.seq (.pl <| .st (.ext 7 2) <|
    .st (.act none (.px (some 7) (.bin .eql (.v 6) (.c (.int .i64 0))))) <|
    .st (.act none (.px (some 8) (.mv (.v 7)))) .done) K40_41)
@[simp] def W40_42 := @C.wpe _ _ K40_42.eq_1
def K40_43 : C := .seq (.seq (.pl <| .st (.ext 7 1) <|
    .st (.act none (.px (some 7) (.mv (.v 0)))) <|
    .st (.act none (.ex (some 6) (.call fn_spec_l16Rd_pick [.v 7, .c (.int .i64 50)]))) .done) K40_42) K40_1
@[simp] def W40_43 := @C.wpe _ _ K40_43.eq_1
def K40_44 : C := .pl <| .st (.ext 7 0) <|
    .st (.act none (.px (some 5) (.mv (.c (.int .i64 (-1)))))) .done
@[simp] def W40_44 := @C.wpe _ _ K40_44.eq_1
def K40_45 : C := .cond 7 (.v 21) K40_44 (.skip)
@[simp] def W40_45 := @C.wpe _ _ K40_45.eq_1
def K40_46 : C := .seq (.seq (.pl <| .st (.ext 7 15) <|
    .st (.act none (.px (some 7) (.mv (.v 5)))) <|
    .st (.act none (.als 8 none 2)) <|
    .st (.act none (.pget (some 9) (some 8) 2 1 none)) <|
    .st (.act none (.px (some 10) (.lenV (.v 9)))) <|
    .st (.act none (.px (some 11) (.bin .eql (.v 7) (.v 10)))) <|
    .st (.act none (.px (some 12) (.mv (.v 11)))) <|
    .st (.act (some (.v 12, false)) (.als 13 none 4)) <|
    .st (.act (some (.v 12, false)) (.pget (some 14) (some 13) 4 1 none)) <|
    .st (.act (some (.v 12, false)) (.px (some 15) (.mv (.v 5)))) <|
    .st (.act (some (.v 12, false)) (.px (some 16) (.ia 2 (.v 14) (.v 15)))) <|
    .st (.act (some (.v 12, false)) (.px (some 17) (.fa 1 (.v 16)))) <|
    .st (.act (some (.v 12, false)) (.ld (some 18) (.v 17) none)) <|
    .st (.act (some (.v 12, false)) (.px (some 19) (.lenV (.v 18)))) <|
    .st (.act (some (.v 12, false)) (.px (some 20) (.bin .eql (.v 19) (.c (.int .i64 0))))) <|
    .st (.act none (.px (some 21) (.pick (.v 12) (.c (.bool true)) (.v 20)))) .done) K40_45) K40_43
@[simp] def W40_46 := @C.wpe _ _ K40_46.eq_1
def K40_47 : Pl := .st (.act none (.px (some 5) (.mv (.v 12)))) .done
@[simp] def W40_47 := @Pl.wpe _ _ K40_47.eq_1
def K40_48 : C := .seq (.pl <| .st (.ext 7 6) <|
    .st (.act none (.px (some 7) (.mv (.v 0)))) <|
    .st (.act none (.als 8 none 2)) <|
    .st (.act none (.pget (some 9) (some 8) 2 1 none)) <|
    .st (.act none (.px (some 10) (.lenV (.v 9)))) <|
    .st (.act none (.px (some 11) (.bin .add (.v 10) (.c (.int .i64 1))))) <|
    .st (.act none (.ex (some 12) (.call fn_spec_l16Rd_pick [.v 7, .v 11]))) K40_47) K40_46
@[simp] def W40_48 := @C.wpe _ _ K40_48.eq_1
def K40_49 : Pl := .st (.act none (.pnew 4 (.c (.agg #[.slice none 0 0, .slice none 0 0])) [])) <|
    .st (.act none (.pset none 4 0 2 (.v 8))) .done
@[simp] def W40_49 := @Pl.wpe _ _ K40_49.eq_1
def K40_50 : C := .seq (.pl <| .st (.ext 7 2) <|
    .st (.act none (.pget (some 7) none 2 0 (some 2))) <|
    .st (.act none (.ex (some 8) (.call fn_spec_l2Copy [.v 7]))) K40_49) K40_48
@[simp] def W40_50 := @C.wpe _ _ K40_50.eq_1
def B_spec_l2Mutate : C := .seq (.pl <| .st (.ext 7 0) <|
    .st (.act none (.pnew 2 (.v 1) [])) <|
    .st (.act none (.pnew 3 (.c (.agg #[.slice none 0 0, .slice none 0 0])) [])) .done) K40_50
@[simp] def WB_spec_l2Mutate := @C.wpe _ _ B_spec_l2Mutate.eq_1
def R_spec_l2Mutate : FIR := ⟨B_spec_l2Mutate, 7, [(3, some (some 2))]⟩
theorem IR_spec_l2Mutate : cfun Try.prog H_spec_l2Mutate Try.f40 = some R_spec_l2Mutate := by kernel_rfl
theorem EN_spec_l2Mutate {args : List Value} {h : Heap} {k : Value → Heap → Prop} (hargs : args.length = 2) (hw : B_spec_l2Mutate.wp Try.prog (retQ [(3, some (some 2))] k) (env0 args 7) h) : CallE Try.prog fn_spec_l2Mutate args h k := enter Try.func40 rfl IR_spec_l2Mutate hargs hw

def H_spec_l2None : Hint := ⟨[(0, false), (1, true), (2, false)], []⟩
def K140_1 : C := .seq (.pl <| .st (.ext 3 14) <|
    .st (.act none (.als 3 none 1)) <|
    .st (.act none (.pget (some 4) (some 3) 1 0 none)) <|
    .st (.act none (.px (some 5) (.bin .eql (.v 4) (.c (.int .i64 0))))) <|
    .st (.act none (.px (some 6) (.mv (.v 5)))) <|
    .st (.act (some (.v 6, true)) (.als 7 none 1)) <|
    .st (.act (some (.v 6, true)) (.pget (some 8) (some 7) 1 1 none)) <|
    .st (.act (some (.v 6, true)) (.px (some 9) (.bin .eql (.v 8) (.c (.int .i64 0))))) <|
    .st (.act none (.px (some 10) (.pick (.v 6) (.v 9) (.c (.bool false))))) <|
    .st (.act none (.px (some 11) (.mv (.v 10)))) <|
    .st (.act (some (.v 11, true)) (.als 12 none 1)) <|
    .st (.act (some (.v 11, true)) (.pget (some 13) (some 12) 1 2 none)) <|
    .st (.act (some (.v 11, true)) (.px (some 14) (.lenV (.v 13)))) <|
    .st (.act (some (.v 11, true)) (.px (some 15) (.bin .eql (.v 14) (.c (.int .i64 0))))) <|
    .st (.act none (.px (some 16) (.pick (.v 11) (.v 15) (.c (.bool false))))) <|
    .st (.act none (.px (some 2) (.mv (.v 16)))) .done) (.ret)
@[simp] def W140_1 := @C.wpe _ _ K140_1.eq_1
def B_spec_l2None : C := .seq (.pl <| .st (.ext 3 0) <|
    .st (.act none (.pnew 1 (.v 0) [])) <|
    .st (.act none (.px (some 2) (.mv (.c (.bool false))))) .done) K140_1
@[simp] def WB_spec_l2None := @C.wpe _ _ B_spec_l2None.eq_1
def R_spec_l2None : FIR := ⟨B_spec_l2None, 3, [(2, none)]⟩
theorem IR_spec_l2None : cfun Try.prog H_spec_l2None Try.f140 = some R_spec_l2None := by kernel_rfl
theorem EN_spec_l2None {args : List Value} {h : Heap} {k : Value → Heap → Prop} (hargs : args.length = 1) (hw : B_spec_l2None.wp Try.prog (retQ [(2, none)] k) (env0 args 3) h) : CallE Try.prog fn_spec_l2None args h k := enter Try.func140 rfl IR_spec_l2None hargs hw

def H_spec_l2Process : Hint := ⟨[(0, false), (1, true), (2, false), (3, false)], [[0, 2]]⟩
def K110_1 : C := .seq (.pl <| .st (.ext 4 14) <|
    .st (.act none (.als 4 none 1)) <|
    .st (.act none (.pget (some 5) (some 4) 1 0 none)) <|
    .st (.act none (.px (some 6) (.bin .geq (.v 5) (.c (.int .i64 1))))) <|
    .st (.act none (.px (some 7) (.mv (.v 6)))) <|
    .st (.act (some (.v 7, true)) (.als 8 none 1)) <|
    .st (.act (some (.v 7, true)) (.pget (some 9) (some 8) 1 0 none)) <|
    .st (.act (some (.v 7, true)) (.px (some 10) (.bin .leq (.v 9) (.c (.int .i64 4))))) <|
    .st (.act none (.px (some 11) (.pick (.v 7) (.v 10) (.c (.bool false))))) <|
    .st (.act none (.px (some 12) (.mv (.v 11)))) <|
    .st (.act (some (.v 12, true)) (.als 13 none 1)) <|
    .st (.act (some (.v 12, true)) (.pget (some 14) (some 13) 1 1 none)) <|
    .st (.act (some (.v 12, true)) (.px (some 15) (.lenV (.v 14)))) <|
    .st (.act (some (.v 12, true)) (.px (some 16) (.bin .leq (.v 15) (.c (.int .i64 6))))) <|
    .st (.act none (.px (some 17) (.pick (.v 12) (.v 16) (.c (.bool false))))) <|
    .st (.act none (.px (some 2) (.mv (.v 17)))) .done) (.ret)
@[simp] def W110_1 := @C.wpe _ _ K110_1.eq_1
def K110_2 : C := .pl <| .st (.ext 4 2) <|
    .st (.act none (.px (some 4) (.mv (.v 3)))) <|
    .st (.act none (.px (some 5) (.bin .add (.v 4) (.c (.int .i64 1))))) <|
    .st (.act none (.px (some 3) (.mv (.v 5)))) .done
@[simp] def W110_2 := @C.wpe _ _ K110_2.eq_1
def K110_3 : C := .seq (.pl <| .st (.ext 4 0) <|
    .st (.act none (.px (some 2) (.mv (.c (.bool false))))) .done) (.ret)
@[simp] def W110_3 := @C.wpe _ _ K110_3.eq_1
def K110_4 : C := .cond 4 (.v 12) K110_3 (.skip)
@[simp] def W110_4 := @C.wpe _ _ K110_4.eq_1
def K110_5 : Pl := .st (.act none (.px (some 12) (.un .not (.v 11)))) .done
@[simp] def W110_5 := @Pl.wpe _ _ K110_5.eq_1
def K110_6 : C := .seq (.block 1 (.seq (.pl <| .st (.ext 4 9) <|
    .st (.act none (.als 4 none 1)) <|
    .st (.act none (.pget (some 5) (some 4) 1 1 none)) <|
    .st (.act none (.px (some 6) (.mv (.v 3)))) <|
    .st (.act none (.px (some 7) (.ia 10 (.v 5) (.v 6)))) <|
    .st (.act none (.ld (some 8) (.v 7) (some 10))) <|
    .st (.act none (.als 9 none 1)) <|
    .st (.act none (.pget (some 10) (some 9) 1 0 none)) <|
    .st (.act none (.ex (some 11) (.call fn_spec_EdgeValid [.v 8, .v 10]))) K110_5) K110_4)) K110_2
@[simp] def W110_6 := @C.wpe _ _ K110_6.eq_1
def K110_7 : C := .cond 4 (.v 8) (.skip) (.exit 0)
@[simp] def W110_7 := @C.wpe _ _ K110_7.eq_1
def K110_8 : C := .seq (.seq (.pl <| .st (.ext 4 5) <|
    .st (.act none (.px (some 4) (.mv (.v 3)))) <|
    .st (.act none (.als 5 none 1)) <|
    .st (.act none (.pget (some 6) (some 5) 1 1 none)) <|
    .st (.act none (.px (some 7) (.lenV (.v 6)))) <|
    .st (.act none (.px (some 8) (.bin .lss (.v 4) (.v 7)))) .done) K110_7) K110_6
@[simp] def W110_8 := @C.wpe _ _ K110_8.eq_1
def K110_9 : C := .block 0 (.loop 4 [0, 2] K110_8)
@[simp] def W110_9 := @C.wpe _ _ K110_9.eq_1
def K110_10 : C := .seq (.seq (.pl <| .st (.ext 4 0) <|
    .st (.act none (.px (some 3) (.mv (.c (.int .i64 0))))) .done) K110_9) K110_1
@[simp] def W110_10 := @C.wpe _ _ K110_10.eq_1
def B_spec_l2Process : C := .seq (.pl <| .st (.ext 4 0) <|
    .st (.act none (.pnew 1 (.v 0) [])) <|
    .st (.act none (.px (some 2) (.mv (.c (.bool false))))) .done) K110_10
@[simp] def WB_spec_l2Process := @C.wpe _ _ B_spec_l2Process.eq_1
def R_spec_l2Process : FIR := ⟨B_spec_l2Process, 4, [(2, none)]⟩
theorem IR_spec_l2Process : cfun Try.prog H_spec_l2Process Try.f110 = some R_spec_l2Process := by kernel_rfl
theorem EN_spec_l2Process {args : List Value} {h : Heap} {k : Value → Heap → Prop} (hargs : args.length = 1) (hw : B_spec_l2Process.wp Try.prog (retQ [(2, none)] k) (env0 args 4) h) : CallE Try.prog fn_spec_l2Process args h k := enter Try.func110 rfl IR_spec_l2Process hargs hw

def H_spec_l2System : Hint := ⟨[(0, false), (2, true), (3, true), (4, false), (5, true), (6, false)], [[4, 5], []]⟩
def K41_1 : C := .seq (.pl <| .st (.ext 6 1) <|
    .st (.act none (.pget (some 6) none 2 0 (some 2))) <|
    .st (.act none (.pset none 1 0 2 (.v 6))) .done) (.ret)
@[simp] def W41_1 := @C.wpe _ _ K41_1.eq_1
def K41_2 : C := .pl <| .st (.ext 6 2) <|
    .st (.act none (.px (some 6) (.mv (.v 3)))) <|
    .st (.act none (.px (some 7) (.bin .sub (.v 6) (.c (.int .i64 1))))) <|
    .st (.act none (.px (some 3) (.mv (.v 7)))) .done
@[simp] def W41_2 := @C.wpe _ _ K41_2.eq_1
def K41_3 : Pl := .st (.act none (.als 11 none 2)) <|
    .st (.act none (.pset (some 11) 2 1 1 (.v 10))) .done
@[simp] def W41_3 := @Pl.wpe _ _ K41_3.eq_1
def K41_4 : C := .pl <| .st (.ext 6 6) <|
    .st (.act none (.als 6 none 2)) <|
    .st (.act none (.pget (some 7) (some 6) 2 1 none)) <|
    .st (.act none (.pget (some 8) none 4 0 (some 2))) <|
    .st (.act none (.psl 9 [.int .i64 0, .slice none 0 0] [(0, 2, .v 8)])) <|
    .st (.act none (.ex (some 10) (.app 32 2 [.int .i64 0, .slice none 0 0] (.o (.v 7)) (.p 1 9)))) K41_3
@[simp] def W41_4 := @C.wpe _ _ K41_4.eq_1
def K41_5 : C := .pl <| .st (.ext 6 2) <|
    .st (.act none (.px (some 6) (.mv (.v 5)))) <|
    .st (.act none (.px (some 7) (.bin .sub (.v 6) (.c (.int .i64 1))))) <|
    .st (.act none (.px (some 5) (.mv (.v 7)))) .done
@[simp] def W41_5 := @C.wpe _ _ K41_5.eq_1
def K41_6 : Pl := .st (.act none (.als 14 none 4)) <|
    .st (.act none (.pset (some 14) 4 1 1 (.v 13))) .done
@[simp] def W41_6 := @Pl.wpe _ _ K41_6.eq_1
def K41_7 : Pl := .st (.act none (.psl 12 [.int .i64 0, .int .i64 0, .int .i64 0, .int .i64 0, .slice none 0 0, .int .i64 0, .int .i64 0, .int .i64 0, .slice none 0 0, .int .i64 0] [(0, 10, .v 11)])) <|
    .st (.act none (.ex (some 13) (.app 112 10 [.int .i64 0, .int .i64 0, .int .i64 0, .int .i64 0, .slice none 0 0, .int .i64 0, .int .i64 0, .int .i64 0, .slice none 0 0, .int .i64 0] (.o (.v 7)) (.p 1 12)))) K41_6
@[simp] def W41_7 := @Pl.wpe _ _ K41_7.eq_1
def K41_8 : C := .seq (.block 3 (.pl <| .st (.ext 6 9) <|
    .st (.act none (.als 6 none 4)) <|
    .st (.act none (.pget (some 7) (some 6) 4 1 none)) <|
    .st (.act none (.px (some 8) (.mv (.v 0)))) <|
    .st (.act none (.als 9 none 4)) <|
    .st (.act none (.pget (some 10) (some 9) 4 0 none)) <|
    .st (.act none (.ex (some 11) (.call fn_spec_l2DrawEdge [.v 8, .v 10]))) K41_7)) K41_5
@[simp] def W41_8 := @C.wpe _ _ K41_8.eq_1
def K41_9 : C := .cond 6 (.v 7) (.skip) (.exit 2)
@[simp] def W41_9 := @C.wpe _ _ K41_9.eq_1
def K41_10 : C := .seq (.seq (.pl <| .st (.ext 6 2) <|
    .st (.act none (.px (some 6) (.mv (.v 5)))) <|
    .st (.act none (.px (some 7) (.bin .gtr (.v 6) (.c (.int .i64 0))))) .done) K41_9) K41_8
@[simp] def W41_10 := @C.wpe _ _ K41_10.eq_1
def K41_11 : C := .block 2 (.loop 6 [] K41_10)
@[simp] def W41_11 := @C.wpe _ _ K41_11.eq_1
def K41_12 : Pl := .st (.act none (.px (some 5) (.mv (.v 8)))) .done
@[simp] def W41_12 := @Pl.wpe _ _ K41_12.eq_1
def K41_13 : Pl := .st (.act none (.ex (some 8) (.call fn_spec_l16Rd_num [.v 6, .v 7]))) K41_12
@[simp] def W41_13 := @Pl.wpe _ _ K41_13.eq_1
def K41_14 : C := .seq (.seq (.pl <| .st (.ext 6 3) <|
    .st (.act none (.px (some 6) (.mv (.v 0)))) <|
    .st (.act none (.ex (some 7) (.bls 1 5 [.int .i64 0] [(0, 1, .c (.int .i64 3)), (1, 1, .c (.int .i64 4)), (2, 1, .c (.int .i64 2)), (3, 1, .c (.int .i64 5)), (4, 1, .c (.int .i64 1))]))) K41_13) K41_11) K41_4
@[simp] def W41_14 := @C.wpe _ _ K41_14.eq_1
def K41_15 : Pl := .st (.act none (.px (some 9) (.build [.int .i64 0, .slice none 0 0] [(0, 1, .v 8)]))) <|
    .st (.act none (.pnew 4 (.c (.agg #[.int .i64 0, .slice none 0 0])) [])) <|
    .st (.act none (.pset none 4 0 2 (.v 9))) .done
@[simp] def W41_15 := @Pl.wpe _ _ K41_15.eq_1
def K41_16 : Pl := .st (.act none (.ex (some 8) (.call fn_spec_l16Rd_num [.v 6, .v 7]))) K41_15
@[simp] def W41_16 := @Pl.wpe _ _ K41_16.eq_1
def K41_17 : C := .seq (.block 1 (.seq (.pl <| .st (.ext 6 4) <|
    .st (.act none (.px (some 6) (.mv (.v 0)))) <|
    .st (.act none (.ex (some 7) (.bls 1 4 [.int .i64 0] [(0, 1, .c (.int .i64 2)), (1, 1, .c (.int .i64 3)), (2, 1, .c (.int .i64 1)), (3, 1, .c (.int .i64 2))]))) K41_16) K41_14)) K41_2
@[simp] def W41_17 := @C.wpe _ _ K41_17.eq_1
def K41_18 : C := .cond 6 (.v 7) (.skip) (.exit 0)
@[simp] def W41_18 := @C.wpe _ _ K41_18.eq_1
def K41_19 : C := .seq (.seq (.pl <| .st (.ext 6 2) <|
    .st (.act none (.px (some 6) (.mv (.v 3)))) <|
    .st (.act none (.px (some 7) (.bin .gtr (.v 6) (.c (.int .i64 0))))) .done) K41_18) K41_17
@[simp] def W41_19 := @C.wpe _ _ K41_19.eq_1
def K41_20 : C := .block 0 (.loop 6 [4, 5] K41_19)
@[simp] def W41_20 := @C.wpe _ _ K41_20.eq_1
def K41_21 : Pl := .st (.act none (.px (some 3) (.mv (.v 8)))) .done
@[simp] def W41_21 := @Pl.wpe _ _ K41_21.eq_1
def K41_22 : Pl := .st (.act none (.ex (some 8) (.call fn_spec_l16Rd_num [.v 6, .v 7]))) K41_21
@[simp] def W41_22 := @Pl.wpe _ _ K41_22.eq_1
def K41_23 : C := .seq (.seq (.pl <| .st (.ext 6 3) <|
    .st (.act none (.px (some 6) (.mv (.v 0)))) <|
    .st (.act none (.ex (some 7) (.bls 1 4 [.int .i64 0] [(0, 1, .c (.int .i64 2)), (1, 1, .c (.int .i64 1)), (2, 1, .c (.int .i64 2)), (3, 1, .c (.int .i64 3))]))) K41_22) K41_20) K41_1
@[simp] def W41_23 := @C.wpe _ _ K41_23.eq_1
def K41_24 : Pl := .st (.act none (.px (some 12) (.build [.slice none 0 0, .slice none 0 0] [(0, 1, .v 11)]))) <|
    .st (.act none (.pnew 2 (.c (.agg #[.slice none 0 0, .slice none 0 0])) [])) <|
    .st (.act none (.pset none 2 0 2 (.v 12))) .done
@[simp] def W41_24 := @Pl.wpe _ _ K41_24.eq_1
def K41_25 : Pl := .st (.act none (.ex (some 11) (.bls 1 3 [.int .i64 0] [(0, 1, .v 7), (1, 1, .v 10), (2, 1, .c (.int .i64 0))]))) K41_24
@[simp] def W41_25 := @Pl.wpe _ _ K41_25.eq_1
def K41_26 : Pl := .st (.act none (.ex (some 10) (.call fn_spec_l16Rd_num [.v 8, .v 9]))) K41_25
@[simp] def W41_26 := @Pl.wpe _ _ K41_26.eq_1
def K41_27 : Pl := .st (.act none (.px (some 8) (.mv (.v 0)))) <|
    .st (.act none (.ex (some 9) (.bls 1 4 [.int .i64 0] [(0, 1, .c (.int .i64 0)), (1, 1, .c (.int .i64 0)), (2, 1, .c (.int .i64 1)), (3, 1, .c (.int .i64 3))]))) K41_26
@[simp] def W41_27 := @Pl.wpe _ _ K41_27.eq_1
def K41_28 : C := .seq (.pl <| .st (.ext 6 7) <|
    .st (.act none (.px (some 6) (.mv (.v 0)))) <|
    .st (.act none (.ex (some 7) (.call fn_spec_l16Rd_pick [.v 6, .c (.int .i64 2)]))) K41_27) K41_23
@[simp] def W41_28 := @C.wpe _ _ K41_28.eq_1
def B_spec_l2System : C := .seq (.pl <| .st (.ext 6 0) <|
    .st (.act none (.pnew 1 (.c (.agg #[.slice none 0 0, .slice none 0 0])) [])) .done) K41_28
@[simp] def WB_spec_l2System := @C.wpe _ _ B_spec_l2System.eq_1
def R_spec_l2System : FIR := ⟨B_spec_l2System, 6, [(1, some (some 2))]⟩
theorem IR_spec_l2System : cfun Try.prog H_spec_l2System Try.f41 = some R_spec_l2System := by kernel_rfl
theorem EN_spec_l2System {args : List Value} {h : Heap} {k : Value → Heap → Prop} (hargs : args.length = 1) (hw : B_spec_l2System.wp Try.prog (retQ [(1, some (some 2))] k) (env0 args 6) h) : CallE Try.prog fn_spec_l2System args h k := enter Try.func41 rfl IR_spec_l2System hargs hw


end Go.Proofs.Ytonjglbachhdcaa

/-
  Bodies of functions in the small language, as a program printed them, and that each is what the translation gives.
-/
namespace Go.Proofs.Ytonjglbachhdcaa
open Go
set_option linter.all false
set_option linter.defProp false
set_option maxRecDepth 1000000

end Go.Proofs.Ytonjglbachhdcaa

/-
  Facts for the simplifier; loops; structures; marks; words as sets.
-/
namespace Go.Proofs.Ytonjglbachhdcaa
open Go
set_option linter.all false
set_option linter.unusedVariables false
set_option linter.unusedSimpArgs false
set_option linter.defProp false
set_option maxRecDepth 1000000
universe u

section
variable {α : Type} [Ty α] {h : Heap} {v : Value}
/-- the places of a slice's elements, and its length -/
theorem Rep.X {l : List α} (hr : Rep h v l) {n : Nat} (hn : n = Ty.sz α) : (∀ (kd : IntKind) (i : Nat), i < l.length → iaV n v (.int kd i) = some (elp n v i)) ∧ (∀ (kd : IntKind) (i : Int), 0 ≤ i → i < l.length → iaV n v (.int kd i) = some (elp n v i.toNat)) ∧ lenVV v = some (.int .i64 l.length) :=
  ⟨fun _ _ h1 => hr.ian hn h1, fun _ _ h0 h1 => hr.ia' hn h0 h1, hr.len⟩
end
section
variable {h : Heap} {v : Value}
theorem Rep.I {l : List Int} (hr : Rep h v l) : ((∀ (kd : IntKind) (i : Nat), i < l.length → iaV 1 v (.int kd i) = some (elp 1 v i)) ∧ (∀ (kd : IntKind) (i : Int), 0 ≤ i → i < l.length → iaV 1 v (.int kd i) = some (elp 1 v i.toNat)) ∧ lenVV v = some (.int .i64 l.length)) ∧
    ∀ (i : Nat) (hi : i < l.length), hload h (some (elp 1 v i)) none = some (.int .i64 l[i]) := ⟨hr.X rfl, fun _ hi => hr.ldI hi⟩
theorem Rep.B {l : List Bool} (hr : Rep h v l) : ((∀ (kd : IntKind) (i : Nat), i < l.length → iaV 1 v (.int kd i) = some (elp 1 v i)) ∧ (∀ (kd : IntKind) (i : Int), 0 ≤ i → i < l.length → iaV 1 v (.int kd i) = some (elp 1 v i.toNat)) ∧ lenVV v = some (.int .i64 l.length)) ∧
    ∀ (i : Nat) (hi : i < l.length), hload h (some (elp 1 v i)) none = some (.bool l[i]) := ⟨hr.X rfl, fun _ hi => hr.ldB hi⟩
theorem Rep.S {l : List ByteArray} (hr : Rep h v l) : ((∀ (kd : IntKind) (i : Nat), i < l.length → iaV 1 v (.int kd i) = some (elp 1 v i)) ∧ (∀ (kd : IntKind) (i : Int), 0 ≤ i → i < l.length → iaV 1 v (.int kd i) = some (elp 1 v i.toNat)) ∧ lenVV v = some (.int .i64 l.length)) ∧
    ∀ (i : Nat) (hi : i < l.length), hload h (some (elp 1 v i)) none = some (.string l[i]) := ⟨hr.X rfl, fun _ hi => hr.ldS hi⟩
/-- a list of lists: where an element's header lies -/
theorem Rep.ldL {α : Type} [Ty α] {l : List (List α)} (hr : Rep h v l) {i : Nat} (hi : i < l.length) : ∃ u, hload h (some (elp 1 v i)) none = some u ∧ Rep h u l[i] := hr.ld hi
end

theorem IteW.mkr {p A B : Prop} (h2 : ¬ p → B) (h1 : p → A) : IteW p A B := ⟨h1, h2⟩

/-- THE LOOP over a state of plain data: 'Enc s' says how the state lies in the environment and the memory; 'm' goes down -/
theorem wp_while {P : Program} {Q : Ex → Env → Heap → Prop} {e : Env} {h : Heap} {n : Nat} {fg : List Nat} {a : C} {σ : Type} (Enc : σ → Env → Heap → Prop) (m : σ → Nat) (s0 : σ) (h0 : Enc s0 (efgt (e.take n) fg) h)
    (hs : ∀ (J : Env → Heap → Prop) s e h, (∀ s' e h, m s' < m s → Enc s' e h → J e h) → Enc s e h → a.wp P (loopQ n fg J Q) e h) : (C.loop n fg a).wp P Q e h := by
  refine wp_loop (fun k e h => ∃ s, m s = k ∧ Enc s e h) ⟨_, s0, rfl, h0⟩ ?_
  rintro I' k e h hI ⟨s, rfl, hE⟩
  exact hs I' s e h (fun s' e h hlt hE => hI (m s') e h hlt ⟨s', rfl, hE⟩) hE

theorem own1 {α : Type} [Ty α] (ha : Ty.agg α = false) {r : Heap} {cs : List Value} {x : α} : Ty.own r cs x ↔ ∃ v, cs = [v] ∧ Own r v x := by
  constructor
  · intro ho
    have hl := Ty.len (Ty.own_rep ho)
    rw [Ty.one ha] at hl
    match cs, hl with
    | [v], _ => exact ⟨v, rfl, [v], by simp [valC, ha], ho⟩
  · rintro ⟨v, rfl, c, h1, h2⟩
    have hl := Ty.len (Ty.own_rep h2)
    rw [Ty.one ha] at hl
    match c, hl with
    | [u], _ => simp [valC, ha] at h1; subst h1; exact h2
theorem rep1 {α : Type} [Ty α] (ha : Ty.agg α = false) {r : Heap} {cs : List Value} {x : α} : Ty.rep r cs x ↔ ∃ v, cs = [v] ∧ Rep r v x := by
  constructor
  · intro ho
    have hl := Ty.len ho
    rw [Ty.one ha] at hl
    match cs, hl with
    | [v], _ => exact ⟨v, rfl, [v], by simp [valC, ha], ho⟩
  · rintro ⟨v, rfl, c, h1, h2⟩
    have hl := Ty.len h2
    rw [Ty.one ha] at hl
    match c, hl with
    | [u], _ => simp [valC, ha] at h1; subst h1; exact h2

section
variable {α : Type} [Ty α] {h : Heap} {v : Value} {l : List α} {i : Nat}
/-- one cell of an element -/
theorem Rep.fld [Flat α] (hr : Rep h v l) (hi : i < l.length) {n j : Nat} (hn : n = Ty.sz α) {u : Value} (hj : (Flat.enc l[i])[j]? = some u) : hload h (some (elpo n v i j)) none = some u := by
  subst hn
  obtain ⟨p, cap, rfl, hc, hp, hl⟩ := Rep_list.1 hr
  obtain ⟨b, off, vs, rfl, h1, h2⟩ := hl i hi
  rw [← (Flat.rep_iff.1 h2).1] at hj
  have := (hcells_get h1).2 j u hj
  simp [elpo, add_none, hload, this]
end

/-- a value of many cells, as it is put into a box and taken out -/
theorem Rep.A {α : Type} [Ty α] {h : Heap} {v : Value} {x : α} (hr : Rep h v x) (ha : Ty.agg α = true) {n : Nat} (hn : n = Ty.sz α) : pgetV (some v) 0 (some n) = some v ∧ v.cells.size = n ∧ allOne v.cells.toList = true ∧ Value.agg v.cells = v := by
  obtain ⟨cs, rfl, h1⟩ := hr
  have h2 := Ty.len h1
  have h3 := Ty.cell h1
  subst hn
  simp only [valC, ha, if_true]
  refine ⟨?_, by simpa using h2, ?_, rfl⟩
  · simp [h2]
  · rw [← allOne_eq]; simpa using h3

/-- owned, at its cells -/
def owC {α : Type} [Ty α] (cs : List Value) (x : α) : HP := fun r => Ty.own r cs x

section
variable {g h : Heap} {Γ : List HP}
theorem HS.join2 {p p1 p2 : HP} (H : HS g (p1 :: p2 :: Γ) h) (hp : ∀ r1 r2, Dj r1 r2 → p1 r1 → p2 r2 → p (r1.add r2)) : HS g (p :: Γ) h := by
  obtain ⟨g1, r1, rfl, d1, h1, g', r2, rfl, d2, h2, H⟩ := H
  obtain ⟨d3, d4⟩ := add_Dj.1 d1
  refine ⟨g', r1.add r2, ?_, Dj_add.2 ⟨d3, d2⟩, hp r1 r2 d4.symm h1 h2, H⟩
  rw [add_assoc, d4.comm]
theorem HS.unvia {α β : Type} [Ty β] (f : α → β) {v : Value} {x : α} (H : HS g (@ow α (Ty.via f) v x :: Γ) h) : ∃ cs : List Value, v = .agg cs.toArray ∧ HS g (owC cs (f x) :: Γ) h := by
  obtain ⟨g', r, rfl, d, ⟨cs, rfl, ho⟩, H⟩ := H
  exact ⟨cs, rfl, g', r, rfl, d, ho, H⟩
theorem HS.via {α β : Type} [Ty β] (f : α → β) {cs : List Value} {x : α} (H : HS g (owC cs (f x) :: Γ) h) : HS g (@ow α (Ty.via f) (.agg cs.toArray) x :: Γ) h :=
  H.imp fun _ ho => ⟨cs, rfl, ho⟩
theorem HS.unprod {α β : Type} [Ty α] [Ty β] {cs : List Value} {x : α} {y : β} (H : HS g (owC cs (x, y) :: Γ) h) : ∃ c1 c2, cs = c1 ++ c2 ∧ HS g (owC c1 x :: owC c2 y :: Γ) h := by
  obtain ⟨g', r, rfl, d, ⟨c1, c2, r1, r2, rfl, rfl, d2, h1, h2⟩, H⟩ := H
  obtain ⟨d3, d4⟩ := Dj_add.1 d
  exact ⟨c1, c2, rfl, g'.add r2, r1, by rw [add_assoc, d2.comm], add_Dj.2 ⟨d3, d2.symm⟩, h1, g', r2, rfl, d4, h2, H⟩
theorem HS.unone {α : Type} [Ty α] (ha : Ty.agg α = false) {cs : List Value} {x : α} (H : HS g (owC cs x :: Γ) h) : ∃ v, cs = [v] ∧ HS g (ow v x :: Γ) h := by
  obtain ⟨g', r, rfl, d, ho, H⟩ := H
  have ho2 : Ty.own r cs x := ho
  obtain ⟨v, rfl, h3⟩ := (own1 ha).1 ho2
  exact ⟨v, rfl, g', r, rfl, d, h3, H⟩
theorem HS.one {α : Type} [Ty α] (ha : Ty.agg α = false) {v : Value} {x : α} (H : HS g (ow v x :: Γ) h) : HS g (owC [v] x :: Γ) h := H.imp fun _ ho => (own1 ha).2 ⟨v, rfl, ho⟩
theorem HS.prod {α β : Type} [Ty α] [Ty β] (ha : Ty.agg α = false) {v : Value} {cs : List Value} {x : α} {y : β} (H : HS g (ow v x :: owC cs y :: Γ) h) : HS g (owC (v :: cs) (x, y) :: Γ) h :=
  H.join2 fun r1 r2 d h1 h2 => ⟨[v], cs, r1, r2, rfl, rfl, d, (own1 ha).2 ⟨v, rfl, h1⟩, h2⟩
end

/-- HOW MUCH a piece of data holds: the lengths of all its lists, added up -/
class Sz (α : Type) where
  sz : α → Nat
instance : Sz Int := ⟨fun _ => 0⟩
instance : Sz Bool := ⟨fun _ => 0⟩
def szL {α : Type} [Sz α] : List α → Nat
  | [] => 0
  | x :: l => Sz.sz x + szL l
instance instSzList {α : Type} [Sz α] : Sz (List α) := ⟨fun l => l.length + szL l⟩
theorem sz_list {α : Type} [Sz α] (l : List α) : Sz.sz l = l.length + szL l := rfl
/-- 'cnt': how many places are written; 'wr k': the piece of data with the places written over, from k on -/
class Mk (α : Type) where
  cnt : α → Nat
  wr : Int → α → α
  cnt_wr : ∀ k x, cnt (wr k x) = cnt x
  wr_wr : ∀ k j x, wr k (wr j x) = wr k x

def cntL {α : Type} [Mk α] : List α → Nat
  | [] => 0
  | x :: l => Mk.cnt x + cntL l
def mkL {α : Type} [Mk α] : Int → List α → List α
  | _, [] => []
  | k, x :: l => Mk.wr k x :: mkL (k + Mk.cnt x) l

section
variable {α : Type} [Mk α]
theorem cntL_mk : ∀ (k : Int) (l : List α), cntL (mkL k l) = cntL l
  | _, [] => rfl
  | k, x :: l => by simp [cntL, mkL, Mk.cnt_wr, cntL_mk (k + Mk.cnt x) l]
theorem mkL_mk : ∀ (k j : Int) (l : List α), mkL k (mkL j l) = mkL k l
  | _, _, [] => rfl
  | k, j, x :: l => by simp [mkL, Mk.cnt_wr, Mk.wr_wr, mkL_mk (k + Mk.cnt x) (j + Mk.cnt x) l]
@[simp] theorem mkL_length : ∀ (k : Int) (l : List α), (mkL k l).length = l.length
  | _, [] => rfl
  | k, x :: l => by simp [mkL, mkL_length (k + Mk.cnt x) l]
theorem mkL_get : ∀ (k : Int) (l : List α) (i : Nat) (hi : i < l.length), (mkL k l)[i]'(by simpa using hi) = Mk.wr (k + cntL (l.take i)) l[i]
  | _, [], i, hi => by simp at hi
  | k, x :: l, 0, _ => by simp [mkL, cntL]
  | k, x :: l, i + 1, hi => by
    simp only [mkL, List.getElem_cons_succ, List.take_succ_cons, cntL]
    rw [mkL_get (k + Mk.cnt x) l i (by simpa using hi)]
    congr 1
    push_cast
    omega
instance instMkList : Mk (List α) := ⟨cntL, mkL, cntL_mk, mkL_mk⟩
end

instance instMkInt : Mk Int := ⟨fun _ => 1, fun k _ => k, fun _ _ => rfl, fun _ _ _ => rfl⟩
instance instMkBool : Mk Bool := ⟨fun _ => 1, fun k _ => decide (k.tmod 3 = 0), fun _ _ => rfl, fun _ _ _ => rfl⟩
/-- how far the writing has come -/
structure Mkd {α : Type} [Mk α] (k : Int) (x y : List α) (i : Nat) : Prop where
  len : y.length = x.length
  done : y.take i = (mkL k x).take i
  rest : y.drop i = x.drop i

section
variable {α : Type} [Mk α] {k : Int} {x y : List α} {i : Nat}
theorem Mkd.zero : Mkd k x x 0 := ⟨rfl, rfl, rfl⟩
theorem Mkd.get (h : Mkd k x y i) (hi : i < x.length) : y[i]'(by rw [h.len]; exact hi) = x[i] := by
  have := congrArg (fun l => l[0]?) h.rest
  simp [List.getElem?_drop, hi, h.len] at this
  exact this
theorem Mkd.step (h : Mkd k x y i) (hi : i < x.length) : Mkd k x (y.set i (Mk.wr (k + cntL (x.take i)) x[i])) (i + 1) := by
  refine ⟨by simp [h.len], ?_, ?_⟩
  · have := take_set_succ (x := mkL k x) h.done (by simpa using hi) (by simpa using h.len)
    rwa [mkL_get k x i hi] at this
  · rw [List.drop_set_of_lt (by omega)]
    have := congrArg (List.drop 1) h.rest
    simpa [List.drop_drop] using this
theorem Mkd.all (h : Mkd k x y i) (hi : x.length ≤ i) : y = mkL k x := eq_of_take h.done (by simpa using hi) (by simpa using h.len)
end
theorem take_step {α : Type} {x y : List α} {i : Nat} (h : x.take i = y.take i) (h1 : i < x.length) (h2 : i < y.length) (he : x[i] = y[i]) : x.take (i + 1) = y.take (i + 1) := by
  rw [List.take_add_one, List.take_add_one, h, List.getElem?_eq_getElem h1, List.getElem?_eq_getElem h2, he]
/-- an amount to shift by is not negative -/
@[simp] theorem ite_lt_zero {α : Type} {b : Int} {x y : α} (h : 0 ≤ b) : (if b < 0 then x else y) = y := if_neg (by omega)

/- bits -/
def setB (a : BitVec 64) (j : Nat) : BitVec 64 := a ||| (1#64 <<< j)
def clrB (a : BitVec 64) (j : Nat) : BitVec 64 := a &&& ~~~(1#64 <<< j)
/-- eight words -/
structure W8 where
  l : List (BitVec 64)
  len : l.length = 8
def W8.zero : W8 := ⟨List.replicate 8 0, rfl⟩
def W8.put (w : W8) (j : Nat) (x : BitVec 64) : W8 := ⟨w.l.set j x, by simp [w.len]⟩
def W8.at (w : W8) (j : Nat) : BitVec 64 := w.l.getD j 0
def W8.enc (w : W8) : List Value := w.l.map fun b => .int .u64 b.toNat
instance instTyW8 : Ty W8 where
  agg := true
  sz := 8
  rep := fun _ cs x => cs = x.enc
  own := fun r cs x => r = Heap.nil ∧ cs = x.enc
  one := fun h => by simp at h
  len := by rintro h cs x rfl; simp [W8.enc, x.len]
  cell := by
    rintro h cs x rfl v hv
    simp only [W8.enc, List.mem_map] at hv
    obtain ⟨b, _, rfl⟩ := hv
    rfl
  mono := fun _ hr => hr
  own_rep := fun ho => ho.2
instance instFlatW8 : Flat W8 := ⟨W8.enc, fun _ => True, by simp [Ty.rep], by simp [Ty.own]⟩
theorem W8.enc_at (w : W8) {j : Nat} (hj : j < 8) : w.enc[j]? = some (.int .u64 (w.at j).toNat) := by
  have : j < w.l.length := by rw [w.len]; exact hj
  simp [W8.enc, W8.at, this]
section
variable {α : Type} [Ty α] {h : Heap} {v : Value} {l : List α} {i : Nat}
theorem Rep.iaA (hr : Rep h v l) (hi : i < l.length) {n m : Nat} {kd : IntKind} {j : Nat} (hj : j < m) : iaAV m 1 (elp n v i) (.int kd j) = some (elpo n v i j) := by
  obtain ⟨p, cap, rfl, hc, hp, hl⟩ := Rep_list.1 hr
  obtain ⟨b, off, vs, rfl, _⟩ := hl i hi
  have : (j : Int) < m := by omega
  simp [iaAV, elp, elpo, this]
/-- rows of words -/
theorem Rep.W {l : List W8} (hr : Rep h v l) : ((∀ (kd : IntKind) (i : Nat), i < l.length → iaV 8 v (.int kd i) = some (elp 8 v i)) ∧ (∀ (kd : IntKind) (i : Int), 0 ≤ i → i < l.length → iaV 8 v (.int kd i) = some (elp 8 v i.toNat)) ∧ lenVV v = some (.int .i64 l.length)) ∧
    (∀ (kd : IntKind) (i j : Nat), i < l.length → j < 8 → iaAV 8 1 (elp 8 v i) (.int kd j) = some (elpo 8 v i j)) ∧
    ∀ (i j : Nat) (hi : i < l.length), j < 8 → hload h (some (elpo 8 v i j)) none = some (.int .u64 (l[i].at j).toNat) :=
  ⟨hr.X rfl, fun _ _ _ hi hj => hr.iaA hi hj, fun _ _ hi hj => hr.fld hi rfl (W8.enc_at _ hj)⟩
end

theorem Rep.isNil {α : Type} [Ty α] {h : Heap} {v : Value} {l : List α} (hr : Rep h v l) : ∃ b, isNilV false v = some (.bool b) ∧ (b = true → l = []) := by
  obtain ⟨p, cap, rfl, h1, h2, h3⟩ := Rep_list.1 hr
  refine ⟨p.isNone, rfl, fun hp => ?_⟩
  cases l with
  | nil => rfl
  | cons x l => obtain ⟨b, off, vs, h4, _⟩ := h3 0 (by simp); subst h4; simp at hp

theorem Own.clip {α : Type} [Ty α] {r : Heap} {v : Value} {l : List α} (O : Own r v l) {esz : Nat} {k : IntKind} :
    ∃ v', sliceVV esz v none (some (some (.int k l.length))) (some (some (.int k l.length))) = some v' ∧ Own r v' l := by
  rcases Own_list.1 O with ⟨p, rfl, rfl, rfl, hp⟩ | ⟨b, off, cap, cells, el, r', rfl, ⟨h1, hM⟩, h2, rfl, h4, h5⟩
  · refine ⟨.slice p 0 0, ?_, Own_list.2 (.inl ⟨p, rfl, rfl, rfl, hp⟩)⟩
    simp [sliceVV, bndV]
  · refine ⟨.slice (some ⟨b, off, none⟩) l.length l.length, ?_, Own_list.2 (.inr ⟨b, off, l.length, cells, el, r', rfl, ⟨Nat.le_refl _, hM⟩, ?_, rfl, h4, h5⟩)⟩
    · simp [sliceVV, bndV, add_none, h1]
    · have : l.length * Ty.sz α ≤ cap * Ty.sz α := Nat.mul_le_mul_right _ h1
      omega
theorem HS.clip {α : Type} [Ty α] {g h : Heap} {Γ : List HP} {v : Value} {l : List α} (H : HS g (ow v l :: Γ) h) {esz : Nat} {k : IntKind} :
    ∃ v', sliceVV esz v none (some (some (.int k l.length))) (some (some (.int k l.length))) = some v' ∧ HS g (ow v' l :: Γ) h := by
  obtain ⟨g', r, rfl, d, O, H⟩ := H
  obtain ⟨v', h1, O'⟩ := O.clip (esz := esz) (k := k)
  exact ⟨v', h1, g', r, rfl, d, O', H⟩
/-- a slice that is written out, without elements -/
theorem HS.bls0 {P : Program} {k : Env → Heap → Prop} {e : Env} {g h : Heap} {Γ : List HP} (H : HS g Γ h) (α : Type) [Ty α] {esz : Nat} {zero : List Value} {dst : Nat}
    (K : ∀ v' h', HS g (ow v' ([] : List α) :: Γ) h' → k (eset e dst (some v')) h') : (A.ex (some dst) (.bls esz 0 zero [])).wp P k e h := by
  refine ⟨[], rfl, fun b el hb => Fgt.keep ?_⟩
  rw [set_new hb]
  exact K _ _ ⟨h, _, rfl, Dj_one.2 hb, Own_list.2 (.inr ⟨b, 0, 0, [], el, Heap.nil, rfl, ⟨Nat.le_refl _, by simp⟩, by simp, by simp, rfl, rfl⟩), H⟩
@[simp] theorem faV_ptr {b o off : Nat} : faV off (.pointer (some ⟨b, o, none⟩)) = some (.pointer (some ⟨b, o + off, none⟩)) := by simp [faV, add_none]
attribute [simp] Option.bind_some

end Go.Proofs.Ytonjglbachhdcaa

/-
  Maps as pieces of the memory; pieces that are only read become part of what is read.
-/
namespace Go.Proofs.Ytonjglbachhdcaa
open Go
set_option linter.all false
set_option linter.unusedVariables false
set_option linter.unusedSimpArgs false
set_option linter.defProp false
set_option maxRecDepth 1000000

section
variable {g h : Heap} {Γ : List HP}
/-- the later pieces become part of what is only read -/
theorem HS.rebase : ∀ {Δ Γ : List HP} {h : Heap}, HS g (Δ ++ Γ) h → ∃ g1, HS g Γ g1 ∧ HS g1 Δ h
  | [], _, h, H => ⟨h, H, HS.init⟩
  | _ :: _, _, _, ⟨g', r, e, d, hp, H⟩ => by
    obtain ⟨g1, h1, h2⟩ := H.rebase
    exact ⟨g1, h1, g', r, e, d, hp, h2⟩
end

/- MAPS -/
/-- a map of its own: its entries as pairs, in the order in which they came -/
def mpo {κ ν : Type} (kf : κ → Value) (vf : ν → Value) (b : Nat) (l : List (κ × ν)) : HP := fun r => ∃ es clock, r = Heap.one b (.map es clock) ∧ es.toList.map (fun e => (e.key, e.val)) = l.map fun p => (kf p.1, vf p.2)
/-- what a key leads to -/
def mlk {κ ν : Type} [DecidableEq κ] (l : List (κ × ν)) (a : κ) : Option ν := (l.find? fun p => decide (p.1 = a)).map (·.2)
theorem mfind_spec {κ ν : Type} [DecidableEq κ] {kf : κ → Value} {vf : ν → Value} {kt : KT} (hkt : ∀ a b, keyEq kt (kf a) (kf b) = some (decide (a = b))) {a : κ} : ∀ {es : List MapEntry} {l : List (κ × ν)} {i0 : Nat}, es.map (fun e => (e.key, e.val)) = l.map (fun p => (kf p.1, vf p.2)) →
    ∃ i, mfind kt (kf a) es i0 = some ((mlk l a).map fun y => (i, vf y))
  | [], [], _, _ => ⟨0, rfl⟩
  | [], _ :: _, _, h => by simp at h
  | _ :: _, [], _, h => by simp at h
  | x :: es, p :: l, i0, h => by
    simp only [List.map_cons, List.cons.injEq, Prod.mk.injEq] at h
    obtain ⟨⟨h1, h2⟩, h3⟩ := h
    obtain ⟨i, hi⟩ := mfind_spec hkt (a := a) (i0 := i0 + 1) h3
    unfold mfind
    rw [h1, hkt, h2]
    by_cases he : a = p.1
    · subst he
      refine ⟨i0, ?_⟩
      simp [mlk]
    · refine ⟨i, ?_⟩
      simp only [he, decide_false]
      rw [hi]
      simp [mlk, List.find?_cons, Ne.symm he, show ¬ p.1 = a from fun e => he e.symm]
section
variable {P : Program} {k : Env → Heap → Prop} {e : Env} {g h : Heap} {Γ : List HP} {κ ν : Type} [DecidableEq κ] {kf : κ → Value} {vf : ν → Value} {b : Nat} {l : List (κ × ν)} {kt : KT}
theorem HS.mkm (H : HS g Γ h) (kf : κ → Value) (vf : ν → Value) {dst : Nat} (K : ∀ b h', HS g (mpo kf vf b [] :: Γ) h' → k (eset e dst (some (.map (some b)))) h') : (A.ex (some dst) .mkm).wp P k e h := by
  intro b hb
  refine Fgt.keep ?_
  rw [set_new hb]
  exact K _ _ ⟨h, _, rfl, Dj_one.2 hb, ⟨_, _, rfl, rfl⟩, H⟩
theorem HS.mget (H : HS g (mpo kf vf b l :: Γ) h) {zero : Value} {ok : Bool} {m x : O} {a : κ} {dst : Nat} (hm : m.get e = some (.map (some b))) (hx : x.get e = some (kf a)) (hkt : ∀ a b, keyEq kt (kf a) (kf b) = some (decide (a = b)))
    (K : k (eset e dst (some (if ok then .tuple #[((mlk l a).map vf).getD zero, .bool (mlk l a).isSome] else ((mlk l a).map vf).getD zero))) h) : (A.ex (some dst) (.mget kt zero ok m x)).wp P k e h := by
  obtain ⟨g', r, rfl, d, ⟨es, clock, rfl, hes⟩, H⟩ := H
  obtain ⟨i, hi⟩ := mfind_spec hkt (a := a) (i0 := 0) hes
  refine ⟨b, es, clock, kf a, _, hm, le_add' d _ _ (by simp [Heap.one]), hx, by rw [hkt]; rfl, hi, Fgt.keep ?_⟩
  cases hl : mlk l a with
  | none => rw [hl] at K; cases ok <;> exact K
  | some y => rw [hl] at K; cases ok <;> exact K
theorem HS.mput (H : HS g (mpo kf vf b l :: Γ) h) {m x y : O} {a : κ} {v : ν} (hm : m.get e = some (.map (some b))) (hx : x.get e = some (kf a)) (hy : y.get e = some (vf v)) (hkt : ∀ a b, keyEq kt (kf a) (kf b) = some (decide (a = b))) (hn : mlk l a = none)
    (K : ∀ h', HS g (mpo kf vf b (l ++ [(a, v)]) :: Γ) h' → k e h') : (A.ex none (.mput kt m x y)).wp P k e h := by
  obtain ⟨g', r, rfl, d, ⟨es, clock, rfl, hes⟩, H⟩ := H
  obtain ⟨i, hi⟩ := mfind_spec hkt (a := a) (i0 := 0) hes
  rw [hn] at hi
  refine ⟨b, es, clock, kf a, vf v, none, hm, le_add' d _ _ (by simp [Heap.one]), hx, hy, by rw [hkt]; rfl, hi, Fgt.keep ?_⟩
  refine K _ ⟨g', Heap.one b (.map (es.push { key := kf a, val := vf v, born := clock }) (clock + 1)), ?_, ?_, ⟨_, _, rfl, ?_⟩, H⟩
  · have hb := Dj_one.1 d
    rw [← set_new hb]
    rw [← set_new hb]
    funext z
    simp only [Heap.set]
    split <;> rfl
  · exact Dj_one.2 (Dj_one.1 d)
  · simp [hes]
theorem HS.mlen (H : HS g (mpo kf vf b l :: Γ) h) {m : O} {dst : Nat} (hm : m.get e = some (.map (some b))) (K : k (eset e dst (some (.int .i64 l.length))) h) : (A.ex (some dst) (.mlen m)).wp P k e h := by
  obtain ⟨g', r, rfl, d, ⟨es, clock, rfl, hes⟩, H⟩ := H
  have hl : es.size = l.length := by
    have := congrArg List.length hes
    simpa using this
  refine ⟨b, es, clock, hm, le_add' d _ _ (by simp [Heap.one]), Fgt.keep ?_⟩
  rw [hl]
  exact K
end
end Go.Proofs.Ytonjglbachhdcaa
