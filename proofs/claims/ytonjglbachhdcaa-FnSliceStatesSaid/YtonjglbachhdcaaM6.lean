/-
  Texts of this proof, one behind the other.
-/
import Derived.Test.YtonjglbachhdcaaM5
/-
  Bodies of functions in the small language, as a program printed them, and that each is what the translation gives.
-/
namespace Go.Proofs.Ytonjglbachhdcaa
open Go
set_option linter.all false
set_option linter.defProp false
set_option maxRecDepth 1000000

def H_impl_Edge_same : Hint := ⟨[(0, false), (1, false), (2, true), (3, true), (4, false)], []⟩
def K66_1 : Pl := .st (.act none (.px (some 37) (.pick (.v 31) (.v 36) (.c (.bool false))))) <|
    .st (.act none (.px (some 38) (.mv (.v 37)))) <|
    .st (.act (some (.v 38, true)) (.als 39 none 2)) <|
    .st (.act (some (.v 38, true)) (.pget (some 40) (some 39) 2 9 none)) <|
    .st (.act (some (.v 38, true)) (.als 41 none 3)) <|
    .st (.act (some (.v 38, true)) (.pget (some 42) (some 41) 3 9 none)) <|
    .st (.act (some (.v 38, true)) (.px (some 43) (.bin .eql (.v 40) (.v 42)))) <|
    .st (.act none (.px (some 44) (.pick (.v 38) (.v 43) (.c (.bool false))))) <|
    .st (.act none (.px (some 4) (.mv (.v 44)))) .done
@[simp] def W66_1 := @Pl.wpe _ _ K66_1.eq_1
def K66_2 : Pl := .st (.act none (.px (some 23) (.pick (.v 17) (.v 22) (.c (.bool false))))) <|
    .st (.act none (.px (some 24) (.mv (.v 23)))) <|
    .st (.act (some (.v 24, true)) (.als 25 none 2)) <|
    .st (.act (some (.v 24, true)) (.pget (some 26) (some 25) 2 5 none)) <|
    .st (.act (some (.v 24, true)) (.als 27 none 3)) <|
    .st (.act (some (.v 24, true)) (.pget (some 28) (some 27) 3 5 none)) <|
    .st (.act (some (.v 24, true)) (.px (some 29) (.bin .eql (.v 26) (.v 28)))) <|
    .st (.act none (.px (some 30) (.pick (.v 24) (.v 29) (.c (.bool false))))) <|
    .st (.act none (.px (some 31) (.mv (.v 30)))) <|
    .st (.act (some (.v 31, true)) (.als 32 none 2)) <|
    .st (.act (some (.v 31, true)) (.pget (some 33) (some 32) 2 6 (some 3))) <|
    .st (.act (some (.v 31, true)) (.als 34 none 3)) <|
    .st (.act (some (.v 31, true)) (.pget (some 35) (some 34) 3 6 (some 3))) <|
    .st (.act (some (.v 31, true)) (.ex (some 36) (.call fn_impl_ExprSame [.v 33, .v 35]))) K66_1
@[simp] def W66_2 := @Pl.wpe _ _ K66_2.eq_1
def K66_3 : C := .seq (.pl <| .st (.ext 5 40) <|
    .st (.act none (.als 5 none 2)) <|
    .st (.act none (.pget (some 6) (some 5) 2 0 none)) <|
    .st (.act none (.als 7 none 3)) <|
    .st (.act none (.pget (some 8) (some 7) 3 0 none)) <|
    .st (.act none (.px (some 9) (.bin .eql (.v 6) (.v 8)))) <|
    .st (.act none (.px (some 10) (.mv (.v 9)))) <|
    .st (.act (some (.v 10, true)) (.als 11 none 2)) <|
    .st (.act (some (.v 10, true)) (.pget (some 12) (some 11) 2 1 none)) <|
    .st (.act (some (.v 10, true)) (.als 13 none 3)) <|
    .st (.act (some (.v 10, true)) (.pget (some 14) (some 13) 3 1 none)) <|
    .st (.act (some (.v 10, true)) (.px (some 15) (.bin .eql (.v 12) (.v 14)))) <|
    .st (.act none (.px (some 16) (.pick (.v 10) (.v 15) (.c (.bool false))))) <|
    .st (.act none (.px (some 17) (.mv (.v 16)))) <|
    .st (.act (some (.v 17, true)) (.als 18 none 2)) <|
    .st (.act (some (.v 17, true)) (.pget (some 19) (some 18) 2 2 (some 3))) <|
    .st (.act (some (.v 17, true)) (.als 20 none 3)) <|
    .st (.act (some (.v 17, true)) (.pget (some 21) (some 20) 3 2 (some 3))) <|
    .st (.act (some (.v 17, true)) (.ex (some 22) (.call fn_impl_ExprSame [.v 19, .v 21]))) K66_2) (.ret)
@[simp] def W66_3 := @C.wpe _ _ K66_3.eq_1
def B_impl_Edge_same : C := .seq (.pl <| .st (.ext 5 0) <|
    .st (.act none (.pnew 2 (.v 0) [])) <|
    .st (.act none (.pnew 3 (.v 1) [])) <|
    .st (.act none (.px (some 4) (.mv (.c (.bool false))))) .done) K66_3
@[simp] def WB_impl_Edge_same := @C.wpe _ _ B_impl_Edge_same.eq_1
def R_impl_Edge_same : FIR := ⟨B_impl_Edge_same, 5, [(4, none)]⟩
theorem IR_impl_Edge_same : cfun Try.prog H_impl_Edge_same Try.f66 = some R_impl_Edge_same := by kernel_rfl
theorem EN_impl_Edge_same {args : List Value} {h : Heap} {k : Value → Heap → Prop} (hargs : args.length = 2) (hw : B_impl_Edge_same.wp Try.prog (retQ [(4, none)] k) (env0 args 5) h) : CallE Try.prog fn_impl_Edge_same args h k := enter Try.func66 rfl IR_impl_Edge_same hargs hw

def H_impl_SystemSame : Hint := ⟨[(0, false), (1, false), (2, true), (3, true), (4, false)], []⟩
def K28_1 : Pl := .st (.act none (.px (some 16) (.pick (.v 10) (.v 15) (.c (.bool false))))) <|
    .st (.act none (.px (some 4) (.mv (.v 16)))) .done
@[simp] def W28_1 := @Pl.wpe _ _ K28_1.eq_1
def K28_2 : Pl := .st (.act none (.px (some 10) (.mv (.v 9)))) <|
    .st (.act (some (.v 10, true)) (.als 11 none 2)) <|
    .st (.act (some (.v 10, true)) (.pget (some 12) (some 11) 2 1 none)) <|
    .st (.act (some (.v 10, true)) (.als 13 none 3)) <|
    .st (.act (some (.v 10, true)) (.pget (some 14) (some 13) 3 1 none)) <|
    .st (.act (some (.v 10, true)) (.ex (some 15) (.call fn_slices_EqualFunc_S_impl_Process_S_impl_Process_impl_Process_impl_Process [.v 12, .v 14, .c (.func (.func 64) #[] #[])]))) K28_1
@[simp] def W28_2 := @Pl.wpe _ _ K28_2.eq_1
def K28_3 : C := .seq (.pl <| .st (.ext 5 12) <|
    .st (.act none (.als 5 none 2)) <|
    .st (.act none (.pget (some 6) (some 5) 2 0 none)) <|
    .st (.act none (.als 7 none 3)) <|
    .st (.act none (.pget (some 8) (some 7) 3 0 none)) <|
    .st (.act none (.ex (some 9) (.call fn_slices_Equal_S_int_int [.v 6, .v 8]))) K28_2) (.ret)
@[simp] def W28_3 := @C.wpe _ _ K28_3.eq_1
def B_impl_SystemSame : C := .seq (.pl <| .st (.ext 5 0) <|
    .st (.act none (.pnew 2 (.v 0) [])) <|
    .st (.act none (.pnew 3 (.v 1) [])) <|
    .st (.act none (.px (some 4) (.mv (.c (.bool false))))) .done) K28_3
@[simp] def WB_impl_SystemSame := @C.wpe _ _ B_impl_SystemSame.eq_1
def R_impl_SystemSame : FIR := ⟨B_impl_SystemSame, 5, [(4, none)]⟩
theorem IR_impl_SystemSame : cfun Try.prog H_impl_SystemSame Try.f28 = some R_impl_SystemSame := by kernel_rfl
theorem EN_impl_SystemSame {args : List Value} {h : Heap} {k : Value → Heap → Prop} (hargs : args.length = 2) (hw : B_impl_SystemSame.wp Try.prog (retQ [(4, none)] k) (env0 args 5) h) : CallE Try.prog fn_impl_SystemSame args h k := enter Try.func28 rfl IR_impl_SystemSame hargs hw

def H_impl_SystemSame_1 : Hint := ⟨[(0, false), (1, false), (2, true), (3, true), (4, false)], []⟩
def K64_1 : Pl := .st (.act none (.px (some 16) (.pick (.v 10) (.v 15) (.c (.bool false))))) <|
    .st (.act none (.px (some 4) (.mv (.v 16)))) .done
@[simp] def W64_1 := @Pl.wpe _ _ K64_1.eq_1
def K64_2 : C := .seq (.pl <| .st (.ext 5 12) <|
    .st (.act none (.als 5 none 2)) <|
    .st (.act none (.pget (some 6) (some 5) 2 0 none)) <|
    .st (.act none (.als 7 none 3)) <|
    .st (.act none (.pget (some 8) (some 7) 3 0 none)) <|
    .st (.act none (.px (some 9) (.bin .eql (.v 6) (.v 8)))) <|
    .st (.act none (.px (some 10) (.mv (.v 9)))) <|
    .st (.act (some (.v 10, true)) (.als 11 none 2)) <|
    .st (.act (some (.v 10, true)) (.pget (some 12) (some 11) 2 1 none)) <|
    .st (.act (some (.v 10, true)) (.als 13 none 3)) <|
    .st (.act (some (.v 10, true)) (.pget (some 14) (some 13) 3 1 none)) <|
    .st (.act (some (.v 10, true)) (.ex (some 15) (.call fn_slices_EqualFunc_S_impl_Edge_S_impl_Edge_impl_Edge_impl_Edge [.v 12, .v 14, .c (.func (.func 66) #[] #[])]))) K64_1) (.ret)
@[simp] def W64_2 := @C.wpe _ _ K64_2.eq_1
def B_impl_SystemSame_1 : C := .seq (.pl <| .st (.ext 5 0) <|
    .st (.act none (.pnew 2 (.v 0) [])) <|
    .st (.act none (.pnew 3 (.v 1) [])) <|
    .st (.act none (.px (some 4) (.mv (.c (.bool false))))) .done) K64_2
@[simp] def WB_impl_SystemSame_1 := @C.wpe _ _ B_impl_SystemSame_1.eq_1
def R_impl_SystemSame_1 : FIR := ⟨B_impl_SystemSame_1, 5, [(4, none)]⟩
theorem IR_impl_SystemSame_1 : cfun Try.prog H_impl_SystemSame_1 Try.f64 = some R_impl_SystemSame_1 := by kernel_rfl
theorem EN_impl_SystemSame_1 {args : List Value} {h : Heap} {k : Value → Heap → Prop} (hargs : args.length = 2) (hw : B_impl_SystemSame_1.wp Try.prog (retQ [(4, none)] k) (env0 args 5) h) : CallE Try.prog fn_impl_SystemSame_1 args h k := enter Try.func64 rfl IR_impl_SystemSame_1 hargs hw

def H_laws_FnSliceStates : Hint := ⟨[(0, false), (2, false), (3, true), (4, false), (5, true), (6, false), (7, true), (8, false), (9, true), (10, false), (11, true), (12, false), (13, false), (14, false), (15, true), (16, false), (17, false), (18, false)], [[0, 1, 4, 5, 6, 7, 9, 14, 15, 16, 17], [0, 1, 2, 3, 4, 5, 6, 7, 9, 13, 14, 15, 16]]⟩
def K7_1 : C := .seq (.pl <| .st (.ext 18 10) <|
    .st (.act none (.px (some 18) (.mv (.v 11)))) <|
    .st (.act none (.px (some 19) (.mv (.v 18)))) <|
    .st (.act (some (.v 19, true)) (.als 20 none 10)) <|
    .st (.act (some (.v 19, true)) (.pget (some 21) (some 20) 10 0 none)) <|
    .st (.act (some (.v 19, true)) (.px (some 22) (.lenV (.v 21)))) <|
    .st (.act (some (.v 19, true)) (.als 23 none 8)) <|
    .st (.act (some (.v 19, true)) (.pget (some 24) (some 23) 8 0 none)) <|
    .st (.act (some (.v 19, true)) (.px (some 25) (.lenV (.v 24)))) <|
    .st (.act (some (.v 19, true)) (.px (some 26) (.bin .leq (.v 22) (.v 25)))) <|
    .st (.act none (.px (some 27) (.pick (.v 19) (.v 26) (.c (.bool false))))) <|
    .st (.act none (.px (some 1) (.mv (.v 27)))) .done) (.ret)
@[simp] def W7_1 := @C.wpe _ _ K7_1.eq_1
def K7_2 : C := .pl <| .st (.ext 18 2) <|
    .st (.act none (.px (some 18) (.mv (.v 17)))) <|
    .st (.act none (.px (some 19) (.bin .add (.v 18) (.c (.int .i64 1))))) <|
    .st (.act none (.px (some 17) (.mv (.v 19)))) .done
@[simp] def W7_2 := @C.wpe _ _ K7_2.eq_1
def K7_3 : C := .seq (.pl <| .st (.ext 18 0) <|
    .st (.act none (.px (some 1) (.mv (.c (.bool false))))) .done) (.ret)
@[simp] def W7_3 := @C.wpe _ _ K7_3.eq_1
def K7_4 : C := .cond 18 (.v 22) K7_3 (.skip)
@[simp] def W7_4 := @C.wpe _ _ K7_4.eq_1
def K7_5 : C := .seq (.block 3 (.seq (.pl <| .st (.ext 18 5) <|
    .st (.act none (.px (some 18) (.mv (.v 12)))) <|
    .st (.act none (.px (some 19) (.mv (.v 17)))) <|
    .st (.act none (.px (some 20) (.ia 1 (.v 18) (.v 19)))) <|
    .st (.act none (.ld (some 21) (.v 20) none)) <|
    .st (.act none (.px (some 22) (.un .not (.v 21)))) .done) K7_4)) K7_2
@[simp] def W7_5 := @C.wpe _ _ K7_5.eq_1
def K7_6 : C := .cond 18 (.v 21) (.skip) (.exit 2)
@[simp] def W7_6 := @C.wpe _ _ K7_6.eq_1
def K7_7 : C := .seq (.seq (.pl <| .st (.ext 18 4) <|
    .st (.act none (.px (some 18) (.mv (.v 17)))) <|
    .st (.act none (.px (some 19) (.mv (.v 12)))) <|
    .st (.act none (.px (some 20) (.lenV (.v 19)))) <|
    .st (.act none (.px (some 21) (.bin .lss (.v 18) (.v 20)))) .done) K7_6) K7_5
@[simp] def W7_7 := @C.wpe _ _ K7_7.eq_1
def K7_8 : C := .block 2 (.loop 18 [0, 1, 2, 3, 4, 5, 6, 7, 9, 13, 14, 15, 16] K7_7)
@[simp] def W7_8 := @C.wpe _ _ K7_8.eq_1
def K7_9 : C := .seq (.seq (.pl <| .st (.ext 18 0) <|
    .st (.act none (.px (some 17) (.mv (.c (.int .i64 0))))) .done) K7_8) K7_1
@[simp] def W7_9 := @C.wpe _ _ K7_9.eq_1
def K7_10 : C := .pl <| .st (.ext 18 2) <|
    .st (.act none (.px (some 18) (.mv (.v 13)))) <|
    .st (.act none (.px (some 19) (.bin .add (.v 18) (.c (.int .i64 1))))) <|
    .st (.act none (.px (some 13) (.mv (.v 19)))) .done
@[simp] def W7_10 := @C.wpe _ _ K7_10.eq_1
def K7_11 : C := .pl <| .st (.ext 18 3) <|
    .st (.act none (.px (some 18) (.mv (.v 12)))) <|
    .st (.act none (.px (some 19) (.mv (.v 16)))) <|
    .st (.act none (.px (some 20) (.ia 1 (.v 18) (.v 19)))) <|
    .st (.act none (.ex none (.store 1 (.v 20) (.c (.bool true))))) .done
@[simp] def W7_11 := @C.wpe _ _ K7_11.eq_1
def K7_12 : C := .seq (.pl <| .st (.ext 18 0) <|
    .st (.act none (.px (some 1) (.mv (.c (.bool false))))) .done) (.ret)
@[simp] def W7_12 := @C.wpe _ _ K7_12.eq_1
def K7_13 : C := .cond 18 (.v 23) K7_12 (.skip)
@[simp] def W7_13 := @C.wpe _ _ K7_13.eq_1
def K7_14 : C := .seq (.seq (.pl <| .st (.ext 18 6) <|
    .st (.act none (.px (some 18) (.mv (.v 15)))) <|
    .st (.act none (.px (some 19) (.un .not (.v 18)))) <|
    .st (.act none (.px (some 20) (.mv (.v 19)))) <|
    .st (.act (some (.v 20, false)) (.px (some 21) (.mv (.v 16)))) <|
    .st (.act (some (.v 20, false)) (.px (some 22) (.bin .lss (.v 21) (.c (.int .i64 0))))) <|
    .st (.act none (.px (some 23) (.pick (.v 20) (.c (.bool true)) (.v 22)))) .done) K7_13) K7_11
@[simp] def W7_14 := @C.wpe _ _ K7_14.eq_1
def K7_15 : Pl := .st (.act none (.px (some 16) (.mv (.v 20)))) .done
@[simp] def W7_15 := @Pl.wpe _ _ K7_15.eq_1
def K7_16 : C := .seq (.pl <| .st (.ext 18 3) <|
    .st (.act none (.pget (some 18) none 10 0 (some 2))) <|
    .st (.act none (.pget (some 19) none 14 0 (some 2))) <|
    .st (.act none (.ex (some 20) (.call fn_laws_wpState [.v 18, .v 19]))) K7_15) K7_14
@[simp] def W7_16 := @C.wpe _ _ K7_16.eq_1
def K7_17 : Pl := .st (.act none (.px (some 26) (.mv (.v 25)))) <|
    .st (.act none (.px (some 27) (.extract 0 (.v 26)))) <|
    .st (.act none (.px (some 28) (.extract 1 (.v 26)))) <|
    .st (.act none (.pset none 14 0 2 (.v 27))) <|
    .st (.act none (.px (some 15) (.mv (.v 28)))) .done
@[simp] def W7_17 := @Pl.wpe _ _ K7_17.eq_1
def K7_18 : C := .seq (.block 1 (.seq (.pl <| .st (.ext 18 11) <|
    .st (.act none (.pget (some 18) none 2 0 (some 2))) <|
    .st (.act none (.px (some 19) (.mv (.v 3)))) <|
    .st (.act none (.als 20 none 8)) <|
    .st (.act none (.pget (some 21) (some 20) 8 0 none)) <|
    .st (.act none (.px (some 22) (.mv (.v 13)))) <|
    .st (.act none (.px (some 23) (.ia 2 (.v 21) (.v 22)))) <|
    .st (.act none (.ld (some 24) (.v 23) (some 2))) <|
    .st (.act none (.pnew 14 (.c (.agg #[.slice none 0 0, .slice none 0 0])) [])) <|
    .st (.act none (.ex (some 25) (.call fn_impl_ProjectState [.v 18, .v 19, .v 24]))) K7_17) K7_16)) K7_10
@[simp] def W7_18 := @C.wpe _ _ K7_18.eq_1
def K7_19 : C := .cond 18 (.v 25) (.skip) (.exit 0)
@[simp] def W7_19 := @C.wpe _ _ K7_19.eq_1
def K7_20 : C := .seq (.seq (.pl <| .st (.ext 18 8) <|
    .st (.act none (.px (some 18) (.mv (.v 13)))) <|
    .st (.act none (.als 19 none 8)) <|
    .st (.act none (.pget (some 20) (some 19) 8 0 none)) <|
    .st (.act none (.px (some 21) (.lenV (.v 20)))) <|
    .st (.act none (.px (some 22) (.bin .lss (.v 18) (.v 21)))) <|
    .st (.act none (.px (some 23) (.mv (.v 22)))) <|
    .st (.act (some (.v 23, true)) (.px (some 24) (.mv (.v 11)))) <|
    .st (.act none (.px (some 25) (.pick (.v 23) (.v 24) (.c (.bool false))))) .done) K7_19) K7_18
@[simp] def W7_20 := @C.wpe _ _ K7_20.eq_1
def K7_21 : C := .block 0 (.loop 18 [0, 1, 4, 5, 6, 7, 9, 14, 15, 16, 17] K7_20)
@[simp] def W7_21 := @C.wpe _ _ K7_21.eq_1
def K7_22 : C := .seq (.seq (.pl <| .st (.ext 18 0) <|
    .st (.act none (.px (some 13) (.mv (.c (.int .i64 0))))) .done) K7_21) K7_9
@[simp] def W7_22 := @C.wpe _ _ K7_22.eq_1
def K7_23 : Pl := .st (.act none (.px (some 12) (.mv (.v 21)))) .done
@[simp] def W7_23 := @Pl.wpe _ _ K7_23.eq_1
def K7_24 : C := .seq (.pl <| .st (.ext 18 4) <|
    .st (.act none (.als 18 none 10)) <|
    .st (.act none (.pget (some 19) (some 18) 10 0 none)) <|
    .st (.act none (.px (some 20) (.lenV (.v 19)))) <|
    .st (.act none (.ex (some 21) (.mks 1 1 [.bool false] (.v 20) (.v 20)))) K7_23) K7_22
@[simp] def W7_24 := @C.wpe _ _ K7_24.eq_1
def K7_25 : Pl := .st (.act none (.px (some 20) (.mv (.v 19)))) <|
    .st (.act none (.px (some 21) (.extract 0 (.v 20)))) <|
    .st (.act none (.px (some 22) (.extract 1 (.v 20)))) <|
    .st (.act none (.pnew 10 (.c (.agg #[.slice none 0 0, .slice none 0 0])) [])) <|
    .st (.act none (.pset none 10 0 2 (.v 21))) <|
    .st (.act none (.px (some 11) (.mv (.v 22)))) .done
@[simp] def W7_25 := @Pl.wpe _ _ K7_25.eq_1
def K7_26 : C := .seq (.pl <| .st (.ext 18 5) <|
    .st (.act none (.pget (some 18) none 4 0 (some 2))) <|
    .st (.act none (.ex (some 19) (.call fn_impl_BuildGraph [.v 18]))) K7_25) K7_24
@[simp] def W7_26 := @C.wpe _ _ K7_26.eq_1
def K7_27 : C := .seq (.pl <| .st (.ext 18 0) <|
    .st (.act none (.px (some 1) (.mv (.c (.bool true))))) .done) (.ret)
@[simp] def W7_27 := @C.wpe _ _ K7_27.eq_1
def K7_28 : C := .cond 18 (.v 19) K7_27 (.skip)
@[simp] def W7_28 := @C.wpe _ _ K7_28.eq_1
def K7_29 : C := .seq (.seq (.pl <| .st (.ext 18 2) <|
    .st (.act none (.px (some 18) (.mv (.v 9)))) <|
    .st (.act none (.px (some 19) (.un .not (.v 18)))) .done) K7_28) K7_26
@[simp] def W7_29 := @C.wpe _ _ K7_29.eq_1
def K7_30 : Pl := .st (.act none (.px (some 20) (.mv (.v 19)))) <|
    .st (.act none (.px (some 21) (.extract 0 (.v 20)))) <|
    .st (.act none (.px (some 22) (.extract 1 (.v 20)))) <|
    .st (.act none (.pnew 8 (.c (.agg #[.slice none 0 0, .slice none 0 0])) [])) <|
    .st (.act none (.pset none 8 0 2 (.v 21))) <|
    .st (.act none (.px (some 9) (.mv (.v 22)))) .done
@[simp] def W7_30 := @Pl.wpe _ _ K7_30.eq_1
def K7_31 : C := .seq (.pl <| .st (.ext 18 5) <|
    .st (.act none (.pget (some 18) none 2 0 (some 2))) <|
    .st (.act none (.ex (some 19) (.call fn_impl_BuildGraph [.v 18]))) K7_30) K7_29
@[simp] def W7_31 := @C.wpe _ _ K7_31.eq_1
def K7_32 : Pl := .st (.act none (.px (some 25) (.pick (.v 21) (.v 24) (.c (.bool false))))) <|
    .st (.act none (.px (some 1) (.mv (.v 25)))) .done
@[simp] def W7_32 := @Pl.wpe _ _ K7_32.eq_1
def K7_33 : C := .seq (.pl <| .st (.ext 18 8) <|
    .st (.act none (.px (some 18) (.mv (.v 5)))) <|
    .st (.act none (.px (some 19) (.mv (.v 7)))) <|
    .st (.act none (.px (some 20) (.eqb false (.v 18) (.v 19)))) <|
    .st (.act none (.px (some 21) (.mv (.v 20)))) <|
    .st (.act (some (.v 21, true)) (.pget (some 22) none 4 0 (some 2))) <|
    .st (.act (some (.v 21, true)) (.pget (some 23) none 6 0 (some 2))) <|
    .st (.act (some (.v 21, true)) (.ex (some 24) (.call fn_impl_SystemSame [.v 22, .v 23]))) K7_32) (.ret)
@[simp] def W7_33 := @C.wpe _ _ K7_33.eq_1
def K7_34 : C := .cond 18 (.v 30) K7_33 (.skip)
@[simp] def W7_34 := @C.wpe _ _ K7_34.eq_1
def K7_35 : Pl := .st (.act (some (.v 21, false)) (.px (some 25) (.un .not (.v 24)))) <|
    .st (.act none (.px (some 26) (.pick (.v 21) (.c (.bool true)) (.v 25)))) <|
    .st (.act none (.px (some 27) (.mv (.v 26)))) <|
    .st (.act (some (.v 27, false)) (.px (some 28) (.mv (.v 5)))) <|
    .st (.act (some (.v 27, false)) (.px (some 29) (.un .not (.v 28)))) <|
    .st (.act none (.px (some 30) (.pick (.v 27) (.c (.bool true)) (.v 29)))) .done
@[simp] def W7_35 := @Pl.wpe _ _ K7_35.eq_1
def K7_36 : C := .seq (.seq (.pl <| .st (.ext 18 13) <|
    .st (.act none (.px (some 18) (.mv (.v 5)))) <|
    .st (.act none (.px (some 19) (.mv (.v 7)))) <|
    .st (.act none (.px (some 20) (.eqb true (.v 18) (.v 19)))) <|
    .st (.act none (.px (some 21) (.mv (.v 20)))) <|
    .st (.act (some (.v 21, false)) (.pget (some 22) none 4 0 (some 2))) <|
    .st (.act (some (.v 21, false)) (.pget (some 23) none 6 0 (some 2))) <|
    .st (.act (some (.v 21, false)) (.ex (some 24) (.call fn_impl_SystemSame [.v 22, .v 23]))) K7_35) K7_34) K7_31
@[simp] def W7_36 := @C.wpe _ _ K7_36.eq_1
def K7_37 : Pl := .st (.act none (.px (some 21) (.mv (.v 20)))) <|
    .st (.act none (.px (some 22) (.extract 0 (.v 21)))) <|
    .st (.act none (.px (some 23) (.extract 1 (.v 21)))) <|
    .st (.act none (.pnew 6 (.c (.agg #[.slice none 0 0, .slice none 0 0])) [])) <|
    .st (.act none (.pset none 6 0 2 (.v 22))) <|
    .st (.act none (.px (some 7) (.mv (.v 23)))) .done
@[simp] def W7_37 := @Pl.wpe _ _ K7_37.eq_1
def K7_38 : C := .seq (.pl <| .st (.ext 18 6) <|
    .st (.act none (.pget (some 18) none 2 0 (some 2))) <|
    .st (.act none (.px (some 19) (.mv (.v 3)))) <|
    .st (.act none (.ex (some 20) (.call fn_spec_SliceSystem [.v 18, .v 19]))) K7_37) K7_36
@[simp] def W7_38 := @C.wpe _ _ K7_38.eq_1
def K7_39 : Pl := .st (.act none (.px (some 21) (.mv (.v 20)))) <|
    .st (.act none (.px (some 22) (.extract 0 (.v 21)))) <|
    .st (.act none (.px (some 23) (.extract 1 (.v 21)))) <|
    .st (.act none (.pnew 4 (.c (.agg #[.slice none 0 0, .slice none 0 0])) [])) <|
    .st (.act none (.pset none 4 0 2 (.v 22))) <|
    .st (.act none (.px (some 5) (.mv (.v 23)))) .done
@[simp] def W7_39 := @Pl.wpe _ _ K7_39.eq_1
def K7_40 : C := .seq (.pl <| .st (.ext 18 6) <|
    .st (.act none (.pget (some 18) none 2 0 (some 2))) <|
    .st (.act none (.px (some 19) (.mv (.v 3)))) <|
    .st (.act none (.ex (some 20) (.call fn_impl_SliceSystem [.v 18, .v 19]))) K7_39) K7_38
@[simp] def W7_40 := @C.wpe _ _ K7_40.eq_1
def K7_41 : Pl := .st (.act none (.px (some 20) (.mv (.v 19)))) <|
    .st (.act none (.px (some 21) (.extract 0 (.v 20)))) <|
    .st (.act none (.px (some 22) (.extract 1 (.v 20)))) <|
    .st (.act none (.pnew 2 (.c (.agg #[.slice none 0 0, .slice none 0 0])) [])) <|
    .st (.act none (.pset none 2 0 2 (.v 21))) <|
    .st (.act none (.px (some 3) (.mv (.v 22)))) .done
@[simp] def W7_41 := @Pl.wpe _ _ K7_41.eq_1
def K7_42 : C := .seq (.pl <| .st (.ext 18 5) <|
    .st (.act none (.px (some 18) (.mv (.v 0)))) <|
    .st (.act none (.ex (some 19) (.call fn_spec_DrawSliceSystem [.v 18]))) K7_41) K7_40
@[simp] def W7_42 := @C.wpe _ _ K7_42.eq_1
def K7_43 : C := .seq (.pl <| .st (.ext 18 0) <|
    .st (.act none (.px (some 1) (.mv (.c (.bool true))))) .done) (.ret)
@[simp] def W7_43 := @C.wpe _ _ K7_43.eq_1
def K7_44 : C := .cond 18 (.v 20) K7_43 (.skip)
@[simp] def W7_44 := @C.wpe _ _ K7_44.eq_1
def K7_45 : C := .seq (.seq (.pl <| .st (.ext 18 3) <|
    .st (.act none (.px (some 18) (.mv (.v 0)))) <|
    .st (.act none (.px (some 19) (.lenV (.v 18)))) <|
    .st (.act none (.px (some 20) (.bin .gtr (.v 19) (.c (.int .i64 1048576))))) .done) K7_44) K7_42
@[simp] def W7_45 := @C.wpe _ _ K7_45.eq_1
def B_laws_FnSliceStates : C := .seq (.pl <| .st (.ext 18 0) <|
    .st (.act none (.px (some 1) (.mv (.c (.bool false))))) .done) K7_45
@[simp] def WB_laws_FnSliceStates := @C.wpe _ _ B_laws_FnSliceStates.eq_1
def R_laws_FnSliceStates : FIR := ⟨B_laws_FnSliceStates, 18, [(1, none)]⟩
theorem IR_laws_FnSliceStates : cfun Try.prog H_laws_FnSliceStates Try.f7 = some R_laws_FnSliceStates := by kernel_rfl
theorem EN_laws_FnSliceStates {args : List Value} {h : Heap} {k : Value → Heap → Prop} (hargs : args.length = 1) (hw : B_laws_FnSliceStates.wp Try.prog (retQ [(1, none)] k) (env0 args 18) h) : CallE Try.prog fn_laws_FnSliceStates args h k := enter Try.func7 rfl IR_laws_FnSliceStates hargs hw

def H_laws_wpState : Hint := ⟨[(0, false), (1, false), (2, true), (3, true), (4, false), (5, false)], [[0, 1, 4]]⟩
def K29_1 : C := .seq (.pl <| .st (.ext 6 0) <|
    .st (.act none (.px (some 4) (.mv (.c (.int .i64 (-1)))))) .done) (.ret)
@[simp] def W29_1 := @C.wpe _ _ K29_1.eq_1
def K29_2 : C := .pl <| .st (.ext 6 2) <|
    .st (.act none (.px (some 6) (.mv (.v 5)))) <|
    .st (.act none (.px (some 7) (.bin .add (.v 6) (.c (.int .i64 1))))) <|
    .st (.act none (.px (some 5) (.mv (.v 7)))) .done
@[simp] def W29_2 := @C.wpe _ _ K29_2.eq_1
def K29_3 : C := .seq (.pl <| .st (.ext 6 1) <|
    .st (.act none (.px (some 6) (.mv (.v 5)))) <|
    .st (.act none (.px (some 4) (.mv (.v 6)))) .done) (.ret)
@[simp] def W29_3 := @C.wpe _ _ K29_3.eq_1
def K29_4 : C := .cond 6 (.v 12) K29_3 (.skip)
@[simp] def W29_4 := @C.wpe _ _ K29_4.eq_1
def K29_5 : C := .seq (.block 1 (.seq (.pl <| .st (.ext 6 7) <|
    .st (.act none (.als 6 none 2)) <|
    .st (.act none (.pget (some 7) (some 6) 2 0 none)) <|
    .st (.act none (.px (some 8) (.mv (.v 5)))) <|
    .st (.act none (.px (some 9) (.ia 2 (.v 7) (.v 8)))) <|
    .st (.act none (.ld (some 10) (.v 9) (some 2))) <|
    .st (.act none (.pget (some 11) none 3 0 (some 2))) <|
    .st (.act none (.ex (some 12) (.call fn_impl_StateSame [.v 10, .v 11]))) .done) K29_4)) K29_2
@[simp] def W29_5 := @C.wpe _ _ K29_5.eq_1
def K29_6 : C := .cond 6 (.v 10) (.skip) (.exit 0)
@[simp] def W29_6 := @C.wpe _ _ K29_6.eq_1
def K29_7 : C := .seq (.seq (.pl <| .st (.ext 6 5) <|
    .st (.act none (.px (some 6) (.mv (.v 5)))) <|
    .st (.act none (.als 7 none 2)) <|
    .st (.act none (.pget (some 8) (some 7) 2 0 none)) <|
    .st (.act none (.px (some 9) (.lenV (.v 8)))) <|
    .st (.act none (.px (some 10) (.bin .lss (.v 6) (.v 9)))) .done) K29_6) K29_5
@[simp] def W29_7 := @C.wpe _ _ K29_7.eq_1
def K29_8 : C := .block 0 (.loop 6 [0, 1, 4] K29_7)
@[simp] def W29_8 := @C.wpe _ _ K29_8.eq_1
def K29_9 : C := .seq (.seq (.pl <| .st (.ext 6 0) <|
    .st (.act none (.px (some 5) (.mv (.c (.int .i64 0))))) .done) K29_8) K29_1
@[simp] def W29_9 := @C.wpe _ _ K29_9.eq_1
def B_laws_wpState : C := .seq (.pl <| .st (.ext 6 0) <|
    .st (.act none (.pnew 2 (.v 0) [])) <|
    .st (.act none (.pnew 3 (.v 1) [])) <|
    .st (.act none (.px (some 4) (.mv (.c (.int .i64 0))))) .done) K29_9
@[simp] def WB_laws_wpState := @C.wpe _ _ B_laws_wpState.eq_1
def R_laws_wpState : FIR := ⟨B_laws_wpState, 6, [(4, none)]⟩
theorem IR_laws_wpState : cfun Try.prog H_laws_wpState Try.f29 = some R_laws_wpState := by kernel_rfl
theorem EN_laws_wpState {args : List Value} {h : Heap} {k : Value → Heap → Prop} (hargs : args.length = 2) (hw : B_laws_wpState.wp Try.prog (retQ [(4, none)] k) (env0 args 6) h) : CallE Try.prog fn_laws_wpState args h k := enter Try.func29 rfl IR_laws_wpState hargs hw

def H_slices_EqualFunc_S_impl_Edge_S_impl_Edge_impl_Edge_impl_Edge : Hint := ⟨[(0, false), (1, false), (2, false), (6, false), (7, false), (8, true), (9, true), (15, false), (16, false), (17, false)], [[0, 3, 4, 5, 6]]⟩
def K65_1 : C := .seq (.pl <| .st (.ext 10 0) <|
    .st (.act none (.px (some 3) (.mv (.c (.bool true))))) .done) (.ret)
@[simp] def W65_1 := @C.wpe _ _ K65_1.eq_1
def K65_2 : C := .pl <| .st (.ext 10 1) <|
    .st (.act none (.px (some 10) (.bin .add (.v 9) (.c (.int .i64 1))))) <|
    .st (.act none (.px (some 9) (.mv (.v 10)))) .done
@[simp] def W65_2 := @C.wpe _ _ K65_2.eq_1
def K65_3 : C := .seq (.pl <| .st (.ext 10 0) <|
    .st (.act none (.px (some 3) (.mv (.c (.bool false))))) .done) (.ret)
@[simp] def W65_3 := @C.wpe _ _ K65_3.eq_1
def K65_4 : C := .cond 10 (.v 14) K65_3 (.skip)
@[simp] def W65_4 := @C.wpe _ _ K65_4.eq_1
def K65_5 : Pl := .st (.act none (.px (some 14) (.un .not (.v 13)))) .done
@[simp] def W65_5 := @Pl.wpe _ _ K65_5.eq_1
def K65_6 : C := .seq (.pl <| .st (.ext 10 5) <|
    .st (.act none (.px (some 10) (.mv (.v 2)))) <|
    .st (.act none (.pget (some 11) none 5 0 (some 10))) <|
    .st (.act none (.pget (some 12) none 6 0 (some 10))) <|
    .st (.act none (.ex (some 13) (.callv (.v 10) [.v 11, .v 12]))) K65_5) K65_4
@[simp] def W65_6 := @C.wpe _ _ K65_6.eq_1
def K65_7 : C := .seq (.pl <| .st (.ext 10 4) <|
    .st (.act none (.px (some 10) (.mv (.v 1)))) <|
    .st (.act none (.px (some 11) (.mv (.v 4)))) <|
    .st (.act none (.px (some 12) (.ia 10 (.v 10) (.v 11)))) <|
    .st (.act none (.ld (some 13) (.v 12) (some 10))) <|
    .st (.act none (.pnew 6 (.c (.agg #[.int .i64 0, .int .i64 0, .int .i64 0, .int .i64 0, .slice none 0 0, .int .i64 0, .int .i64 0, .int .i64 0, .slice none 0 0, .int .i64 0])) [])) <|
    .st (.act none (.pset none 6 0 10 (.v 13))) .done) K65_6
@[simp] def W65_7 := @C.wpe _ _ K65_7.eq_1
def K65_8 : C := .seq (.block 1 (.seq (.pl <| .st (.ext 10 3) <|
    .st (.act none (.px (some 10) (.mv (.v 9)))) <|
    .st (.act none (.px (some 11) (.ia 10 (.v 7) (.v 9)))) <|
    .st (.act none (.ld (some 12) (.v 11) (some 10))) <|
    .st (.act none (.pnew 5 (.c (.agg #[.int .i64 0, .int .i64 0, .int .i64 0, .int .i64 0, .slice none 0 0, .int .i64 0, .int .i64 0, .int .i64 0, .slice none 0 0, .int .i64 0])) [])) <|
    .st (.act none (.px (some 4) (.mv (.v 10)))) <|
    .st (.act none (.pset none 5 0 10 (.v 12))) .done) K65_7)) K65_2
@[simp] def W65_8 := @C.wpe _ _ K65_8.eq_1
def K65_9 : C := .seq (.cond 10 (.v 10) (.skip) (.exit 0)) K65_8
@[simp] def W65_9 := @C.wpe _ _ K65_9.eq_1
def K65_10 : C := .seq (.pl <| .st (.ext 10 1) <|
    .st (.act none (.px (some 10) (.bin .lss (.v 9) (.v 8)))) .done) K65_9
@[simp] def W65_10 := @C.wpe _ _ K65_10.eq_1
def K65_11 : C := .block 0 (.loop 10 [0, 3, 4, 5, 6] K65_10)
@[simp] def W65_11 := @C.wpe _ _ K65_11.eq_1
def K65_12 : C := .seq (.seq (.pl <| .st (.ext 10 0) <|
    .st (.act none (.px (some 7) (.mv (.v 0)))) <|
    .st (.act none (.px (some 8) (.lenV (.v 7)))) <|
    .st (.act none (.px (some 9) (.mv (.c (.int .i64 0))))) .done) K65_11) K65_1
@[simp] def W65_12 := @C.wpe _ _ K65_12.eq_1
def K65_13 : C := .seq (.pl <| .st (.ext 10 0) <|
    .st (.act none (.px (some 3) (.mv (.c (.bool false))))) .done) (.ret)
@[simp] def W65_13 := @C.wpe _ _ K65_13.eq_1
def K65_14 : C := .cond 10 (.v 14) K65_13 (.skip)
@[simp] def W65_14 := @C.wpe _ _ K65_14.eq_1
def K65_15 : C := .seq (.seq (.pl <| .st (.ext 10 5) <|
    .st (.act none (.px (some 10) (.mv (.v 0)))) <|
    .st (.act none (.px (some 11) (.lenV (.v 10)))) <|
    .st (.act none (.px (some 12) (.mv (.v 1)))) <|
    .st (.act none (.px (some 13) (.lenV (.v 12)))) <|
    .st (.act none (.px (some 14) (.bin .neq (.v 11) (.v 13)))) .done) K65_14) K65_12
@[simp] def W65_15 := @C.wpe _ _ K65_15.eq_1
def B_slices_EqualFunc_S_impl_Edge_S_impl_Edge_impl_Edge_impl_Edge : C := .seq (.pl <| .st (.ext 10 0) <|
    .st (.act none (.px (some 3) (.mv (.c (.bool false))))) .done) K65_15
@[simp] def WB_slices_EqualFunc_S_impl_Edge_S_impl_Edge_impl_Edge_impl_Edge := @C.wpe _ _ B_slices_EqualFunc_S_impl_Edge_S_impl_Edge_impl_Edge_impl_Edge.eq_1
def R_slices_EqualFunc_S_impl_Edge_S_impl_Edge_impl_Edge_impl_Edge : FIR := ⟨B_slices_EqualFunc_S_impl_Edge_S_impl_Edge_impl_Edge_impl_Edge, 10, [(3, none)]⟩
theorem IR_slices_EqualFunc_S_impl_Edge_S_impl_Edge_impl_Edge_impl_Edge : cfun Try.prog H_slices_EqualFunc_S_impl_Edge_S_impl_Edge_impl_Edge_impl_Edge Try.f65 = some R_slices_EqualFunc_S_impl_Edge_S_impl_Edge_impl_Edge_impl_Edge := by kernel_rfl
theorem EN_slices_EqualFunc_S_impl_Edge_S_impl_Edge_impl_Edge_impl_Edge {args : List Value} {h : Heap} {k : Value → Heap → Prop} (hargs : args.length = 3) (hw : B_slices_EqualFunc_S_impl_Edge_S_impl_Edge_impl_Edge_impl_Edge.wp Try.prog (retQ [(3, none)] k) (env0 args 10) h) : CallE Try.prog fn_slices_EqualFunc_S_impl_Edge_S_impl_Edge_impl_Edge_impl_Edge args h k := enter Try.func65 rfl IR_slices_EqualFunc_S_impl_Edge_S_impl_Edge_impl_Edge_impl_Edge hargs hw

def H_slices_EqualFunc_S_impl_Process_S_impl_Process_impl_Process_impl_Process : Hint := ⟨[(0, false), (1, false), (2, false), (6, false), (7, false), (8, true), (9, true), (15, false), (16, false), (17, false)], [[0, 3, 4, 5, 6]]⟩
def K63_1 : C := .seq (.pl <| .st (.ext 10 0) <|
    .st (.act none (.px (some 3) (.mv (.c (.bool true))))) .done) (.ret)
@[simp] def W63_1 := @C.wpe _ _ K63_1.eq_1
def K63_2 : C := .pl <| .st (.ext 10 1) <|
    .st (.act none (.px (some 10) (.bin .add (.v 9) (.c (.int .i64 1))))) <|
    .st (.act none (.px (some 9) (.mv (.v 10)))) .done
@[simp] def W63_2 := @C.wpe _ _ K63_2.eq_1
def K63_3 : C := .seq (.pl <| .st (.ext 10 0) <|
    .st (.act none (.px (some 3) (.mv (.c (.bool false))))) .done) (.ret)
@[simp] def W63_3 := @C.wpe _ _ K63_3.eq_1
def K63_4 : C := .cond 10 (.v 14) K63_3 (.skip)
@[simp] def W63_4 := @C.wpe _ _ K63_4.eq_1
def K63_5 : Pl := .st (.act none (.px (some 14) (.un .not (.v 13)))) .done
@[simp] def W63_5 := @Pl.wpe _ _ K63_5.eq_1
def K63_6 : C := .seq (.pl <| .st (.ext 10 5) <|
    .st (.act none (.px (some 10) (.mv (.v 2)))) <|
    .st (.act none (.pget (some 11) none 5 0 (some 2))) <|
    .st (.act none (.pget (some 12) none 6 0 (some 2))) <|
    .st (.act none (.ex (some 13) (.callv (.v 10) [.v 11, .v 12]))) K63_5) K63_4
@[simp] def W63_6 := @C.wpe _ _ K63_6.eq_1
def K63_7 : C := .seq (.pl <| .st (.ext 10 4) <|
    .st (.act none (.px (some 10) (.mv (.v 1)))) <|
    .st (.act none (.px (some 11) (.mv (.v 4)))) <|
    .st (.act none (.px (some 12) (.ia 2 (.v 10) (.v 11)))) <|
    .st (.act none (.ld (some 13) (.v 12) (some 2))) <|
    .st (.act none (.pnew 6 (.c (.agg #[.int .i64 0, .slice none 0 0])) [])) <|
    .st (.act none (.pset none 6 0 2 (.v 13))) .done) K63_6
@[simp] def W63_7 := @C.wpe _ _ K63_7.eq_1
def K63_8 : C := .seq (.block 1 (.seq (.pl <| .st (.ext 10 3) <|
    .st (.act none (.px (some 10) (.mv (.v 9)))) <|
    .st (.act none (.px (some 11) (.ia 2 (.v 7) (.v 9)))) <|
    .st (.act none (.ld (some 12) (.v 11) (some 2))) <|
    .st (.act none (.pnew 5 (.c (.agg #[.int .i64 0, .slice none 0 0])) [])) <|
    .st (.act none (.px (some 4) (.mv (.v 10)))) <|
    .st (.act none (.pset none 5 0 2 (.v 12))) .done) K63_7)) K63_2
@[simp] def W63_8 := @C.wpe _ _ K63_8.eq_1
def K63_9 : C := .seq (.cond 10 (.v 10) (.skip) (.exit 0)) K63_8
@[simp] def W63_9 := @C.wpe _ _ K63_9.eq_1
def K63_10 : C := .seq (.pl <| .st (.ext 10 1) <|
    .st (.act none (.px (some 10) (.bin .lss (.v 9) (.v 8)))) .done) K63_9
@[simp] def W63_10 := @C.wpe _ _ K63_10.eq_1
def K63_11 : C := .block 0 (.loop 10 [0, 3, 4, 5, 6] K63_10)
@[simp] def W63_11 := @C.wpe _ _ K63_11.eq_1
def K63_12 : C := .seq (.seq (.pl <| .st (.ext 10 0) <|
    .st (.act none (.px (some 7) (.mv (.v 0)))) <|
    .st (.act none (.px (some 8) (.lenV (.v 7)))) <|
    .st (.act none (.px (some 9) (.mv (.c (.int .i64 0))))) .done) K63_11) K63_1
@[simp] def W63_12 := @C.wpe _ _ K63_12.eq_1
def K63_13 : C := .seq (.pl <| .st (.ext 10 0) <|
    .st (.act none (.px (some 3) (.mv (.c (.bool false))))) .done) (.ret)
@[simp] def W63_13 := @C.wpe _ _ K63_13.eq_1
def K63_14 : C := .cond 10 (.v 14) K63_13 (.skip)
@[simp] def W63_14 := @C.wpe _ _ K63_14.eq_1
def K63_15 : C := .seq (.seq (.pl <| .st (.ext 10 5) <|
    .st (.act none (.px (some 10) (.mv (.v 0)))) <|
    .st (.act none (.px (some 11) (.lenV (.v 10)))) <|
    .st (.act none (.px (some 12) (.mv (.v 1)))) <|
    .st (.act none (.px (some 13) (.lenV (.v 12)))) <|
    .st (.act none (.px (some 14) (.bin .neq (.v 11) (.v 13)))) .done) K63_14) K63_12
@[simp] def W63_15 := @C.wpe _ _ K63_15.eq_1
def B_slices_EqualFunc_S_impl_Process_S_impl_Process_impl_Process_impl_Process : C := .seq (.pl <| .st (.ext 10 0) <|
    .st (.act none (.px (some 3) (.mv (.c (.bool false))))) .done) K63_15
@[simp] def WB_slices_EqualFunc_S_impl_Process_S_impl_Process_impl_Process_impl_Process := @C.wpe _ _ B_slices_EqualFunc_S_impl_Process_S_impl_Process_impl_Process_impl_Process.eq_1
def R_slices_EqualFunc_S_impl_Process_S_impl_Process_impl_Process_impl_Process : FIR := ⟨B_slices_EqualFunc_S_impl_Process_S_impl_Process_impl_Process_impl_Process, 10, [(3, none)]⟩
theorem IR_slices_EqualFunc_S_impl_Process_S_impl_Process_impl_Process_impl_Process : cfun Try.prog H_slices_EqualFunc_S_impl_Process_S_impl_Process_impl_Process_impl_Process Try.f63 = some R_slices_EqualFunc_S_impl_Process_S_impl_Process_impl_Process_impl_Process := by kernel_rfl
theorem EN_slices_EqualFunc_S_impl_Process_S_impl_Process_impl_Process_impl_Process {args : List Value} {h : Heap} {k : Value → Heap → Prop} (hargs : args.length = 3) (hw : B_slices_EqualFunc_S_impl_Process_S_impl_Process_impl_Process_impl_Process.wp Try.prog (retQ [(3, none)] k) (env0 args 10) h) : CallE Try.prog fn_slices_EqualFunc_S_impl_Process_S_impl_Process_impl_Process_impl_Process args h k := enter Try.func63 rfl IR_slices_EqualFunc_S_impl_Process_S_impl_Process_impl_Process_impl_Process hargs hw

def H_spec_DrawRelevantVars : Hint := ⟨[(0, false), (2, true), (3, false), (4, false), (5, false)], []⟩
def K61_1 : Pl := .st (.act none (.px (some 9) (.mv (.v 4)))) <|
    .st (.act none (.pset none 1 0 2 (.v 8))) <|
    .st (.act none (.px (some 2) (.mv (.v 9)))) .done
@[simp] def W61_1 := @Pl.wpe _ _ K61_1.eq_1
def K61_2 : Pl := .st (.act none (.ex (some 8) (.call fn_spec_l2Mutate [.v 5, .v 7]))) K61_1
@[simp] def W61_2 := @Pl.wpe _ _ K61_2.eq_1
def K61_3 : C := .seq (.pl <| .st (.ext 5 5) <|
    .st (.act none (.px (some 5) (.mv (.v 3)))) <|
    .st (.act none (.px (some 6) (.mv (.v 3)))) <|
    .st (.act none (.ex (some 7) (.call fn_spec_l14System [.v 6]))) K61_2) (.ret)
@[simp] def W61_3 := @C.wpe _ _ K61_3.eq_1
def K61_4 : Pl := .st (.act none (.px (some 4) (.mv (.v 6)))) .done
@[simp] def W61_4 := @Pl.wpe _ _ K61_4.eq_1
def K61_5 : C := .seq (.pl <| .st (.ext 5 2) <|
    .st (.act none (.px (some 5) (.mv (.v 3)))) <|
    .st (.act none (.ex (some 6) (.call fn_spec_l14Labels [.v 5]))) K61_4) K61_3
@[simp] def W61_5 := @C.wpe _ _ K61_5.eq_1
def K61_6 : Pl := .st (.act none (.px (some 3) (.mv (.v 6)))) .done
@[simp] def W61_6 := @Pl.wpe _ _ K61_6.eq_1
def K61_7 : C := .seq (.pl <| .st (.ext 5 2) <|
    .st (.act none (.px (some 5) (.mv (.v 0)))) <|
    .st (.act none (.ex (some 6) (.call fn_spec_l16Open [.v 5]))) K61_6) K61_5
@[simp] def W61_7 := @C.wpe _ _ K61_7.eq_1
def B_spec_DrawRelevantVars : C := .seq (.pl <| .st (.ext 5 0) <|
    .st (.act none (.pnew 1 (.c (.agg #[.slice none 0 0, .slice none 0 0])) [])) <|
    .st (.act none (.px (some 2) (.mv (.c (.slice none 0 0))))) .done) K61_7
@[simp] def WB_spec_DrawRelevantVars := @C.wpe _ _ B_spec_DrawRelevantVars.eq_1
def R_spec_DrawRelevantVars : FIR := ⟨B_spec_DrawRelevantVars, 5, [(1, some (some 2)), (2, none)]⟩
theorem IR_spec_DrawRelevantVars : cfun Try.prog H_spec_DrawRelevantVars Try.f61 = some R_spec_DrawRelevantVars := by kernel_rfl
theorem EN_spec_DrawRelevantVars {args : List Value} {h : Heap} {k : Value → Heap → Prop} (hargs : args.length = 1) (hw : B_spec_DrawRelevantVars.wp Try.prog (retQ [(1, some (some 2)), (2, none)] k) (env0 args 5) h) : CallE Try.prog fn_spec_DrawRelevantVars args h k := enter Try.func61 rfl IR_spec_DrawRelevantVars hargs hw

def H_spec_DrawSliceSystem : Hint := ⟨[(0, false), (2, true), (3, false)], []⟩
def K26_1 : Pl := .st (.act none (.px (some 5) (.extract 0 (.v 4)))) <|
    .st (.act none (.px (some 6) (.extract 1 (.v 4)))) <|
    .st (.act none (.pset none 1 0 2 (.v 5))) <|
    .st (.act none (.px (some 2) (.mv (.v 6)))) .done
@[simp] def W26_1 := @Pl.wpe _ _ K26_1.eq_1
def K26_2 : C := .seq (.pl <| .st (.ext 3 4) <|
    .st (.act none (.px (some 3) (.mv (.v 0)))) <|
    .st (.act none (.ex (some 4) (.call fn_spec_DrawRelevantVars [.v 3]))) K26_1) (.ret)
@[simp] def W26_2 := @C.wpe _ _ K26_2.eq_1
def B_spec_DrawSliceSystem : C := .seq (.pl <| .st (.ext 3 0) <|
    .st (.act none (.pnew 1 (.c (.agg #[.slice none 0 0, .slice none 0 0])) [])) <|
    .st (.act none (.px (some 2) (.mv (.c (.slice none 0 0))))) .done) K26_2
@[simp] def WB_spec_DrawSliceSystem := @C.wpe _ _ B_spec_DrawSliceSystem.eq_1
def R_spec_DrawSliceSystem : FIR := ⟨B_spec_DrawSliceSystem, 3, [(1, some (some 2)), (2, none)]⟩
theorem IR_spec_DrawSliceSystem : cfun Try.prog H_spec_DrawSliceSystem Try.f26 = some R_spec_DrawSliceSystem := by kernel_rfl
theorem EN_spec_DrawSliceSystem {args : List Value} {h : Heap} {k : Value → Heap → Prop} (hargs : args.length = 1) (hw : B_spec_DrawSliceSystem.wp Try.prog (retQ [(1, some (some 2)), (2, none)] k) (env0 args 3) h) : CallE Try.prog fn_spec_DrawSliceSystem args h k := enter Try.func26 rfl IR_spec_DrawSliceSystem hargs hw

def H_spec_SliceSystem : Hint := ⟨[(0, false), (1, false), (2, true), (4, true), (5, false), (6, false), (7, false), (8, true), (9, false), (10, false), (11, true)], [[0, 1, 2, 4, 6, 9, 10], [0, 1, 2, 4, 6, 10]]⟩
def K27_1 : C := .seq (.pl <| .st (.ext 11 1) <|
    .st (.act none (.pget (some 11) none 7 0 (some 2))) <|
    .st (.act none (.pset none 3 0 2 (.v 11))) <|
    .st (.act none (.px (some 4) (.mv (.c (.bool true))))) .done) (.ret)
@[simp] def W27_1 := @C.wpe _ _ K27_1.eq_1
def K27_2 : C := .pl <| .st (.ext 11 2) <|
    .st (.act none (.px (some 11) (.mv (.v 8)))) <|
    .st (.act none (.px (some 12) (.bin .add (.v 11) (.c (.int .i64 1))))) <|
    .st (.act none (.px (some 8) (.mv (.v 12)))) .done
@[simp] def W27_2 := @C.wpe _ _ K27_2.eq_1
def K27_3 : C := .pl <| .st (.ext 11 2) <|
    .st (.act none (.px (some 11) (.mv (.v 9)))) <|
    .st (.act none (.px (some 12) (.bin .add (.v 11) (.c (.int .i64 1))))) <|
    .st (.act none (.px (some 9) (.mv (.v 12)))) .done
@[simp] def W27_3 := @C.wpe _ _ K27_3.eq_1
def K27_4 : C := .pl <| .st (.ext 11 9) <|
    .st (.act none (.als 11 none 7)) <|
    .st (.act none (.pget (some 12) (some 11) 7 1 none)) <|
    .st (.act none (.px (some 13) (.mv (.v 8)))) <|
    .st (.act none (.px (some 14) (.ia 2 (.v 12) (.v 13)))) <|
    .st (.act none (.px (some 15) (.fa 1 (.v 14)))) <|
    .st (.act none (.ld (some 16) (.v 15) none)) <|
    .st (.act none (.px (some 17) (.mv (.v 9)))) <|
    .st (.act none (.pget (some 18) none 10 0 (some 10))) <|
    .st (.act none (.px (some 19) (.ia 10 (.v 16) (.v 17)))) <|
    .st (.act none (.ex none (.store 10 (.v 19) (.v 18)))) .done
@[simp] def W27_4 := @C.wpe _ _ K27_4.eq_1
def K27_5 : C := .seq (.pl <| .st (.ext 11 2) <|
    .st (.act none (.px (some 11) (.build [.int .i64 0, .int .i64 0, .slice none 0 0] []))) <|
    .st (.act none (.als 12 none 10)) <|
    .st (.act none (.pset (some 12) 10 6 3 (.v 11))) .done) K27_4
@[simp] def W27_5 := @C.wpe _ _ K27_5.eq_1
def K27_6 : C := .seq (.pl <| .st (.ext 11 1) <|
    .st (.act none (.als 11 none 10)) <|
    .st (.act none (.pset (some 11) 10 5 1 (.c (.int .i64 (-1))))) .done) K27_5
@[simp] def W27_6 := @C.wpe _ _ K27_6.eq_1
def K27_7 : C := .cond 11 (.v 21) K27_6 (.skip)
@[simp] def W27_7 := @C.wpe _ _ K27_7.eq_1
def K27_8 : C := .seq (.pl <| .st (.ext 11 11) <|
    .st (.act none (.als 11 none 10)) <|
    .st (.act none (.pget (some 12) (some 11) 10 5 none)) <|
    .st (.act none (.px (some 13) (.bin .geq (.v 12) (.c (.int .i64 0))))) <|
    .st (.act none (.px (some 14) (.mv (.v 13)))) <|
    .st (.act (some (.v 14, true)) (.px (some 15) (.mv (.v 5)))) <|
    .st (.act (some (.v 14, true)) (.als 16 none 10)) <|
    .st (.act (some (.v 14, true)) (.pget (some 17) (some 16) 10 5 none)) <|
    .st (.act (some (.v 14, true)) (.px (some 18) (.ia 1 (.v 15) (.v 17)))) <|
    .st (.act (some (.v 14, true)) (.ld (some 19) (.v 18) none)) <|
    .st (.act (some (.v 14, true)) (.px (some 20) (.un .not (.v 19)))) <|
    .st (.act none (.px (some 21) (.pick (.v 14) (.v 20) (.c (.bool false))))) .done) K27_7
@[simp] def W27_8 := @C.wpe _ _ K27_8.eq_1
def K27_9 : C := .seq (.block 3 (.seq (.pl <| .st (.ext 11 9) <|
    .st (.act none (.als 11 none 7)) <|
    .st (.act none (.pget (some 12) (some 11) 7 1 none)) <|
    .st (.act none (.px (some 13) (.mv (.v 8)))) <|
    .st (.act none (.px (some 14) (.ia 2 (.v 12) (.v 13)))) <|
    .st (.act none (.px (some 15) (.fa 1 (.v 14)))) <|
    .st (.act none (.ld (some 16) (.v 15) none)) <|
    .st (.act none (.px (some 17) (.mv (.v 9)))) <|
    .st (.act none (.px (some 18) (.ia 10 (.v 16) (.v 17)))) <|
    .st (.act none (.ld (some 19) (.v 18) (some 10))) <|
    .st (.act none (.pnew 10 (.c (.agg #[.int .i64 0, .int .i64 0, .int .i64 0, .int .i64 0, .slice none 0 0, .int .i64 0, .int .i64 0, .int .i64 0, .slice none 0 0, .int .i64 0])) [])) <|
    .st (.act none (.pset none 10 0 10 (.v 19))) .done) K27_8)) K27_3
@[simp] def W27_9 := @C.wpe _ _ K27_9.eq_1
def K27_10 : C := .cond 11 (.v 19) (.skip) (.exit 2)
@[simp] def W27_10 := @C.wpe _ _ K27_10.eq_1
def K27_11 : C := .seq (.seq (.pl <| .st (.ext 11 9) <|
    .st (.act none (.px (some 11) (.mv (.v 9)))) <|
    .st (.act none (.als 12 none 7)) <|
    .st (.act none (.pget (some 13) (some 12) 7 1 none)) <|
    .st (.act none (.px (some 14) (.mv (.v 8)))) <|
    .st (.act none (.px (some 15) (.ia 2 (.v 13) (.v 14)))) <|
    .st (.act none (.px (some 16) (.fa 1 (.v 15)))) <|
    .st (.act none (.ld (some 17) (.v 16) none)) <|
    .st (.act none (.px (some 18) (.lenV (.v 17)))) <|
    .st (.act none (.px (some 19) (.bin .lss (.v 11) (.v 18)))) .done) K27_10) K27_9
@[simp] def W27_11 := @C.wpe _ _ K27_11.eq_1
def K27_12 : C := .block 2 (.loop 11 [0, 1, 2, 4, 6, 10] K27_11)
@[simp] def W27_12 := @C.wpe _ _ K27_12.eq_1
def K27_13 : C := .seq (.block 1 (.seq (.pl <| .st (.ext 11 0) <|
    .st (.act none (.px (some 9) (.mv (.c (.int .i64 0))))) .done) K27_12)) K27_2
@[simp] def W27_13 := @C.wpe _ _ K27_13.eq_1
def K27_14 : C := .cond 11 (.v 15) (.skip) (.exit 0)
@[simp] def W27_14 := @C.wpe _ _ K27_14.eq_1
def K27_15 : C := .seq (.seq (.pl <| .st (.ext 11 5) <|
    .st (.act none (.px (some 11) (.mv (.v 8)))) <|
    .st (.act none (.als 12 none 7)) <|
    .st (.act none (.pget (some 13) (some 12) 7 1 none)) <|
    .st (.act none (.px (some 14) (.lenV (.v 13)))) <|
    .st (.act none (.px (some 15) (.bin .lss (.v 11) (.v 14)))) .done) K27_14) K27_13
@[simp] def W27_15 := @C.wpe _ _ K27_15.eq_1
def K27_16 : C := .block 0 (.loop 11 [0, 1, 2, 4, 6, 9, 10] K27_15)
@[simp] def W27_16 := @C.wpe _ _ K27_16.eq_1
def K27_17 : C := .seq (.seq (.pl <| .st (.ext 11 0) <|
    .st (.act none (.px (some 8) (.mv (.c (.int .i64 0))))) .done) K27_16) K27_1
@[simp] def W27_17 := @C.wpe _ _ K27_17.eq_1
def K27_18 : Pl := .st (.act none (.pnew 7 (.c (.agg #[.slice none 0 0, .slice none 0 0])) [])) <|
    .st (.act none (.pset none 7 0 2 (.v 12))) .done
@[simp] def W27_18 := @Pl.wpe _ _ K27_18.eq_1
def K27_19 : C := .seq (.pl <| .st (.ext 11 2) <|
    .st (.act none (.pget (some 11) none 2 0 (some 2))) <|
    .st (.act none (.ex (some 12) (.call fn_spec_l2Copy [.v 11]))) K27_18) K27_17
@[simp] def W27_19 := @C.wpe _ _ K27_19.eq_1
def K27_20 : C := .seq (.pl <| .st (.ext 11 1) <|
    .st (.act none (.px (some 11) (.build [.slice none 0 0, .slice none 0 0] []))) <|
    .st (.act none (.pset none 3 0 2 (.v 11))) <|
    .st (.act none (.px (some 4) (.mv (.c (.bool false))))) .done) (.ret)
@[simp] def W27_20 := @C.wpe _ _ K27_20.eq_1
def K27_21 : C := .cond 11 (.v 12) K27_20 (.skip)
@[simp] def W27_21 := @C.wpe _ _ K27_21.eq_1
def K27_22 : C := .seq (.seq (.pl <| .st (.ext 11 2) <|
    .st (.act none (.px (some 11) (.mv (.v 6)))) <|
    .st (.act none (.px (some 12) (.un .not (.v 11)))) .done) K27_21) K27_19
@[simp] def W27_22 := @C.wpe _ _ K27_22.eq_1
def K27_23 : Pl := .st (.act none (.px (some 14) (.mv (.v 13)))) <|
    .st (.act none (.px (some 15) (.extract 0 (.v 14)))) <|
    .st (.act none (.px (some 16) (.extract 1 (.v 14)))) <|
    .st (.act none (.px (some 5) (.mv (.v 15)))) <|
    .st (.act none (.px (some 6) (.mv (.v 16)))) .done
@[simp] def W27_23 := @Pl.wpe _ _ K27_23.eq_1
def K27_24 : C := .seq (.pl <| .st (.ext 11 6) <|
    .st (.act none (.pget (some 11) none 2 0 (some 2))) <|
    .st (.act none (.px (some 12) (.mv (.v 1)))) <|
    .st (.act none (.ex (some 13) (.call fn_spec_RelevantVars [.v 11, .v 12]))) K27_23) K27_22
@[simp] def W27_24 := @C.wpe _ _ K27_24.eq_1
def B_spec_SliceSystem : C := .seq (.pl <| .st (.ext 11 0) <|
    .st (.act none (.pnew 2 (.v 0) [])) <|
    .st (.act none (.pnew 3 (.c (.agg #[.slice none 0 0, .slice none 0 0])) [])) <|
    .st (.act none (.px (some 4) (.mv (.c (.bool false))))) .done) K27_24
@[simp] def WB_spec_SliceSystem := @C.wpe _ _ B_spec_SliceSystem.eq_1
def R_spec_SliceSystem : FIR := ⟨B_spec_SliceSystem, 11, [(3, some (some 2)), (4, none)]⟩
theorem IR_spec_SliceSystem : cfun Try.prog H_spec_SliceSystem Try.f27 = some R_spec_SliceSystem := by kernel_rfl
theorem EN_spec_SliceSystem {args : List Value} {h : Heap} {k : Value → Heap → Prop} (hargs : args.length = 2) (hw : B_spec_SliceSystem.wp Try.prog (retQ [(3, some (some 2)), (4, none)] k) (env0 args 11) h) : CallE Try.prog fn_spec_SliceSystem args h k := enter Try.func27 rfl IR_spec_SliceSystem hargs hw


end Go.Proofs.Ytonjglbachhdcaa

/-
  Bodies of functions in the small language, as a program printed them, and that each is what the translation gives.
-/
namespace Go.Proofs.Ytonjglbachhdcaa
open Go
set_option linter.all false
set_option linter.defProp false
set_option maxRecDepth 1000000

end Go.Proofs.Ytonjglbachhdcaa

/-
  Bodies of functions in the small language, as a program printed them, and that each is what the translation gives.
-/
namespace Go.Proofs.Ytonjglbachhdcaa
open Go
set_option linter.all false
set_option linter.defProp false
set_option maxRecDepth 1000000

end Go.Proofs.Ytonjglbachhdcaa

/-
  Bodies of functions in the small language, as a program printed them, and that each is what the translation gives.
-/
namespace Go.Proofs.Ytonjglbachhdcaa
open Go
set_option linter.all false
set_option linter.defProp false
set_option maxRecDepth 1000000

end Go.Proofs.Ytonjglbachhdcaa

/-
  Arguments of laws: expressions that are drawn.
-/
namespace Go.Proofs.Ytonjglbachhdcaa
open Go
set_option linter.all false
set_option linter.unusedVariables false
set_option linter.unusedSimpArgs false
set_option linter.defProp false
set_option maxRecDepth 1000000

theorem okL {xs : List Int} (h : ∀ x ∈ xs, -9223372036854775808 ≤ x ∧ x < 9223372036854775808) : ∀ x ∈ xs, Flat.ok x := h
theorem Exq.nods_append : ∀ {l l2 : List Exq}, Exq.nods (l ++ l2) = Exq.nods l + Exq.nods l2
  | [], _ => by simp [Exq.nods]
  | x :: l, l2 => by simp [Exq.nods, Exq.nods_append (l := l) (l2 := l2)]; omega
theorem Exq.arity_le {k : Int} : Exq.arity k ≤ 2 := by
  unfold Exq.arity; repeat' split
  all_goals omega
theorem Exq.arity_ge {k : Int} : -1 ≤ Exq.arity k := by
  unfold Exq.arity; repeat' split
  all_goals omega

theorem c_l1Random {b : Nat} {sl : Value} {l : List (BitVec 8)} : ∀ (d : Nat), d ≤ 4 → ∀ {g h : Heap} {Γ : List HP} {p : Int}, Rep g sl l → HS g (rb b sl p :: Γ) h → 0 ≤ p → p + 4 * (2 ^ d : Nat) ≤ 1000000000000 →
    CallE Try.prog fn_spec_l1Random [.pointer (some ⟨b, 0, none⟩), .int .i64 d] h (fun u h' => ∃ (y : Exq) (p' : Int), HS g (ow u y :: rb b sl p' :: Γ) h' ∧ y.nod < 2 ^ (d + 1) ∧ p ≤ p' ∧ p' ≤ p + (4 * (2 ^ d : Nat) - 2)) := by
  intro d
  induction d with
  | zero =>
    intro _ g h Γ p R H hp hp2
    refine CallE.gen fun k hk => EN_spec_l1Random rfl ?_
    simp -implicitDefEqProofs (disch := first | omega | (simp only [List.length_set, List.length_replicate, List.length_append, List.length_map, List.length_take, List.length_cons, List.length_nil]; omega)) [wrap64]
    refine (c_pick R H (by omega) (by omega) ⟨by decide, by decide⟩).go ?_
    rintro _ hL1 ⟨r1, rfl, o1, z1, y1, H⟩
    by_cases c1 : r1 = 0
    · simp -implicitDefEqProofs (disch := first | omega | (simp only [List.length_set, List.length_replicate, List.length_append, List.length_map, List.length_take, List.length_cons, List.length_nil]; omega)) [wrap64, c1]
      refine (c_pick R H (by omega) (by omega) ⟨by decide, by decide⟩).go ?_
      rintro _ hL2 ⟨r2, rfl, o2, z2, y2, H⟩
      simp -implicitDefEqProofs (disch := first | omega | (simp only [List.length_set, List.length_replicate, List.length_append, List.length_map, List.length_take, List.length_cons, List.length_nil]; omega)) [wrap64, setC]
      exact RetK.keep (hk _ _ ⟨Exq.mk 1 r2 [], _, HS.mkExq' H.nil_ow ⟨by decide, by decide⟩ o2, by simp [Exq.nod, Exq.nods] <;> omega, by omega, by omega⟩)
    · simp -implicitDefEqProofs (disch := first | omega | (simp only [List.length_set, List.length_replicate, List.length_append, List.length_map, List.length_take, List.length_cons, List.length_nil]; omega)) [wrap64, c1]
      refine H.bls [(0 : Int), 1, 0, 2] rfl rfl (okL (by decide)) (by decide) fun v hL2 H => ?_
      simp -implicitDefEqProofs (disch := first | omega | (simp only [List.length_set, List.length_replicate, List.length_append, List.length_map, List.length_take, List.length_cons, List.length_nil]; omega)) [wrap64]
      refine (c_num R H (by omega) (by omega) (by simp)).go ?_
      rintro _ hL3 ⟨r2, rfl, o2, _, H⟩
      simp -implicitDefEqProofs (disch := first | omega | (simp only [List.length_set, List.length_replicate, List.length_append, List.length_map, List.length_take, List.length_cons, List.length_nil]; omega)) [wrap64, setC]
      exact RetK.keep (hk _ _ ⟨Exq.mk 2 r2 [], _, HS.mkExq' H.nil_ow ⟨by decide, by decide⟩ o2, by simp [Exq.nod, Exq.nods] <;> omega, by omega, by omega⟩)
  | succ d ih =>
    intro hd g h Γ p R H hp hp2
    have hq0 : 2 ^ (d + 1) = 2 * 2 ^ d := by rw [Nat.pow_succ]; omega
    have hq1 : 2 ^ (d + 1 + 1) = 4 * 2 ^ d := by rw [Nat.pow_succ, Nat.pow_succ]; omega
    have hqp : 0 < 2 ^ d := Nat.two_pow_pos d
    refine CallE.gen fun k hk => EN_spec_l1Random rfl ?_
    rw [hq0, hq1] at hk
    rw [hq0] at ih
    generalize hQ : 2 ^ d = q at *
    by_cases h2 : d = 0
    · simp -implicitDefEqProofs (disch := first | omega | (simp only [List.length_set, List.length_replicate, List.length_append, List.length_map, List.length_take, List.length_cons, List.length_nil]; omega)) [wrap64, h2]
      refine (c_pick R H (by omega) (by omega) ⟨by decide, by decide⟩).go ?_
      rintro _ hL1 ⟨r1, rfl, o1, z1, y1, H⟩
      by_cases c1 : r1 = 0
      · simp -implicitDefEqProofs (disch := first | omega | (simp only [List.length_set, List.length_replicate, List.length_append, List.length_map, List.length_take, List.length_cons, List.length_nil]; omega)) [wrap64, c1]
        refine (c_pick R H (by omega) (by omega) ⟨by decide, by decide⟩).go ?_
        rintro _ hL2 ⟨r2, rfl, o2, z2, y2, H⟩
        simp -implicitDefEqProofs (disch := first | omega | (simp only [List.length_set, List.length_replicate, List.length_append, List.length_map, List.length_take, List.length_cons, List.length_nil]; omega)) [wrap64, setC]
        exact RetK.keep (hk _ _ ⟨Exq.mk 1 r2 [], _, HS.mkExq' H.nil_ow ⟨by decide, by decide⟩ o2, by simp [Exq.nod, Exq.nods] <;> omega, by omega, by omega⟩)
      · simp -implicitDefEqProofs (disch := first | omega | (simp only [List.length_set, List.length_replicate, List.length_append, List.length_map, List.length_take, List.length_cons, List.length_nil]; omega)) [wrap64, c1]
        refine H.bls [(0 : Int), 1, 0, 2] rfl rfl (okL (by decide)) (by decide) fun v hL2 H => ?_
        simp -implicitDefEqProofs (disch := first | omega | (simp only [List.length_set, List.length_replicate, List.length_append, List.length_map, List.length_take, List.length_cons, List.length_nil]; omega)) [wrap64]
        refine (c_num R H (by omega) (by omega) (by simp)).go ?_
        rintro _ hL3 ⟨r2, rfl, o2, _, H⟩
        simp -implicitDefEqProofs (disch := first | omega | (simp only [List.length_set, List.length_replicate, List.length_append, List.length_map, List.length_take, List.length_cons, List.length_nil]; omega)) [wrap64, setC]
        exact RetK.keep (hk _ _ ⟨Exq.mk 2 r2 [], _, HS.mkExq' H.nil_ow ⟨by decide, by decide⟩ o2, by simp [Exq.nod, Exq.nods] <;> omega, by omega, by omega⟩)
    · have h3 : ¬ ((d : Int) + 1 < 2) := by omega
      simp -implicitDefEqProofs (disch := first | omega | (simp only [List.length_set, List.length_replicate, List.length_append, List.length_map, List.length_take, List.length_cons, List.length_nil]; omega)) [wrap64, h3]
      refine (c_pick R H (by omega) (by omega) ⟨by decide, by decide⟩).go ?_
      rintro _ h1 ⟨r0, rfl, o0, z0, y0, H⟩
      by_cases c0 : r0 = 0
      · simp -implicitDefEqProofs (disch := first | omega | (simp only [List.length_set, List.length_replicate, List.length_append, List.length_map, List.length_take, List.length_cons, List.length_nil]; omega)) [wrap64, c0]
        refine (c_pick R H (by omega) (by omega) ⟨by decide, by decide⟩).go ?_
        rintro _ hL1 ⟨r1, rfl, o1, z1, y1, H⟩
        by_cases c1 : r1 = 0
        · simp -implicitDefEqProofs (disch := first | omega | (simp only [List.length_set, List.length_replicate, List.length_append, List.length_map, List.length_take, List.length_cons, List.length_nil]; omega)) [wrap64, c1]
          refine (c_pick R H (by omega) (by omega) ⟨by decide, by decide⟩).go ?_
          rintro _ hL2 ⟨r2, rfl, o2, z2, y2, H⟩
          simp -implicitDefEqProofs (disch := first | omega | (simp only [List.length_set, List.length_replicate, List.length_append, List.length_map, List.length_take, List.length_cons, List.length_nil]; omega)) [wrap64, setC]
          exact RetK.keep (hk _ _ ⟨Exq.mk 1 r2 [], _, HS.mkExq' H.nil_ow ⟨by decide, by decide⟩ o2, by simp [Exq.nod, Exq.nods] <;> omega, by omega, by omega⟩)
        · simp -implicitDefEqProofs (disch := first | omega | (simp only [List.length_set, List.length_replicate, List.length_append, List.length_map, List.length_take, List.length_cons, List.length_nil]; omega)) [wrap64, c1]
          refine H.bls [(0 : Int), 1, 0, 2] rfl rfl (okL (by decide)) (by decide) fun v hL2 H => ?_
          simp -implicitDefEqProofs (disch := first | omega | (simp only [List.length_set, List.length_replicate, List.length_append, List.length_map, List.length_take, List.length_cons, List.length_nil]; omega)) [wrap64]
          refine (c_num R H (by omega) (by omega) (by simp)).go ?_
          rintro _ hL3 ⟨r2, rfl, o2, _, H⟩
          simp -implicitDefEqProofs (disch := first | omega | (simp only [List.length_set, List.length_replicate, List.length_append, List.length_map, List.length_take, List.length_cons, List.length_nil]; omega)) [wrap64, setC]
          exact RetK.keep (hk _ _ ⟨Exq.mk 2 r2 [], _, HS.mkExq' H.nil_ow ⟨by decide, by decide⟩ o2, by simp [Exq.nod, Exq.nods] <;> omega, by omega, by omega⟩)
      · simp -implicitDefEqProofs (disch := first | omega | (simp only [List.length_set, List.length_replicate, List.length_append, List.length_map, List.length_take, List.length_cons, List.length_nil]; omega)) [wrap64, c0]
        refine H.bls [(6 : Int), 8, 7, 4, 3, 5, 9] rfl rfl (okL (by decide)) (by decide) fun v h2 H => ?_
        simp -implicitDefEqProofs (disch := first | omega | (simp only [List.length_set, List.length_replicate, List.length_append, List.length_map, List.length_take, List.length_cons, List.length_nil]; omega)) [wrap64]
        refine (c_num R H (by omega) (by omega) (by simp)).go ?_
        rintro _ h4 ⟨kd, rfl, okd, _, H⟩
        have ha := Exq.arity_le (k := kd)
        have ha2 := Exq.arity_ge (k := kd)
        simp -implicitDefEqProofs (disch := first | omega | (simp only [List.length_set, List.length_replicate, List.length_append, List.length_map, List.length_take, List.length_cons, List.length_nil]; omega)) [wrap64, setC]
        refine c_l1Arity.go ?_
        rintro _ h4 ⟨rfl, rfl⟩
        obtain ⟨ar, har⟩ : ∃ ar, ar = Exq.arity kd := ⟨_, rfl⟩
        rw [← har] at ha ha2
        simp -implicitDefEqProofs (disch := first | omega | (simp only [List.length_set, List.length_replicate, List.length_append, List.length_map, List.length_take, List.length_cons, List.length_nil]; omega)) [wrap64, ← har]
        refine wp_while (σ := Nat) (fun j e h' => ∃ (ks : List Exq) (w : Value) (p' : Int), e = [some (.pointer (some ⟨b, 0, none⟩)), some (.int .i64 ((d : Int) + 1)), some (.agg #[.int .i64 0, .int .i64 0, .slice none 0 0]), none, some (.agg #[.int .i64 kd, .int .i64 0, w]), some (.int .i64 (ar - j))] ∧ HS g (ow w ks :: rb b sl p' :: Γ) h' ∧ ks.length = j ∧ Exq.nods ks ≤ j * (2 * q - 1) ∧ j ≤ 2 ∧ p ≤ p' ∧ p' ≤ p + 2 + j * (4 * q - 2)) (fun j => 3 - j) 0 ⟨[], .slice none 0 0, _, by simp, H.nil_ow, rfl, by simp [Exq.nods], by omega, by omega, by omega⟩ ?_
        clear H
        rintro J j _ h5 hJ ⟨ks, w, p', rfl, H, hkl, hkn, hj, hp3, hp4⟩
        by_cases c2 : (j : Int) < ar
        · have hj2 : j = 0 ∨ j = 1 := by omega
          simp -implicitDefEqProofs (disch := first | omega | (simp only [List.length_set, List.length_replicate, List.length_append, List.length_map, List.length_take, List.length_cons, List.length_nil]; omega)) [wrap64, c2]
          refine (ih (by omega) R H.sw1 (by omega) (by rcases hj2 with rfl | rfl <;> omega)).go ?_
          rintro _ h6 ⟨y, p2, H, hy, hp5, hp6⟩
          obtain ⟨wy, rfl, k1, k2, H'⟩ := H.unExq
          have hO' := H'.rep.one
          have hC' := H'.rep.cells
          simp -implicitDefEqProofs (disch := first | omega | (simp only [List.length_set, List.length_replicate, List.length_append, List.length_map, List.length_take, List.length_cons, List.length_nil]; omega)) [wrap64, setC, hO', hC']
          refine HS.appO (bytes := 40) H.sw2.sw1 rfl rfl rfl rfl rfl (by omega) (by omega) fun w' h7 H => ?_
          have hO := H.rep.one
          have hC := H.rep.cells
          simp -implicitDefEqProofs (disch := first | omega | (simp only [List.length_set, List.length_replicate, List.length_append, List.length_map, List.length_take, List.length_cons, List.length_nil]; omega)) [wrap64, setC, hO, hC]
          refine hJ (j + 1) _ _ (by omega) ⟨ks ++ [y], w', p2, by simp; omega, H, by simp [hkl], ?_, by omega, by omega, ?_⟩
          · rw [Exq.nods_append, show Exq.nods [y] = y.nod by simp [Exq.nods]]
            rcases hj2 with rfl | rfl <;> omega
          · rcases hj2 with rfl | rfl <;> omega
        · have hO := H.rep.one
          have hC := H.rep.cells
          simp -implicitDefEqProofs (disch := first | omega | (simp only [List.length_set, List.length_replicate, List.length_append, List.length_map, List.length_take, List.length_cons, List.length_nil]; omega)) [wrap64, c2, setC, hO, hC]
          refine RetK.keep (hk _ _ ⟨Exq.mk kd 0 ks, p', HS.mkExq' H okd ⟨by decide, by decide⟩, ?_, by omega, ?_⟩)
          · rw [Exq.nod_eq, Exq.kids_mk]
            obtain rfl | rfl | rfl : j = 0 ∨ j = 1 ∨ j = 2 := by omega
            all_goals omega
          · obtain rfl | rfl | rfl : j = 0 ∨ j = 1 ∨ j = 2 := by omega
            all_goals omega
end Go.Proofs.Ytonjglbachhdcaa

/-
  Slices that are written out, with elements that are owned; a step in between.
-/
namespace Go.Proofs.Ytonjglbachhdcaa
open Go
set_option linter.all false
set_option linter.unusedVariables false
set_option linter.unusedSimpArgs false
set_option linter.defProp false
set_option maxRecDepth 1000000

/-- a slice that is written out, with one element that is owned -/
theorem HS.blsO1 {α : Type} [Ty α] {P : Program} {k : Env → Heap → Prop} {e : Env} {g h : Heap} {Γ : List HP} {u : Value} {y : α} (H : HS g (ow u y :: Γ) h) {esz : Nat} {zero : List Value} {parts : List (Nat × Nat × O)} {dst : Nat} (hf : fillP e (reps 1 zero) parts = some u.cells.toList)
    (K : ∀ v' h', HS g (ow v' [y] :: Γ) h' → k (eset e dst (some v')) h') : (A.ex (some dst) (.bls esz 1 zero parts)).wp P k e h := by
  obtain ⟨g1, ru, rfl, d2, ⟨cs, rfl, ho⟩, H⟩ := H
  have h1 := Ty.len (Ty.own_rep ho)
  rw [rep_cells (Ty.own_rep ho)] at hf
  refine ⟨_, hf, fun b el hb => Fgt.keep ?_⟩
  rw [set_new hb]
  have n1 : g1 b = none ∧ ru b = none := by simpa [Heap.add] using hb
  rw [add_assoc]
  refine K _ _ ⟨g1, _, rfl, Dj_add.2 ⟨d2, Dj_one.2 n1.1⟩, ?_, H⟩
  rw [(Dj_one.2 n1.2).comm]
  refine Own_list.2 (.inr ⟨b, 0, 1, cs, el, ru, rfl, ⟨Nat.le_refl _, by simp⟩, by simp [h1], rfl, n1.2, ?_⟩)
  exact ⟨ru, Heap.nil, by simp, by simp, by simpa [← h1] using ho, rfl⟩

theorem HS.blsO2 {α : Type} [Ty α] {P : Program} {k : Env → Heap → Prop} {e : Env} {g h : Heap} {Γ : List HP} {u u2 : Value} {y y2 : α} (H : HS g (ow u y :: ow u2 y2 :: Γ) h) {esz : Nat} {zero : List Value} {parts : List (Nat × Nat × O)} {dst : Nat} (hf : fillP e (reps 2 zero) parts = some (u.cells.toList ++ u2.cells.toList))
    (K : ∀ v' h', HS g (ow v' [y, y2] :: Γ) h' → k (eset e dst (some v')) h') : (A.ex (some dst) (.bls esz 2 zero parts)).wp P k e h := by
  obtain ⟨g0, ru, rfl, d2, ⟨cs, rfl, ho⟩, g1, ru2, rfl, d3, ⟨cs2, rfl, ho2⟩, H⟩ := H
  have h1 := Ty.len (Ty.own_rep ho)
  have h2 := Ty.len (Ty.own_rep ho2)
  rw [rep_cells (Ty.own_rep ho), rep_cells (Ty.own_rep ho2)] at hf
  obtain ⟨d4, d5⟩ := add_Dj.1 d2
  refine ⟨_, hf, fun b el hb => Fgt.keep ?_⟩
  rw [set_new hb]
  have n1 : (g1 b = none ∧ ru2 b = none) ∧ ru b = none := by simpa [Heap.add] using hb
  rw [add_assoc, add_assoc]
  refine K _ _ ⟨g1, _, rfl, Dj_add.2 ⟨d3, Dj_add.2 ⟨d4, Dj_one.2 n1.1.1⟩⟩, ?_, H⟩
  rw [← add_assoc, (Dj_one.2 (show (ru2.add ru) b = none by simp [Heap.add, n1])).comm]
  refine Own_list.2 (.inr ⟨b, 0, 2, cs ++ cs2, el, ru2.add ru, rfl, ⟨Nat.le_refl _, by simp⟩, by simp [h1, h2]; omega, rfl, by simp [Heap.add, n1], ?_⟩)
  rw [d5.comm]
  refine ⟨ru, ru2, rfl, d5.symm, by simpa [← h1] using ho, ru2, Heap.nil, by simp, by simp, ?_, rfl⟩
  have e1 : List.drop (Ty.sz α) (cs ++ cs2) = cs2 := by rw [← h1, List.drop_left]
  simp only [List.drop_zero]
  rw [e1, List.take_of_length_le (by omega)]
  exact ho2

/-- a step in between, within a region -/
theorem pl_cut {P : Program} {k : Env → Heap → Prop} {p : Pl} {e : Env} {h : Heap} (M : Env → Heap → Prop) (ha : ∀ J : Env → Heap → Prop, (∀ e h, M e h → J e h) → p.wp P J e h) (hb : ∀ e h, M e h → k e h) : p.wp P k e h := ha k hb

end Go.Proofs.Ytonjglbachhdcaa

/-
  Arguments of laws: valid expressions, copies, guards that are drawn.
-/
namespace Go.Proofs.Ytonjglbachhdcaa
open Go
set_option linter.all false
set_option linter.unusedVariables false
set_option linter.unusedSimpArgs false
set_option linter.defProp false
set_option maxRecDepth 1000000

theorem Exq.len_nods : ∀ {l : List Exq}, l.length ≤ Exq.nods l
  | [] => by simp
  | x :: l => by
    have := Exq.len_nods (l := l)
    have := x.nod_pos
    simp only [List.length_cons, Exq.nods]; omega
theorem HS.mkE0 {g h : Heap} {Γ : List HP} {kd vl : Int} (H : HS g Γ h) (h1 : I64 kd) (h2 : I64 vl) : HS g (ow (.agg #[.int .i64 kd, .int .i64 vl, .slice none 0 0]) (Exq.mk kd vl []) :: Γ) h := HS.mkExq' H.nil_ow h1 h2
theorem Exq.nod_mk0 {k v : Int} : (Exq.mk k v []).nod = 1 := rfl

theorem c_l1Expr {g h : Heap} {Γ : List HP} {b : Nat} {sl : Value} {l : List (BitVec 8)} {p : Int} (R : Rep g sl l) (H : HS g (rb b sl p :: Γ) h) (hp : 0 ≤ p) (hp2 : p + 100 ≤ 1000000000000) :
    CallE Try.prog fn_spec_l1Expr [.pointer (some ⟨b, 0, none⟩)] h (fun u h' => ∃ (y : Exq) (p' : Int), HS g (ow u y :: rb b sl p' :: Γ) h' ∧ y.nod ≤ 31 ∧ p ≤ p' ∧ p' ≤ p + 70) := by
  refine CallE.gen fun k hk => EN_spec_l1Expr rfl ?_
  simp -implicitDefEqProofs (disch := first | omega | (simp only [List.length_set, List.length_replicate, List.length_append, List.length_map, List.length_take, List.length_cons, List.length_nil]; omega)) [wrap64]
  refine H.bls [(3 : Int), 2, 3, 4] rfl rfl (okL (by decide)) (by decide) fun v h1 H => ?_
  simp -implicitDefEqProofs (disch := first | omega | (simp only [List.length_set, List.length_replicate, List.length_append, List.length_map, List.length_take, List.length_cons, List.length_nil]; omega)) [wrap64]
  refine (c_num R H (by omega) (by omega) (by simp)).go ?_
  rintro _ h2 ⟨r, rfl, _, hr, H⟩
  obtain ⟨d, rfl, hd, hpw⟩ : ∃ d : Nat, r = d ∧ d ≤ 4 ∧ 2 ^ d ≤ 16 := by
    simp at hr
    rcases hr with rfl | rfl | rfl | rfl
    · exact ⟨3, rfl, by decide, by decide⟩
    · exact ⟨2, rfl, by decide, by decide⟩
    · exact ⟨3, rfl, by decide, by decide⟩
    · exact ⟨4, rfl, by decide, by decide⟩
  simp -implicitDefEqProofs (disch := first | omega | (simp only [List.length_set, List.length_replicate, List.length_append, List.length_map, List.length_take, List.length_cons, List.length_nil]; omega)) [wrap64]
  refine (c_l1Random d hd R H (by omega) (by omega)).go ?_
  rintro _ h3 ⟨y, p1, H, hy, hp3, hp4⟩
  have hy2 : y.nod ≤ 31 := by rw [Nat.pow_succ] at hy; omega
  have FA := H.rep.aExq
  simp -implicitDefEqProofs (disch := first | omega | (simp only [List.length_set, List.length_replicate, List.length_append, List.length_map, List.length_take, List.length_cons, List.length_nil]; omega)) [wrap64, FA]
  refine (c_spec_ExprValid H.rep).go ?_
  rintro _ h3 ⟨rfl, rfl⟩
  by_cases q : y.Ok
  · simp -implicitDefEqProofs (disch := first | omega | (simp only [List.length_set, List.length_replicate, List.length_append, List.length_map, List.length_take, List.length_cons, List.length_nil]; omega)) [wrap64, q, FA, setC]
    exact RetK.keep (hk _ _ ⟨y, p1, H, hy2, by omega, by omega⟩)
  · simp -implicitDefEqProofs (disch := first | omega | (simp only [List.length_set, List.length_replicate, List.length_append, List.length_map, List.length_take, List.length_cons, List.length_nil]; omega)) [wrap64, q]
    refine (c_pick (n := 3) R H.sw1 (by omega) (by omega) ⟨by decide, by decide⟩).go ?_
    rintro _ h4 ⟨r1, rfl, o1, z1, y1, H⟩
    simp -implicitDefEqProofs (disch := first | omega | (simp only [List.length_set, List.length_replicate, List.length_append, List.length_map, List.length_take, List.length_cons, List.length_nil]; omega)) [wrap64, setC]
    exact RetK.keep (hk _ _ ⟨Exq.mk 2 r1 [], _, (H.sw1.drop).mkE0 ⟨by decide, by decide⟩ o1, by rw [Exq.nod_mk0]; omega, by omega, by omega⟩)

/-- expressions without parts -/
def ez : Value := .agg #[.int .i64 0, .int .i64 0, .slice none 0 0]
theorem c_l1SubstB0 {h : Heap} : CallE Try.prog fn_spec_l1Subst [ez, .int .i64 (-1), ez] h (fun u h' => HS h [ow u Exq.zero] h') := by
  refine CallE.gen fun k hk => EN_spec_l1Subst rfl ?_
  simp -implicitDefEqProofs (disch := first | omega | (simp only [List.length_set, List.length_replicate, List.length_append, List.length_map, List.length_take, List.length_cons, List.length_nil]; omega)) [wrap64, ez, setC]
  refine wp_count 0 (fun i e h' => e = [none, some (.int .i64 (-1)), none, some ez, some ez, some ez, some ez, some (.int .i64 i)] ∧ h' = h) ⟨by simp [ez], rfl⟩ ?_
  rintro J i _ h1 hJ hi ⟨rfl, rfl⟩
  obtain rfl : i = 0 := by omega
  have hL0 : lenVV (.slice none 0 0) = some (.int .i64 0) := rfl
  simp -implicitDefEqProofs (disch := first | omega | (simp only [List.length_set, List.length_replicate, List.length_append, List.length_map, List.length_take, List.length_cons, List.length_nil]; omega)) [wrap64, ez, setC, hL0]
  exact RetK.keep (hk _ _ (HS.mkE0 HS.init ⟨by decide, by decide⟩ ⟨by decide, by decide⟩))
theorem c_l1SubstB : ∀ (x : Exq) {h : Heap} {v : Value}, Rep h v x → x.nod ≤ 1000 → CallE Try.prog fn_spec_l1Subst [v, .int .i64 (-1), ez] h (fun u h' => ∃ y : Exq, HS h [ow u y] h' ∧ y.nod ≤ x.nod) := by
  refine Exq.ind fun x ih => ?_
  intro h v R hn
  have hne := Exq.nod_eq x
  obtain ⟨w, rfl, k1, k2, Rw⟩ := Rep_Exq.1 R
  have hR1 := Rw.one
  have hkl : x.kids.length ≤ Exq.nods x.kids := Exq.len_nods
  refine CallE.gen fun k hk => EN_spec_l1Subst rfl ?_
  by_cases c1 : x.kind = 2 ∧ x.val = -1
  · simp -implicitDefEqProofs (disch := first | omega | (simp only [List.length_set, List.length_replicate, List.length_append, List.length_map, List.length_take, List.length_cons, List.length_nil]; omega)) [wrap64, ez, setC, hR1, c1]
    refine c_l1SubstB0.go ?_
    intro u h1 H
    have hA := H.rep.aExq
    simp -implicitDefEqProofs (disch := first | omega | (simp only [List.length_set, List.length_replicate, List.length_append, List.length_map, List.length_take, List.length_cons, List.length_nil]; omega)) [wrap64, setC, hA]
    exact RetK.keep (hk _ _ ⟨_, H, by rw [show Exq.zero.nod = 1 from rfl]; omega⟩)
  · have c1' : x.kind = 2 → ¬ x.val = -1 := fun e e2 => c1 ⟨e, e2⟩
    by_cases c2 : x.kind = 2
    · have c3 := c1' c2
      simp -implicitDefEqProofs (disch := first | omega | (simp only [List.length_set, List.length_replicate, List.length_append, List.length_map, List.length_take, List.length_cons, List.length_nil]; omega)) [wrap64, ez, setC, hR1, c2, c3]
      refine wp_count x.kids.length (fun i e h' => ∃ (ks : List Exq) (w' : Value), e = [none, some (.int .i64 (-1)), none, some (.agg #[.int .i64 2, .int .i64 x.val, w]), some ez, some ez, some (.agg #[.int .i64 2, .int .i64 x.val, w']), some (.int .i64 i)] ∧ HS h [ow w' ks] h' ∧ ks.length = i ∧ Exq.nods ks ≤ Exq.nods (x.kids.take i)) ⟨[], .slice none 0 0, by simp [ez], HS.init.nil_ow, rfl, by simp [Exq.nods]⟩ ?_
      rintro J i _ h1 hJ hi ⟨ks, w', rfl, H, hkl2, hkn⟩
      have hO := H.rep.one
      have hC := H.rep.cells
      simp -implicitDefEqProofs (disch := first | omega | (simp only [List.length_set, List.length_replicate, List.length_append, List.length_map, List.length_take, List.length_cons, List.length_nil]; omega)) [wrap64, Rw.len]
      refine IteW.mk (fun hlt => ?_) (fun hge => ?_)
      · have hlx : i < x.kids.length := by omega
        obtain ⟨u, hu, Ru⟩ := (Rw.on H).ld hlx
        change hload _ (some (elp 3 w i)) (some 3) = some u at hu
        have hnt := Exq.nods_take hlx
        have hnl := Exq.nods_le x.kids (i + 1)
        simp -implicitDefEqProofs (disch := first | omega | (simp only [List.length_set, List.length_replicate, List.length_append, List.length_map, List.length_take, List.length_cons, List.length_nil]; omega)) [wrap64, ez, setC, (Rw.on H).X (n := 3) rfl, hu, Ru.aExq]
        refine (ih _ (List.getElem_mem hlx) Ru (by omega)).go ?_
        rintro o h2 ⟨y, G, hy⟩
        obtain ⟨wy, rfl, ky1, ky2, G'⟩ := G.unExq
        have hO' := G'.rep.one
        have hC' := G'.rep.cells
        have H := G.app H
        simp -implicitDefEqProofs (disch := first | omega | (simp only [List.length_set, List.length_replicate, List.length_append, List.length_map, List.length_take, List.length_cons, List.length_nil]; omega)) [wrap64, ez, setC, hO', hC']
        refine HS.appO (bytes := 40) H rfl rfl rfl rfl rfl (by omega) (by omega) fun w2 h3 H => ?_
        have hO2 := H.rep.one
        have hC2 := H.rep.cells
        simp -implicitDefEqProofs (disch := first | omega | (simp only [List.length_set, List.length_replicate, List.length_append, List.length_map, List.length_take, List.length_cons, List.length_nil]; omega)) [wrap64, ez, setC, hO2, hC2]
        refine hJ _ _ hlx ⟨ks ++ [y], w2, by simp [ez], H, by simp [hkl2], ?_⟩
        rw [Exq.nods_append, show Exq.nods [y] = y.nod by simp [Exq.nods]]
        omega
      · simp -implicitDefEqProofs (disch := first | omega | (simp only [List.length_set, List.length_replicate, List.length_append, List.length_map, List.length_take, List.length_cons, List.length_nil]; omega)) [wrap64, ez, setC, hO, hC]
        rw [List.take_of_length_le (by omega)] at hkn
        refine RetK.keep (hk _ _ ⟨Exq.mk 2 x.val ks, HS.mkExq' H ⟨by decide, by decide⟩ k2, ?_⟩)
        rw [Exq.nod_eq, Exq.kids_mk]; omega
    · simp -implicitDefEqProofs (disch := first | omega | (simp only [List.length_set, List.length_replicate, List.length_append, List.length_map, List.length_take, List.length_cons, List.length_nil]; omega)) [wrap64, ez, setC, hR1, c2]
      refine wp_count x.kids.length (fun i e h' => ∃ (ks : List Exq) (w' : Value), e = [none, some (.int .i64 (-1)), none, some (.agg #[.int .i64 x.kind, .int .i64 x.val, w]), some ez, some ez, some (.agg #[.int .i64 x.kind, .int .i64 x.val, w']), some (.int .i64 i)] ∧ HS h [ow w' ks] h' ∧ ks.length = i ∧ Exq.nods ks ≤ Exq.nods (x.kids.take i)) ⟨[], .slice none 0 0, by simp [ez], HS.init.nil_ow, rfl, by simp [Exq.nods]⟩ ?_
      rintro J i _ h1 hJ hi ⟨ks, w', rfl, H, hkl2, hkn⟩
      have hO := H.rep.one
      have hC := H.rep.cells
      simp -implicitDefEqProofs (disch := first | omega | (simp only [List.length_set, List.length_replicate, List.length_append, List.length_map, List.length_take, List.length_cons, List.length_nil]; omega)) [wrap64, Rw.len]
      refine IteW.mk (fun hlt => ?_) (fun hge => ?_)
      · have hlx : i < x.kids.length := by omega
        obtain ⟨u, hu, Ru⟩ := (Rw.on H).ld hlx
        change hload _ (some (elp 3 w i)) (some 3) = some u at hu
        have hnt := Exq.nods_take hlx
        have hnl := Exq.nods_le x.kids (i + 1)
        simp -implicitDefEqProofs (disch := first | omega | (simp only [List.length_set, List.length_replicate, List.length_append, List.length_map, List.length_take, List.length_cons, List.length_nil]; omega)) [wrap64, ez, setC, (Rw.on H).X (n := 3) rfl, hu, Ru.aExq]
        refine (ih _ (List.getElem_mem hlx) Ru (by omega)).go ?_
        rintro o h2 ⟨y, G, hy⟩
        obtain ⟨wy, rfl, ky1, ky2, G'⟩ := G.unExq
        have hO' := G'.rep.one
        have hC' := G'.rep.cells
        have H := G.app H
        simp -implicitDefEqProofs (disch := first | omega | (simp only [List.length_set, List.length_replicate, List.length_append, List.length_map, List.length_take, List.length_cons, List.length_nil]; omega)) [wrap64, ez, setC, hO', hC']
        refine HS.appO (bytes := 40) H rfl rfl rfl rfl rfl (by omega) (by omega) fun w2 h3 H => ?_
        have hO2 := H.rep.one
        have hC2 := H.rep.cells
        simp -implicitDefEqProofs (disch := first | omega | (simp only [List.length_set, List.length_replicate, List.length_append, List.length_map, List.length_take, List.length_cons, List.length_nil]; omega)) [wrap64, ez, setC, hO2, hC2]
        refine hJ _ _ hlx ⟨ks ++ [y], w2, by simp [ez], H, by simp [hkl2], ?_⟩
        rw [Exq.nods_append, show Exq.nods [y] = y.nod by simp [Exq.nods]]
        omega
      · simp -implicitDefEqProofs (disch := first | omega | (simp only [List.length_set, List.length_replicate, List.length_append, List.length_map, List.length_take, List.length_cons, List.length_nil]; omega)) [wrap64, ez, setC, hO, hC]
        rw [List.take_of_length_le (by omega)] at hkn
        refine RetK.keep (hk _ _ ⟨Exq.mk x.kind x.val ks, HS.mkExq' H k1 k2, ?_⟩)
        rw [Exq.nod_eq, Exq.kids_mk]; omega
end Go.Proofs.Ytonjglbachhdcaa

/-
  Arguments of laws: changed expressions, guards that are drawn.
-/
namespace Go.Proofs.Ytonjglbachhdcaa
open Go
set_option linter.all false
set_option linter.unusedVariables false
set_option linter.unusedSimpArgs false
set_option linter.defProp false
set_option maxRecDepth 1000000

theorem c_l1Mutate {g h : Heap} {Γ : List HP} {b : Nat} {sl v : Value} {l : List (BitVec 8)} {p : Int} {x : Exq} (R : Rep g sl l) (Rx : Rep g v x) (hx : x.nod ≤ 1000) (H : HS g (rb b sl p :: Γ) h) (hp : 0 ≤ p) (hp2 : p + 100 ≤ 1000000000000) :
    CallE Try.prog fn_spec_l1Mutate [.pointer (some ⟨b, 0, none⟩), v] h (fun u h' => ∃ (y : Exq) (p' : Int), HS g (ow u y :: rb b sl p' :: Γ) h' ∧ y.nod ≤ x.nod + 1 ∧ p ≤ p' ∧ p' ≤ p + 2) := by
  have FX := Rx.aExq
  have hnp := x.nod_pos
  refine CallE.gen fun k hk => EN_spec_l1Mutate rfl ?_
  simp -implicitDefEqProofs (disch := first | omega | (simp only [List.length_set, List.length_replicate, List.length_append, List.length_map, List.length_take, List.length_cons, List.length_nil]; omega)) [wrap64, FX]
  refine (c_l1SubstB x (Rx.on H) hx).go ?_
  rintro o h1 ⟨y, G, hy⟩
  obtain ⟨w, rfl, k1, k2, G'⟩ := G.unExq
  have hO := G'.rep.one
  have hC := G'.rep.cells
  have H := G'.app H
  have hyn := Exq.nod_eq y
  have hyl := Exq.len_nods (l := y.kids)
  simp -implicitDefEqProofs (disch := first | omega | (simp only [List.length_set, List.length_replicate, List.length_append, List.length_map, List.length_take, List.length_cons, List.length_nil]; omega)) [wrap64, setC, hO, hC]
  refine (c_pick (n := 40) R H.sw1 (by omega) (by omega) ⟨by decide, by decide⟩).go ?_
  rintro _ h2 ⟨r, rfl, o1, z1, y1, H⟩
  by_cases c0 : r = 0
  · simp -implicitDefEqProofs (disch := first | omega | (simp only [List.length_set, List.length_replicate, List.length_append, List.length_map, List.length_take, List.length_cons, List.length_nil]; omega)) [wrap64, c0]
    refine H.bls [(0 : Int), 10, -1, 1, 2, 3, 4] rfl rfl (okL (by decide)) (by decide) fun q h3 H => ?_
    simp -implicitDefEqProofs (disch := first | omega | (simp only [List.length_set, List.length_replicate, List.length_append, List.length_map, List.length_take, List.length_cons, List.length_nil]; omega)) [wrap64]
    refine (c_num R H (by omega) (by omega) (by simp)).go ?_
    rintro _ h4 ⟨r2, rfl, o2, _, H⟩
    simp -implicitDefEqProofs (disch := first | omega | (simp only [List.length_set, List.length_replicate, List.length_append, List.length_map, List.length_take, List.length_cons, List.length_nil]; omega)) [wrap64, setC, hO, hC]
    exact RetK.keep (hk _ _ ⟨Exq.mk r2 y.val y.kids, _, HS.mkExq' H.sw1 o2 k2, by rw [Exq.nod_eq, Exq.kids_mk]; omega, by omega, by omega⟩)
  by_cases c1 : r = 1
  · simp -implicitDefEqProofs (disch := first | omega | (simp only [List.length_set, List.length_replicate, List.length_append, List.length_map, List.length_take, List.length_cons, List.length_nil]; omega)) [wrap64, c0, c1]
    refine H.bls [(-1 : Int), 4, 3, 9223372036854775807] rfl rfl (okL (by decide)) (by decide) fun q h3 H => ?_
    simp -implicitDefEqProofs (disch := first | omega | (simp only [List.length_set, List.length_replicate, List.length_append, List.length_map, List.length_take, List.length_cons, List.length_nil]; omega)) [wrap64]
    refine (c_num R H (by omega) (by omega) (by simp)).go ?_
    rintro _ h4 ⟨r2, rfl, o2, _, H⟩
    simp -implicitDefEqProofs (disch := first | omega | (simp only [List.length_set, List.length_replicate, List.length_append, List.length_map, List.length_take, List.length_cons, List.length_nil]; omega)) [wrap64, setC, hO, hC]
    exact RetK.keep (hk _ _ ⟨Exq.mk y.kind r2 y.kids, _, HS.mkExq' H.sw1 k1 o2, by rw [Exq.nod_eq, Exq.kids_mk]; omega, by omega, by omega⟩)
  by_cases c2 : r = 2
  · simp -implicitDefEqProofs (disch := first | omega | (simp only [List.length_set, List.length_replicate, List.length_append, List.length_map, List.length_take, List.length_cons, List.length_nil]; omega)) [wrap64, c0, c1, c2, setC]
    refine HS.appO (bytes := 40) (H.sw1.mkE0 (kd := 1) (vl := 0) ⟨by decide, by decide⟩ ⟨by decide, by decide⟩) rfl rfl rfl rfl rfl (by omega) (by omega) fun w2 h3 H => ?_
    have hO2 := H.rep.one
    have hC2 := H.rep.cells
    simp -implicitDefEqProofs (disch := first | omega | (simp only [List.length_set, List.length_replicate, List.length_append, List.length_map, List.length_take, List.length_cons, List.length_nil]; omega)) [wrap64, setC, hO2, hC2]
    refine RetK.keep (hk _ _ ⟨Exq.mk y.kind y.val _, _, HS.mkExq' H k1 k2, ?_, by omega, by omega⟩)
    rw [Exq.nod_eq, Exq.kids_mk, Exq.nods_append, show Exq.nods [Exq.mk 1 0 []] = 1 from rfl]; omega
  by_cases c3 : r = 3
  · simp -implicitDefEqProofs (disch := first | omega | (simp only [List.length_set, List.length_replicate, List.length_append, List.length_map, List.length_take, List.length_cons, List.length_nil]; omega)) [wrap64, c0, c1, c2, c3, setC]
    exact RetK.keep (hk _ _ ⟨Exq.mk 0 0 [], _, (H.sw1.drop).mkE0 ⟨by decide, by decide⟩ ⟨by decide, by decide⟩, by rw [Exq.nod_mk0]; omega, by omega, by omega⟩)
  · simp -implicitDefEqProofs (disch := first | omega | (simp only [List.length_set, List.length_replicate, List.length_append, List.length_map, List.length_take, List.length_cons, List.length_nil]; omega)) [wrap64, c0, c1, c2, c3, setC, hO, hC]
    exact RetK.keep (hk _ _ ⟨y, _, HS.mkExq H.sw1 k1 k2, by omega, by omega, by omega⟩)

theorem c_l2Guard {g h : Heap} {Γ : List HP} {b : Nat} {sl : Value} {l : List (BitVec 8)} {p : Int} (R : Rep g sl l) (H : HS g (rb b sl p :: Γ) h) (hp : 0 ≤ p) (hp2 : p + 100 ≤ 1000000000000) :
    CallE Try.prog fn_spec_l2Guard [.pointer (some ⟨b, 0, none⟩)] h (fun u h' => ∃ (y : Exq) (p' : Int), HS g (ow u y :: rb b sl p' :: Γ) h' ∧ y.nod ≤ 4 ∧ p ≤ p' ∧ p' ≤ p + 5) := by
  refine CallE.gen fun k hk => EN_spec_l2Guard rfl ?_
  simp -implicitDefEqProofs (disch := first | omega | (simp only [List.length_set, List.length_replicate, List.length_append, List.length_map, List.length_take, List.length_cons, List.length_nil]; omega)) [wrap64]
  refine (c_pick (n := 3) R H (by omega) (by omega) ⟨by decide, by decide⟩).go ?_
  rintro _ h1 ⟨r1, rfl, o1, z1, y1, H⟩
  by_cases c1 : r1 = 0
  · simp -implicitDefEqProofs (disch := first | omega | (simp only [List.length_set, List.length_replicate, List.length_append, List.length_map, List.length_take, List.length_cons, List.length_nil]; omega)) [wrap64, c1, setC]
    exact RetK.keep (hk _ _ ⟨Exq.mk 1 1 [], _, H.mkE0 ⟨by decide, by decide⟩ ⟨by decide, by decide⟩, by rw [Exq.nod_mk0]; omega, by omega, by omega⟩)
  simp -implicitDefEqProofs (disch := first | omega | (simp only [List.length_set, List.length_replicate, List.length_append, List.length_map, List.length_take, List.length_cons, List.length_nil]; omega)) [wrap64, c1]
  refine H.bls [(0 : Int), 1, 0, 2] rfl rfl (okL (by decide)) (by decide) fun q h3 H => ?_
  simp -implicitDefEqProofs (disch := first | omega | (simp only [List.length_set, List.length_replicate, List.length_append, List.length_map, List.length_take, List.length_cons, List.length_nil]; omega)) [wrap64]
  refine (c_num R H (by omega) (by omega) (by simp)).go ?_
  rintro _ h4 ⟨r2, rfl, o2, _, H⟩
  simp -implicitDefEqProofs (disch := first | omega | (simp only [List.length_set, List.length_replicate, List.length_append, List.length_map, List.length_take, List.length_cons, List.length_nil]; omega)) [wrap64, setC]
  refine (c_pick (n := 3) R H (by omega) (by omega) ⟨by decide, by decide⟩).go ?_
  rintro _ h1 ⟨r3, rfl, o3, z3, y3, H⟩
  simp -implicitDefEqProofs (disch := first | omega | (simp only [List.length_set, List.length_replicate, List.length_append, List.length_map, List.length_take, List.length_cons, List.length_nil]; omega)) [wrap64, setC]
  refine pl_cut (fun e' h' => ∃ kd w r, e' = some (.pointer (some ⟨b, 0, none⟩)) :: some ez :: some (.agg #[.int .i64 2, .int .i64 r2, .slice none 0 0]) :: some (.agg #[.int .i64 1, .int .i64 r3, .slice none 0 0]) :: some (.agg #[.int .i64 kd, .int .i64 0, w]) :: r ∧ I64 kd ∧ HS g (ow w [Exq.mk 2 r2 [], Exq.mk 1 r3 []] :: rb b sl (p + 1 + 1 + 1 + 1) :: Γ) h') (fun K hK => ?_) ?_
  · refine ⟨?_, ?_⟩
    · simp -implicitDefEqProofs (disch := first | omega | (simp only [List.length_set, List.length_replicate, List.length_append, List.length_map, List.length_take, List.length_cons, List.length_nil]; omega)) [wrap64]
      refine H.bls [(6 : Int), 7, 6] rfl rfl (okL (by decide)) (by decide) fun q h6 H => ?_
      refine ⟨?_, ?_⟩
      · simp -implicitDefEqProofs (disch := first | omega | (simp only [List.length_set, List.length_replicate, List.length_append, List.length_map, List.length_take, List.length_cons, List.length_nil]; omega)) [wrap64]
        refine (c_num R H (by omega) (by omega) (by simp)).go ?_
        rintro _ h7 ⟨kd, rfl, okd, _, H⟩
        simp -implicitDefEqProofs (disch := first | omega | (simp only [List.length_set, List.length_replicate, List.length_append, List.length_map, List.length_take, List.length_cons, List.length_nil]; omega)) [wrap64]
        refine HS.blsO2 ((H.mkE0 (kd := 1) (vl := r3) ⟨by decide, by decide⟩ o3).mkE0 (kd := 2) (vl := r2) ⟨by decide, by decide⟩ o2) rfl fun w h8 H => ?_
        simp -implicitDefEqProofs (disch := first | omega | (simp only [List.length_set, List.length_replicate, List.length_append, List.length_map, List.length_take, List.length_cons, List.length_nil]; omega)) [wrap64, setC, H.rep.one, H.rep.cells]
        exact hK _ _ ⟨kd, w, _, rfl, okd, H⟩
      · simp -implicitDefEqProofs (disch := first | omega | (simp only [List.length_set, List.length_replicate, List.length_append, List.length_map, List.length_take, List.length_cons, List.length_nil]; omega)) [wrap64]
        refine HS.blsO2 ((H.mkE0 (kd := 1) (vl := r3) ⟨by decide, by decide⟩ o3).mkE0 (kd := 2) (vl := r2) ⟨by decide, by decide⟩ o2) rfl fun w h8 H => ?_
        simp -implicitDefEqProofs (disch := first | omega | (simp only [List.length_set, List.length_replicate, List.length_append, List.length_map, List.length_take, List.length_cons, List.length_nil]; omega)) [wrap64]
        refine (c_num R H.bk2 (by omega) (by omega) (by simp)).go ?_
        rintro _ h7 ⟨kd, rfl, okd, _, H⟩
        simp -implicitDefEqProofs (disch := first | omega | (simp only [List.length_set, List.length_replicate, List.length_append, List.length_map, List.length_take, List.length_cons, List.length_nil]; omega)) [wrap64, setC, H.sw1.rep.one, H.sw1.rep.cells]
        exact hK _ _ ⟨kd, w, _, rfl, okd, H.sw1⟩
    · simp -implicitDefEqProofs (disch := first | omega | (simp only [List.length_set, List.length_replicate, List.length_append, List.length_map, List.length_take, List.length_cons, List.length_nil]; omega)) [wrap64]
      refine HS.blsO2 ((H.mkE0 (kd := 1) (vl := r3) ⟨by decide, by decide⟩ o3).mkE0 (kd := 2) (vl := r2) ⟨by decide, by decide⟩ o2) rfl fun w h8 H => ?_
      simp -implicitDefEqProofs (disch := first | omega | (simp only [List.length_set, List.length_replicate, List.length_append, List.length_map, List.length_take, List.length_cons, List.length_nil]; omega)) [wrap64]
      refine H.bls [(6 : Int), 7, 6] rfl rfl (okL (by decide)) (by decide) fun q h6 H => ?_
      simp -implicitDefEqProofs (disch := first | omega | (simp only [List.length_set, List.length_replicate, List.length_append, List.length_map, List.length_take, List.length_cons, List.length_nil]; omega)) [wrap64]
      refine (c_num R H.sw1.bk2 (by omega) (by omega) (by simp)).go ?_
      rintro _ h7 ⟨kd, rfl, okd, _, H⟩
      simp -implicitDefEqProofs (disch := first | omega | (simp only [List.length_set, List.length_replicate, List.length_append, List.length_map, List.length_take, List.length_cons, List.length_nil]; omega)) [wrap64, setC, H.sw1.rep.one, H.sw1.rep.cells]
      exact hK _ _ ⟨kd, w, _, rfl, okd, H.sw1⟩
  rintro _ h5 ⟨kd, w, r, rfl, okd, H⟩
  have hO := H.rep.one
  have hC := H.rep.cells
  simp -implicitDefEqProofs (disch := first | omega | (simp only [List.length_set, List.length_replicate, List.length_append, List.length_map, List.length_take, List.length_cons, List.length_nil]; omega)) [wrap64]
  refine (c_pick (n := 5) R H.sw1 (by omega) (by omega) ⟨by decide, by decide⟩).go ?_
  rintro _ h6 ⟨r4, rfl, o4, z4, y4, H⟩
  by_cases c2 : r4 = 0
  · simp -implicitDefEqProofs (disch := first | omega | (simp only [List.length_set, List.length_replicate, List.length_append, List.length_map, List.length_take, List.length_cons, List.length_nil]; omega)) [wrap64, c2, setC, hO, hC]
    refine HS.blsO1 (HS.mkExq' (kd := kd) (vl := 0) H.sw1 okd ⟨by decide, by decide⟩) rfl fun w2 h7 H => ?_
    have hO2 := H.rep.one
    have hC2 := H.rep.cells
    simp -implicitDefEqProofs (disch := first | omega | (simp only [List.length_set, List.length_replicate, List.length_append, List.length_map, List.length_take, List.length_cons, List.length_nil]; omega)) [wrap64, setC, hO2, hC2, ez]
    exact RetK.keep (hk _ _ ⟨Exq.mk 3 0 _, _, HS.mkExq' H ⟨by decide, by decide⟩ ⟨by decide, by decide⟩, by simp [Exq.nods, Exq.nod], by omega, by omega⟩)
  · simp -implicitDefEqProofs (disch := first | omega | (simp only [List.length_set, List.length_replicate, List.length_append, List.length_map, List.length_take, List.length_cons, List.length_nil]; omega)) [wrap64, c2, setC, hO, hC, ez]
    exact RetK.keep (hk _ _ ⟨_, _, HS.mkExq' H.sw1 okd ⟨by decide, by decide⟩, by rw [Exq.nod_eq, Exq.kids_mk]; simp [Exq.nods, Exq.nod], by omega, by omega⟩)
end Go.Proofs.Ytonjglbachhdcaa

/-
  Arguments of laws: systems that are drawn.
-/
namespace Go.Proofs.Ytonjglbachhdcaa
open Go
set_option linter.all false
set_option linter.unusedVariables false
set_option linter.unusedSimpArgs false
set_option linter.defProp false
set_option maxRecDepth 1000000

structure Ed.Sm (n : Nat) (e : Ed) : Prop where
  g : e.guard.nod ≤ n
  v : e.value.nod ≤ n
structure Pr.Sm (n : Nat) (p : Pr) : Prop where
  el : p.edges.length ≤ n
  ee : ∀ e ∈ p.edges, e.Sm n
structure Sy.Sm (n : Nat) (s : Sy) : Prop where
  il : s.init.length ≤ n
  pl : s.procs.length ≤ n
  pp : ∀ p ∈ s.procs, p.Sm n

theorem c_l2DrawEdge {g h : Heap} {Γ : List HP} {b : Nat} {sl : Value} {l : List (BitVec 8)} {p n : Int} (R : Rep g sl l) (H : HS g (rb b sl p :: Γ) h) (hp : 0 ≤ p) (hp2 : p + 200 ≤ 1000000000000) (hn : I64 n) :
    CallE Try.prog fn_spec_l2DrawEdge [.pointer (some ⟨b, 0, none⟩), .int .i64 n] h (fun u h' => ∃ (y : Ed) (p' : Int), HS g (ow u y :: rb b sl p' :: Γ) h' ∧ y.Sm 40 ∧ p ≤ p' ∧ p' ≤ p + 90) := by
  have i0 : I64 0 := ⟨by decide, by decide⟩
  have i1 : I64 1 := ⟨by decide, by decide⟩
  have im : I64 (-1) := ⟨by decide, by decide⟩
  have i8 : I64 8 := ⟨by decide, by decide⟩
  have i9 : I64 9 := ⟨by decide, by decide⟩
  refine CallE.gen fun k hk => EN_spec_l2DrawEdge rfl ?_
  simp -implicitDefEqProofs (disch := first | omega | (simp only [List.length_set, List.length_replicate, List.length_append, List.length_map, List.length_take, List.length_cons, List.length_nil]; omega)) [wrap64]
  refine (c_pick R H (by omega) (by omega) hn).go ?_
  rintro _ h1 ⟨r1, rfl, o1, z1, y1, H⟩
  simp -implicitDefEqProofs (disch := first | omega | (simp only [List.length_set, List.length_replicate, List.length_append, List.length_map, List.length_take, List.length_cons, List.length_nil]; omega)) [wrap64]
  refine (c_pick R H (by omega) (by omega) hn).go ?_
  rintro _ h1 ⟨r2, rfl, o2, z2, y2, H⟩
  simp -implicitDefEqProofs (disch := first | omega | (simp only [List.length_set, List.length_replicate, List.length_append, List.length_map, List.length_take, List.length_cons, List.length_nil]; omega)) [wrap64]
  refine (c_l2Guard R H (by omega) (by omega)).go ?_
  rintro _ h1 ⟨gu, p1, H, hgn, hp3, hp4⟩
  obtain ⟨wg, rfl, k1, k2, H⟩ := H.unExq
  have hOg := H.rep.one
  have hCg := H.rep.cells
  simp -implicitDefEqProofs (disch := first | omega | (simp only [List.length_set, List.length_replicate, List.length_append, List.length_map, List.length_take, List.length_cons, List.length_nil]; omega)) [wrap64, setC, hOg, hCg]
  refine (c_pick (n := 3) R H.sw1 (by omega) (by omega) ⟨by decide, by decide⟩).go ?_
  rintro _ h1 ⟨r3, rfl, o3, z3, y3, H⟩
  by_cases c3 : 0 < r3
  case neg =>
    simp -implicitDefEqProofs (disch := first | omega | (simp only [List.length_set, List.length_replicate, List.length_append, List.length_map, List.length_take, List.length_cons, List.length_nil]; omega)) [wrap64, c3]
    have H := (H.sw1.nil_ow (α := Exq)).sw2
    refine (c_pick (n := 4) R H (by omega) (by omega) ⟨by decide, by decide⟩).go ?_
    rintro _ ht ⟨r9, rfl, o9, z9, y9, H⟩
    by_cases c9 : r9 = 0
    · simp -implicitDefEqProofs (disch := first | omega | (simp only [List.length_set, List.length_replicate, List.length_append, List.length_map, List.length_take, List.length_cons, List.length_nil]; omega)) [wrap64, c9]
      refine H.bls [(1 : Int), -1, 1, -1, 2, -2] rfl rfl (okL (by decide)) (by decide) fun q hq H => ?_
      simp -implicitDefEqProofs (disch := first | omega | (simp only [List.length_set, List.length_replicate, List.length_append, List.length_map, List.length_take, List.length_cons, List.length_nil]; omega)) [wrap64]
      refine (c_num R H (by omega) (by omega) (by simp)).go ?_
      rintro _ ht2 ⟨sy, rfl, osy, _, H⟩
      simp -implicitDefEqProofs (disch := first | omega | (simp only [List.length_set, List.length_replicate, List.length_append, List.length_map, List.length_take, List.length_cons, List.length_nil]; omega)) [wrap64, setC, hOg, hCg]
      exact RetK.keep (hk _ _ ⟨⟨r1, r2, gu, -1, (Exq.mk 0 0 []), sy⟩, _, HS.mkEd (e := ⟨r1, r2, gu, -1, (Exq.mk 0 0 []), sy⟩) (H.bk2.sw1) ⟨o1, o2, k1, k2, im, i0, i0, osy⟩, ⟨by dsimp only; omega, by simp [Exq.nod, Exq.nods]⟩, by omega, by omega⟩)
    · simp -implicitDefEqProofs (disch := first | omega | (simp only [List.length_set, List.length_replicate, List.length_append, List.length_map, List.length_take, List.length_cons, List.length_nil]; omega)) [wrap64, c9, setC, hOg, hCg]
      exact RetK.keep (hk _ _ ⟨⟨r1, r2, gu, -1, (Exq.mk 0 0 []), 0⟩, _, HS.mkEd (e := ⟨r1, r2, gu, -1, (Exq.mk 0 0 []), 0⟩) (H.bk2.sw1) ⟨o1, o2, k1, k2, im, i0, i0, i0⟩, ⟨by dsimp only; omega, by simp [Exq.nod, Exq.nods]⟩, by omega, by omega⟩)
  simp -implicitDefEqProofs (disch := first | omega | (simp only [List.length_set, List.length_replicate, List.length_append, List.length_map, List.length_take, List.length_cons, List.length_nil]; omega)) [wrap64, c3]
  refine H.bls [(0 : Int), 1, 0, 2] rfl rfl (okL (by decide)) (by decide) fun q hq H => ?_
  simp -implicitDefEqProofs (disch := first | omega | (simp only [List.length_set, List.length_replicate, List.length_append, List.length_map, List.length_take, List.length_cons, List.length_nil]; omega)) [wrap64]
  refine (c_num R H (by omega) (by omega) (by simp)).go ?_
  rintro _ ht2 ⟨vr, rfl, ovr, _, H⟩
  simp -implicitDefEqProofs (disch := first | omega | (simp only [List.length_set, List.length_replicate, List.length_append, List.length_map, List.length_take, List.length_cons, List.length_nil]; omega)) [wrap64, setC, hOg, hCg]
  refine (c_pick (n := 4) R H (by omega) (by omega) ⟨by decide, by decide⟩).go ?_
  rintro _ h1 ⟨r5, rfl, o5, z5, y5, H⟩
  by_cases d0 : r5 = 0
  · simp -implicitDefEqProofs (disch := first | omega | (simp only [List.length_set, List.length_replicate, List.length_append, List.length_map, List.length_take, List.length_cons, List.length_nil]; omega)) [wrap64, d0]
    refine (c_pick (n := 3) R H (by omega) (by omega) ⟨by decide, by decide⟩).go ?_
    rintro _ h1 ⟨r6, rfl, o6, z6, y6, H⟩
    simp -implicitDefEqProofs (disch := first | omega | (simp only [List.length_set, List.length_replicate, List.length_append, List.length_map, List.length_take, List.length_cons, List.length_nil]; omega)) [wrap64, setC, hOg, hCg]
    have H := (H.sw1.nil_ow (α := Exq)).sw2
    refine (c_pick (n := 4) R H (by omega) (by omega) ⟨by decide, by decide⟩).go ?_
    rintro _ ht ⟨r9, rfl, o9, z9, y9, H⟩
    by_cases c9 : r9 = 0
    · simp -implicitDefEqProofs (disch := first | omega | (simp only [List.length_set, List.length_replicate, List.length_append, List.length_map, List.length_take, List.length_cons, List.length_nil]; omega)) [wrap64, c9]
      refine H.bls [(1 : Int), -1, 1, -1, 2, -2] rfl rfl (okL (by decide)) (by decide) fun q hq H => ?_
      simp -implicitDefEqProofs (disch := first | omega | (simp only [List.length_set, List.length_replicate, List.length_append, List.length_map, List.length_take, List.length_cons, List.length_nil]; omega)) [wrap64]
      refine (c_num R H (by omega) (by omega) (by simp)).go ?_
      rintro _ ht2 ⟨sy, rfl, osy, _, H⟩
      simp -implicitDefEqProofs (disch := first | omega | (simp only [List.length_set, List.length_replicate, List.length_append, List.length_map, List.length_take, List.length_cons, List.length_nil]; omega)) [wrap64, setC, hOg, hCg]
      exact RetK.keep (hk _ _ ⟨⟨r1, r2, gu, vr, (Exq.mk 1 r6 []), sy⟩, _, HS.mkEd (e := ⟨r1, r2, gu, vr, (Exq.mk 1 r6 []), sy⟩) (H.bk2.sw1) ⟨o1, o2, k1, k2, ovr, i1, o6, osy⟩, ⟨by dsimp only; omega, by simp [Exq.nod, Exq.nods]⟩, by omega, by omega⟩)
    · simp -implicitDefEqProofs (disch := first | omega | (simp only [List.length_set, List.length_replicate, List.length_append, List.length_map, List.length_take, List.length_cons, List.length_nil]; omega)) [wrap64, c9, setC, hOg, hCg]
      exact RetK.keep (hk _ _ ⟨⟨r1, r2, gu, vr, (Exq.mk 1 r6 []), 0⟩, _, HS.mkEd (e := ⟨r1, r2, gu, vr, (Exq.mk 1 r6 []), 0⟩) (H.bk2.sw1) ⟨o1, o2, k1, k2, ovr, i1, o6, i0⟩, ⟨by dsimp only; omega, by simp [Exq.nod, Exq.nods]⟩, by omega, by omega⟩)
  by_cases d1 : r5 = 1
  · simp -implicitDefEqProofs (disch := first | omega | (simp only [List.length_set, List.length_replicate, List.length_append, List.length_map, List.length_take, List.length_cons, List.length_nil]; omega)) [wrap64, d0, d1, setC]
    refine HS.blsO2 ((H.mkE0 (kd := 1) (vl := 1) ⟨by decide, by decide⟩ ⟨by decide, by decide⟩).mkE0 (kd := 2) (vl := vr) ⟨by decide, by decide⟩ ovr) rfl fun w h8 H => ?_
    have hOv := H.rep.one
    have hCv := H.rep.cells
    simp -implicitDefEqProofs (disch := first | omega | (simp only [List.length_set, List.length_replicate, List.length_append, List.length_map, List.length_take, List.length_cons, List.length_nil]; omega)) [wrap64, setC, hOg, hCg, hOv, hCv]
    have H := H.sw1
    refine (c_pick (n := 4) R H (by omega) (by omega) ⟨by decide, by decide⟩).go ?_
    rintro _ ht ⟨r9, rfl, o9, z9, y9, H⟩
    by_cases c9 : r9 = 0
    · simp -implicitDefEqProofs (disch := first | omega | (simp only [List.length_set, List.length_replicate, List.length_append, List.length_map, List.length_take, List.length_cons, List.length_nil]; omega)) [wrap64, c9]
      refine H.bls [(1 : Int), -1, 1, -1, 2, -2] rfl rfl (okL (by decide)) (by decide) fun q hq H => ?_
      simp -implicitDefEqProofs (disch := first | omega | (simp only [List.length_set, List.length_replicate, List.length_append, List.length_map, List.length_take, List.length_cons, List.length_nil]; omega)) [wrap64]
      refine (c_num R H (by omega) (by omega) (by simp)).go ?_
      rintro _ ht2 ⟨sy, rfl, osy, _, H⟩
      simp -implicitDefEqProofs (disch := first | omega | (simp only [List.length_set, List.length_replicate, List.length_append, List.length_map, List.length_take, List.length_cons, List.length_nil]; omega)) [wrap64, setC, hOg, hCg, hOv, hCv]
      exact RetK.keep (hk _ _ ⟨⟨r1, r2, gu, vr, (Exq.mk 8 0 [Exq.mk 2 vr [], Exq.mk 1 1 []]), sy⟩, _, HS.mkEd (e := ⟨r1, r2, gu, vr, (Exq.mk 8 0 [Exq.mk 2 vr [], Exq.mk 1 1 []]), sy⟩) (H.bk2.sw1) ⟨o1, o2, k1, k2, ovr, i8, i0, osy⟩, ⟨by dsimp only; omega, by simp [Exq.nod, Exq.nods]⟩, by omega, by omega⟩)
    · simp -implicitDefEqProofs (disch := first | omega | (simp only [List.length_set, List.length_replicate, List.length_append, List.length_map, List.length_take, List.length_cons, List.length_nil]; omega)) [wrap64, c9, setC, hOg, hCg, hOv, hCv]
      exact RetK.keep (hk _ _ ⟨⟨r1, r2, gu, vr, (Exq.mk 8 0 [Exq.mk 2 vr [], Exq.mk 1 1 []]), 0⟩, _, HS.mkEd (e := ⟨r1, r2, gu, vr, (Exq.mk 8 0 [Exq.mk 2 vr [], Exq.mk 1 1 []]), 0⟩) (H.bk2.sw1) ⟨o1, o2, k1, k2, ovr, i8, i0, i0⟩, ⟨by dsimp only; omega, by simp [Exq.nod, Exq.nods]⟩, by omega, by omega⟩)
  by_cases d2 : r5 = 2
  · simp -implicitDefEqProofs (disch := first | omega | (simp only [List.length_set, List.length_replicate, List.length_append, List.length_map, List.length_take, List.length_cons, List.length_nil]; omega)) [wrap64, d0, d1, d2, setC]
    refine HS.blsO2 ((H.mkE0 (kd := 2) (vl := vr) ⟨by decide, by decide⟩ ovr).mkE0 (kd := 1) (vl := 1) ⟨by decide, by decide⟩ ⟨by decide, by decide⟩) rfl fun w h8 H => ?_
    have hOv := H.rep.one
    have hCv := H.rep.cells
    simp -implicitDefEqProofs (disch := first | omega | (simp only [List.length_set, List.length_replicate, List.length_append, List.length_map, List.length_take, List.length_cons, List.length_nil]; omega)) [wrap64, setC, hOg, hCg, hOv, hCv]
    have H := H.sw1
    refine (c_pick (n := 4) R H (by omega) (by omega) ⟨by decide, by decide⟩).go ?_
    rintro _ ht ⟨r9, rfl, o9, z9, y9, H⟩
    by_cases c9 : r9 = 0
    · simp -implicitDefEqProofs (disch := first | omega | (simp only [List.length_set, List.length_replicate, List.length_append, List.length_map, List.length_take, List.length_cons, List.length_nil]; omega)) [wrap64, c9]
      refine H.bls [(1 : Int), -1, 1, -1, 2, -2] rfl rfl (okL (by decide)) (by decide) fun q hq H => ?_
      simp -implicitDefEqProofs (disch := first | omega | (simp only [List.length_set, List.length_replicate, List.length_append, List.length_map, List.length_take, List.length_cons, List.length_nil]; omega)) [wrap64]
      refine (c_num R H (by omega) (by omega) (by simp)).go ?_
      rintro _ ht2 ⟨sy, rfl, osy, _, H⟩
      simp -implicitDefEqProofs (disch := first | omega | (simp only [List.length_set, List.length_replicate, List.length_append, List.length_map, List.length_take, List.length_cons, List.length_nil]; omega)) [wrap64, setC, hOg, hCg, hOv, hCv]
      exact RetK.keep (hk _ _ ⟨⟨r1, r2, gu, vr, (Exq.mk 9 0 [Exq.mk 1 1 [], Exq.mk 2 vr []]), sy⟩, _, HS.mkEd (e := ⟨r1, r2, gu, vr, (Exq.mk 9 0 [Exq.mk 1 1 [], Exq.mk 2 vr []]), sy⟩) (H.bk2.sw1) ⟨o1, o2, k1, k2, ovr, i9, i0, osy⟩, ⟨by dsimp only; omega, by simp [Exq.nod, Exq.nods]⟩, by omega, by omega⟩)
    · simp -implicitDefEqProofs (disch := first | omega | (simp only [List.length_set, List.length_replicate, List.length_append, List.length_map, List.length_take, List.length_cons, List.length_nil]; omega)) [wrap64, c9, setC, hOg, hCg, hOv, hCv]
      exact RetK.keep (hk _ _ ⟨⟨r1, r2, gu, vr, (Exq.mk 9 0 [Exq.mk 1 1 [], Exq.mk 2 vr []]), 0⟩, _, HS.mkEd (e := ⟨r1, r2, gu, vr, (Exq.mk 9 0 [Exq.mk 1 1 [], Exq.mk 2 vr []]), 0⟩) (H.bk2.sw1) ⟨o1, o2, k1, k2, ovr, i9, i0, i0⟩, ⟨by dsimp only; omega, by simp [Exq.nod, Exq.nods]⟩, by omega, by omega⟩)
  · simp -implicitDefEqProofs (disch := first | omega | (simp only [List.length_set, List.length_replicate, List.length_append, List.length_map, List.length_take, List.length_cons, List.length_nil]; omega)) [wrap64, d0, d1, d2]
    refine (c_l1Expr R H (by omega) (by omega)).go ?_
    rintro _ h1 ⟨va, p5, H, hvn, hp5, hp6⟩
    obtain ⟨wv, rfl, k3, k4, H⟩ := H.unExq
    have hOv := H.rep.one
    have hCv := H.rep.cells
    simp -implicitDefEqProofs (disch := first | omega | (simp only [List.length_set, List.length_replicate, List.length_append, List.length_map, List.length_take, List.length_cons, List.length_nil]; omega)) [wrap64, setC, hOg, hCg, hOv, hCv]
    have H := H.sw1
    refine (c_pick (n := 4) R H (by omega) (by omega) ⟨by decide, by decide⟩).go ?_
    rintro _ ht ⟨r9, rfl, o9, z9, y9, H⟩
    by_cases c9 : r9 = 0
    · simp -implicitDefEqProofs (disch := first | omega | (simp only [List.length_set, List.length_replicate, List.length_append, List.length_map, List.length_take, List.length_cons, List.length_nil]; omega)) [wrap64, c9]
      refine H.bls [(1 : Int), -1, 1, -1, 2, -2] rfl rfl (okL (by decide)) (by decide) fun q hq H => ?_
      simp -implicitDefEqProofs (disch := first | omega | (simp only [List.length_set, List.length_replicate, List.length_append, List.length_map, List.length_take, List.length_cons, List.length_nil]; omega)) [wrap64]
      refine (c_num R H (by omega) (by omega) (by simp)).go ?_
      rintro _ ht2 ⟨sy, rfl, osy, _, H⟩
      simp -implicitDefEqProofs (disch := first | omega | (simp only [List.length_set, List.length_replicate, List.length_append, List.length_map, List.length_take, List.length_cons, List.length_nil]; omega)) [wrap64, setC, hOg, hCg, hOv, hCv]
      exact RetK.keep (hk _ _ ⟨⟨r1, r2, gu, vr, va, sy⟩, _, HS.mkEd (e := ⟨r1, r2, gu, vr, va, sy⟩) (H.bk2.sw1) ⟨o1, o2, k1, k2, ovr, k3, k4, osy⟩, ⟨by dsimp only; omega, by dsimp only; omega⟩, by omega, by omega⟩)
    · simp -implicitDefEqProofs (disch := first | omega | (simp only [List.length_set, List.length_replicate, List.length_append, List.length_map, List.length_take, List.length_cons, List.length_nil]; omega)) [wrap64, c9, setC, hOg, hCg, hOv, hCv]
      exact RetK.keep (hk _ _ ⟨⟨r1, r2, gu, vr, va, 0⟩, _, HS.mkEd (e := ⟨r1, r2, gu, vr, va, 0⟩) (H.bk2.sw1) ⟨o1, o2, k1, k2, ovr, k3, k4, i0⟩, ⟨by dsimp only; omega, by dsimp only; omega⟩, by omega, by omega⟩)
end Go.Proofs.Ytonjglbachhdcaa

/-
  Arguments of laws: systems that are drawn.
-/
namespace Go.Proofs.Ytonjglbachhdcaa
open Go
set_option linter.all false
set_option linter.unusedVariables false
set_option linter.unusedSimpArgs false
set_option linter.defProp false
set_option maxRecDepth 1000000

theorem c_l2System {g h : Heap} {Γ : List HP} {b : Nat} {sl : Value} {l : List (BitVec 8)} {p : Int} (R : Rep g sl l) (H : HS g (rb b sl p :: Γ) h) (hp : 0 ≤ p) (hp2 : p + 2000 ≤ 1000000000000) :
    CallE Try.prog fn_spec_l2System [.pointer (some ⟨b, 0, none⟩)] h (fun u h' => ∃ (y : Sy) (p' : Int), HS g (ow u y :: rb b sl p' :: Γ) h' ∧ y.Sm 40 ∧ p ≤ p' ∧ p' ≤ p + 1400) := by
  have i0 : I64 0 := ⟨by decide, by decide⟩
  refine CallE.gen fun k hk => EN_spec_l2System rfl ?_
  simp -implicitDefEqProofs (disch := first | omega | (simp only [List.length_set, List.length_replicate, List.length_append, List.length_map, List.length_take, List.length_cons, List.length_nil]; omega)) [wrap64]
  refine (c_pick (n := 2) R H (by omega) (by omega) ⟨by decide, by decide⟩).go ?_
  rintro _ h1 ⟨r1, rfl, o1, z1, y1, H⟩
  simp -implicitDefEqProofs (disch := first | omega | (simp only [List.length_set, List.length_replicate, List.length_append, List.length_map, List.length_take, List.length_cons, List.length_nil]; omega)) [wrap64]
  refine H.bls [(0 : Int), 0, 1, 3] rfl rfl (okL (by decide)) (by decide) fun q hq H => ?_
  simp -implicitDefEqProofs (disch := first | omega | (simp only [List.length_set, List.length_replicate, List.length_append, List.length_map, List.length_take, List.length_cons, List.length_nil]; omega)) [wrap64]
  refine (c_num R H (by omega) (by omega) (by simp)).go ?_
  rintro _ h1 ⟨r2, rfl, o2, _, H⟩
  simp -implicitDefEqProofs (disch := first | omega | (simp only [List.length_set, List.length_replicate, List.length_append, List.length_map, List.length_take, List.length_cons, List.length_nil]; omega)) [wrap64]
  refine H.bls [r1, r2, 0] rfl rfl (by intro x hx; simp at hx; rcases hx with rfl | rfl | rfl <;> first | exact o1 | exact o2 | exact i0) (by decide) fun wi hq H => ?_
  have hOi := H.rep.one
  have hCi := H.rep.cells
  simp -implicitDefEqProofs (disch := first | omega | (simp only [List.length_set, List.length_replicate, List.length_append, List.length_map, List.length_take, List.length_cons, List.length_nil]; omega)) [wrap64, setC, hOi, hCi]
  refine H.bls [(2 : Int), 1, 2, 3] rfl rfl (okL (by decide)) (by decide) fun q hq H => ?_
  simp -implicitDefEqProofs (disch := first | omega | (simp only [List.length_set, List.length_replicate, List.length_append, List.length_map, List.length_take, List.length_cons, List.length_nil]; omega)) [wrap64]
  refine (c_num R H.sw1.bk2 (by omega) (by omega) (by simp)).go ?_
  rintro _ h1 ⟨r3, rfl, o3, hr3, H⟩
  obtain ⟨n, rfl, hn⟩ : ∃ n : Nat, r3 = n ∧ n ≤ 3 := by
    simp at hr3
    rcases hr3 with rfl | rfl | rfl | rfl <;> first | exact ⟨2, rfl, by decide⟩ | exact ⟨1, rfl, by decide⟩ | exact ⟨3, rfl, by decide⟩
  simp -implicitDefEqProofs (disch := first | omega | (simp only [List.length_set, List.length_replicate, List.length_append, List.length_map, List.length_take, List.length_cons, List.length_nil]; omega)) [wrap64]
  refine wp_while (σ := Nat) (fun i e h' => ∃ (ps : List Pr) (w : Value) (p' : Int), e = [some (.pointer (some ⟨b, 0, none⟩)), some (.agg #[.slice none 0 0, .slice none 0 0]), some (.agg #[wi, w]), some (.int .i64 i), none, none] ∧ HS g (ow w ps :: ow wi [r1, r2, 0] :: rb b sl p' :: Γ) h' ∧ ps.length + i ≤ 3 ∧ (∀ x ∈ ps, x.Sm 40) ∧ p ≤ p' ∧ p' + 452 * i ≤ p + 3 + 3 * 452) (fun i => i) n ⟨[], .slice none 0 0, _, by simp, H.sw1.nil_ow, by simpa using hn, by simp, by omega, by omega⟩ ?_
  clear H hOi hCi
  rintro J i _ h3 hJ ⟨ps, w, p1, rfl, H, hpl, hps, hp3, hp4⟩
  have hOi := H.sw1.rep.one
  have hCi := H.sw1.rep.cells
  have hOw := H.rep.one
  have hCw := H.rep.cells
  by_cases c0 : 0 < i
  · have c0' : (0 : Int) < i := by omega
    simp -implicitDefEqProofs (disch := first | omega | (simp only [List.length_set, List.length_replicate, List.length_append, List.length_map, List.length_take, List.length_cons, List.length_nil]; omega)) [wrap64, c0, c0']
    refine H.bls [(2 : Int), 3, 1, 2] rfl rfl (okL (by decide)) (by decide) fun q hq H => ?_
    simp -implicitDefEqProofs (disch := first | omega | (simp only [List.length_set, List.length_replicate, List.length_append, List.length_map, List.length_take, List.length_cons, List.length_nil]; omega)) [wrap64]
    refine (c_num R (H.under fun _ H => H.sw2) (by omega) (by omega) (by simp)).go ?_
    rintro _ h4 ⟨lo, rfl, olo, _, H⟩
    simp -implicitDefEqProofs (disch := first | omega | (simp only [List.length_set, List.length_replicate, List.length_append, List.length_map, List.length_take, List.length_cons, List.length_nil]; omega)) [wrap64, setC]
    refine H.bls [(3 : Int), 4, 2, 5, 1] rfl rfl (okL (by decide)) (by decide) fun q hq H => ?_
    simp -implicitDefEqProofs (disch := first | omega | (simp only [List.length_set, List.length_replicate, List.length_append, List.length_map, List.length_take, List.length_cons, List.length_nil]; omega)) [wrap64]
    refine (c_num R H (by omega) (by omega) (by simp)).go ?_
    rintro _ h4 ⟨r5, rfl, o5, hr5, H⟩
    obtain ⟨n5, rfl, hn5⟩ : ∃ n : Nat, r5 = n ∧ n ≤ 5 := by
      simp at hr5
      rcases hr5 with rfl | rfl | rfl | rfl | rfl <;> first | exact ⟨3, rfl, by decide⟩ | exact ⟨4, rfl, by decide⟩ | exact ⟨2, rfl, by decide⟩ | exact ⟨5, rfl, by decide⟩ | exact ⟨1, rfl, by decide⟩
    simp -implicitDefEqProofs (disch := first | omega | (simp only [List.length_set, List.length_replicate, List.length_append, List.length_map, List.length_take, List.length_cons, List.length_nil]; omega)) [wrap64]
    refine wp_while (σ := Nat) (fun k e h' => ∃ (es : List Ed) (we : Value) (p' : Int), e = [some (.pointer (some ⟨b, 0, none⟩)), some (.agg #[.slice none 0 0, .slice none 0 0]), some (.agg #[wi, w]), some (.int .i64 i), some (.agg #[.int .i64 lo, we]), some (.int .i64 k)] ∧ HS g (ow we es :: rb b sl p' :: ow w ps :: ow wi [r1, r2, 0] :: Γ) h' ∧ es.length + k ≤ 5 ∧ (∀ x ∈ es, x.Sm 40) ∧ p1 ≤ p' ∧ p' + 90 * k ≤ p1 + 2 + 450) (fun i => i) n5 ⟨[], .slice none 0 0, _, by simp, H.nil_ow, by simpa using hn5, by simp, by omega, by omega⟩ ?_
    clear H
    rintro J2 k2 _ h5 hJ2 ⟨es, we, p2, rfl, H, hel, hes, hp5, hp6⟩
    by_cases c1 : 0 < k2
    · have c1' : (0 : Int) < k2 := by omega
      simp -implicitDefEqProofs (disch := first | omega | (simp only [List.length_set, List.length_replicate, List.length_append, List.length_map, List.length_take, List.length_cons, List.length_nil]; omega)) [wrap64, c1, c1', setC]
      refine (c_l2DrawEdge R H.sw1 (by omega) (by omega) olo).go ?_
      rintro _ h6 ⟨y, p3, H, hy, hp7, hp8⟩
      obtain ⟨w1, w2, rfl, ok, H'⟩ := H.unEd
      have hO1 := H'.rep.one
      have hC1 := H'.rep.cells
      have hO2 := H'.sw1.rep.one
      have hC2 := H'.sw1.rep.cells
      simp -implicitDefEqProofs (disch := first | omega | (simp only [List.length_set, List.length_replicate, List.length_append, List.length_map, List.length_take, List.length_cons, List.length_nil]; omega)) [wrap64, setC, Ed.cs, hO1, hC1, hO2, hC2]
      refine HS.appO (bytes := 112) H.sw2.sw1 rfl rfl rfl rfl rfl (by omega) (by omega) fun we' h7 H => ?_
      simp -implicitDefEqProofs (disch := first | omega | (simp only [List.length_set, List.length_replicate, List.length_append, List.length_map, List.length_take, List.length_cons, List.length_nil]; omega)) [wrap64, setC, H.rep.one, H.rep.cells]
      refine hJ2 (k2 - 1) _ _ (by omega) ⟨es ++ [y], we', p3, by simp; omega, H, by simp; omega, ?_, by omega, by omega⟩
      intro x hx
      simp only [List.mem_append, List.mem_singleton] at hx
      rcases hx with hx | rfl
      · exact hes x hx
      · exact hy
    · have c1' : ¬ ((0 : Int) < k2) := by omega
      have hOe := H.rep.one
      have hCe := H.rep.cells
      simp -implicitDefEqProofs (disch := first | omega | (simp only [List.length_set, List.length_replicate, List.length_append, List.length_map, List.length_take, List.length_cons, List.length_nil]; omega)) [wrap64, c1, c1', setC, hOe, hCe]
      refine HS.appO (bytes := 32) (HS.mkPr (p := ⟨lo, es⟩) H olo |>.sw2.sw1) rfl rfl rfl rfl rfl (by omega) (by omega) fun w' h7 H => ?_
      simp -implicitDefEqProofs (disch := first | omega | (simp only [List.length_set, List.length_replicate, List.length_append, List.length_map, List.length_take, List.length_cons, List.length_nil]; omega)) [wrap64, setC, H.rep.one, H.rep.cells]
      refine hJ (i - 1) _ _ (by omega) ⟨ps ++ [⟨lo, es⟩], w', p2, by simp; omega, H.under fun _ H => H.sw1, by simp; omega, ?_, by omega, by omega⟩
      intro x hx
      simp only [List.mem_append, List.mem_singleton] at hx
      rcases hx with hx | rfl
      · exact hps x hx
      · exact ⟨by dsimp only; omega, hes⟩
  · have c0' : ¬ ((0 : Int) < i) := by omega
    simp -implicitDefEqProofs (disch := first | omega | (simp only [List.length_set, List.length_replicate, List.length_append, List.length_map, List.length_take, List.length_cons, List.length_nil]; omega)) [wrap64, c0, c0', setC, hOi, hCi, hOw, hCw]
    exact RetK.keep (hk _ _ ⟨⟨[r1, r2, 0], ps⟩, p1, HS.mkSy (s := ⟨[r1, r2, 0], ps⟩) H.sw1, ⟨by simp, by dsimp only; omega, hps⟩, by omega, by omega⟩)
end Go.Proofs.Ytonjglbachhdcaa

/-
  Arguments of laws: copies of systems.
-/
namespace Go.Proofs.Ytonjglbachhdcaa
open Go
set_option linter.all false
set_option linter.unusedVariables false
set_option linter.unusedSimpArgs false
set_option linter.defProp false
set_option maxRecDepth 1000000

theorem c_l2CopyB {h : Heap} {v : Value} {s : Sy} {n : Nat} (R : Rep h v s) (hs : s.Sm n) (hn : n ≤ 1000) : CallE Try.prog fn_spec_l2Copy [v] h (fun u h' => ∃ y : Sy, HS h [ow u y] h' ∧ y.Sm n ∧ y.procs.length = s.procs.length) := by
  obtain ⟨v1, v2, rfl, R1, R2'⟩ := Rep_Sy.1 R
  have hil := hs.il
  have hpl := hs.pl
  have hO1 := R1.one
  have hO2 := R2'.one
  refine CallE.gen fun k hk => EN_spec_l2Copy rfl ?_
  simp -implicitDefEqProofs (disch := first | omega | (simp only [List.length_set, List.length_replicate, List.length_append, List.length_map, List.length_take, List.length_cons, List.length_nil]; omega)) [wrap64]
  refine HS.appPL (α := Int) (l2 := s.init) HS.init rfl rfl R1 rfl rfl (by omega) fun wi h1 H => ?_
  simp -implicitDefEqProofs (disch := first | omega | (simp only [List.length_set, List.length_replicate, List.length_append, List.length_map, List.length_take, List.length_cons, List.length_nil]; omega)) [wrap64, setC, H.rep.one, H.rep.cells]
  refine wp_count s.procs.length (fun i e h' => ∃ (ps : List Pr) (w : Value), e = [none, some (.agg #[v1, v2]), some (.agg #[.slice none 0 0, .slice none 0 0]), some (.agg #[wi, w]), some (.int .i64 i), none, none, none] ∧ HS h [ow w ps, ow wi s.init] h' ∧ ps.length = i ∧ ∀ x ∈ ps, x.Sm n) ⟨[], .slice none 0 0, by simp, H.nil_ow, rfl, by simp⟩ ?_
  clear H
  rintro J i _ h2 hJ hi ⟨ps, w, rfl, H, hpsl, hps⟩
  have hOi := H.sw1.rep.one
  have hCi := H.sw1.rep.cells
  have hOw := H.rep.one
  have hCw := H.rep.cells
  simp -implicitDefEqProofs (disch := first | omega | (simp only [List.length_set, List.length_replicate, List.length_append, List.length_map, List.length_take, List.length_cons, List.length_nil]; omega)) [wrap64, (R2'.on H).len]
  refine IteW.mk (fun hlt => ?_) (fun hge => ?_)
  · have hi : i < s.procs.length := by omega
    have hpi := hs.pp _ (List.getElem_mem hi)
    have hel := hpi.el
    obtain ⟨u, hu, Ru⟩ := R2'.ld hi
    change hload _ (some (elp 2 v2 i)) (some 2) = some u at hu
    obtain ⟨we, rfl, k1, R3⟩ := Rep_Pr.1 Ru
    have hP : ∀ {h'}, h.le h' → _ := fun {h'} (hl : h.le h') => hld_parts (hload_le hl hu)
    have hP1 := (hP H.base).1
    have hP2 := (hP H.base).2.2.1
    simp -implicitDefEqProofs (disch := first | omega | (simp only [List.length_set, List.length_replicate, List.length_append, List.length_map, List.length_take, List.length_cons, List.length_nil]; omega)) [wrap64, R2'.X (n := 2) rfl, hP1, hP2, setC]
    refine wp_count s.procs[i].edges.length (fun k e h' => ∃ (es : List Ed) (wp : Value), e = [none, some (.agg #[v1, v2]), some (.agg #[.slice none 0 0, .slice none 0 0]), some (.agg #[wi, w]), some (.int .i64 i), some (.agg #[.int .i64 s.procs[i].locs, wp]), some (.int .i64 k), none] ∧ HS h [ow wp es, ow w ps, ow wi s.init] h' ∧ es.length = k ∧ ∀ x ∈ es, x.Sm n) ⟨[], .slice none 0 0, by simp, H.nil_ow, rfl, by simp⟩ ?_
    clear H hP1 hP2
    rintro J2 k2 _ h3 hJ2 hk2 ⟨es, wp, rfl, H, hesl, hes⟩
    have hP1 := (hP H.base).1
    have hP2 := (hP H.base).2.2.1
    simp -implicitDefEqProofs (disch := first | omega | (simp only [List.length_set, List.length_replicate, List.length_append, List.length_map, List.length_take, List.length_cons, List.length_nil]; omega)) [wrap64, R2'.X (n := 2) rfl, hP1, hP2, R3.len]
    refine IteW.mk (fun hlt2 => ?_) (fun hge2 => ?_)
    · have hk2 : k2 < s.procs[i].edges.length := by omega
      have hek := hpi.ee _ (List.getElem_mem hk2)
      obtain ⟨u2, hu2, Ru2⟩ := R3.ld hk2
      have hu2 := hload_le H.base hu2
      change hload _ (some (elp 10 we k2)) (some 10) = some u2 at hu2
      obtain ⟨w1, w2, rfl, ok, G1, G2⟩ := Rep_Ed.1 Ru2
      have hF1 := G1.one
      have hF2 := G2.one
      have hF3 := G1.cells
      have hF4 := G2.cells
      simp -implicitDefEqProofs (disch := first | omega | (simp only [List.length_set, List.length_replicate, List.length_append, List.length_map, List.length_take, List.length_cons, List.length_nil]; omega)) [wrap64, R2'.X (n := 2) rfl, hP1, hP2, R3.X (n := 10) rfl, hu2, Ed.cs, setC, hF1, hF2]
      refine (c_l1SubstB _ ((Rep.gd (w2 := w2) ok G1).on H) (by have := hek.g; omega)).go ?_
      rintro _ h4 ⟨gu, G, hgn⟩
      obtain ⟨wg, rfl, kg1, kg2, G'⟩ := G.unExq
      have hOg := G'.rep.one
      have hCg := G'.rep.cells
      have H := G'.app H
      simp -implicitDefEqProofs (disch := first | omega | (simp only [List.length_set, List.length_replicate, List.length_append, List.length_map, List.length_take, List.length_cons, List.length_nil]; omega)) [wrap64, setC, hF1, hF2, hOg, hCg]
      refine (c_l1SubstB _ ((Rep.vl ok G2).on H) (by have := hek.v; omega)).go ?_
      rintro _ h4 ⟨va, G, hvn⟩
      obtain ⟨wv, rfl, kv1, kv2, G'⟩ := G.unExq
      have hOv := G'.rep.one
      have hCv := G'.rep.cells
      have H := G'.app H
      simp -implicitDefEqProofs (disch := first | omega | (simp only [List.length_set, List.length_replicate, List.length_append, List.length_map, List.length_take, List.length_cons, List.length_nil]; omega)) [wrap64, setC, hF1, hF2, hOg, hCg, hOv, hCv]
      have H := HS.mkEd (e := ⟨s.procs[i].edges[k2].frm, s.procs[i].edges[k2].to, gu, s.procs[i].edges[k2].var, va, s.procs[i].edges[k2].sync⟩) H.sw1 ⟨ok.frm, ok.to, kg1, kg2, ok.var, kv1, kv2, ok.sync⟩
      refine HS.appO (bytes := 112) H rfl rfl rfl rfl rfl (by omega) (by omega) fun we' h7 H => ?_
      simp -implicitDefEqProofs (disch := first | omega | (simp only [List.length_set, List.length_replicate, List.length_append, List.length_map, List.length_take, List.length_cons, List.length_nil]; omega)) [wrap64, setC, H.rep.one, H.rep.cells]
      refine hJ2 _ _ hk2 ⟨_, we', by simp, H, by simp [hesl], ?_⟩
      intro x hx
      simp only [List.mem_append, List.mem_singleton] at hx
      rcases hx with hx | rfl
      · exact hes x hx
      · exact ⟨by have := hek.g; dsimp only; omega, by have := hek.v; dsimp only; omega⟩
    · have hOe := H.rep.one
      have hCe := H.rep.cells
      simp -implicitDefEqProofs (disch := first | omega | (simp only [List.length_set, List.length_replicate, List.length_append, List.length_map, List.length_take, List.length_cons, List.length_nil]; omega)) [wrap64, setC, hOe, hCe, hOw, hCw, hOi, hCi]
      refine HS.appO (bytes := 32) (HS.mkPr (p := ⟨s.procs[i].locs, es⟩) H k1) rfl rfl rfl rfl rfl (by omega) (by omega) fun w' h7 H => ?_
      simp -implicitDefEqProofs (disch := first | omega | (simp only [List.length_set, List.length_replicate, List.length_append, List.length_map, List.length_take, List.length_cons, List.length_nil]; omega)) [wrap64, setC, H.rep.one, H.rep.cells, hOi, hCi]
      refine hJ _ _ hi ⟨_, w', by simp, H, by simp [hpsl], ?_⟩
      intro x hx
      simp only [List.mem_append, List.mem_singleton] at hx
      rcases hx with hx | rfl
      · exact hps x hx
      · exact ⟨by dsimp only; omega, hes⟩
  · simp -implicitDefEqProofs (disch := first | omega | (simp only [List.length_set, List.length_replicate, List.length_append, List.length_map, List.length_take, List.length_cons, List.length_nil]; omega)) [wrap64, setC, hOi, hCi, hOw, hCw]
    exact RetK.keep (hk _ _ ⟨⟨s.init, ps⟩, HS.mkSy (s := ⟨s.init, ps⟩) H.sw1, ⟨hs.il, by dsimp only; omega, hps⟩, by dsimp only; omega⟩)
end Go.Proofs.Ytonjglbachhdcaa

/-
  Arguments of laws: changed systems.
-/
namespace Go.Proofs.Ytonjglbachhdcaa
open Go
set_option linter.all false
set_option linter.unusedVariables false
set_option linter.unusedSimpArgs false
set_option linter.defProp false
set_option maxRecDepth 1000000

theorem Ed.Sm.le {n m : Nat} {e : Ed} (h : e.Sm n) (hn : n ≤ m) : e.Sm m := ⟨by have := h.g; omega, by have := h.v; omega⟩
theorem Pr.Sm.le {n m : Nat} {p : Pr} (h : p.Sm n) (hn : n ≤ m) : p.Sm m := ⟨by have := h.el; omega, fun e he => (h.ee e he).le hn⟩
theorem Sy.Sm.le {n m : Nat} {s : Sy} (h : s.Sm n) (hn : n ≤ m) : s.Sm m := ⟨by have := h.il; omega, by have := h.pl; omega, fun p hp => (h.pp p hp).le hn⟩
theorem Sy.Sm.set {n : Nat} {s : Sy} (h : s.Sm n) {i : Nat} (hi : i < s.procs.length) (he : 0 < s.procs[i].edges.length) {e : Ed} (hs : e.Sm n) : Sy.Sm n ⟨s.init, s.procs.set i ⟨s.procs[i].locs, s.procs[i].edges.set 0 e⟩⟩ := by
  refine ⟨h.il, by simpa using h.pl, fun p hp => ?_⟩
  rcases List.mem_or_eq_of_mem_set hp with h1 | rfl
  · exact h.pp p h1
  · have h2 := h.pp _ (List.getElem_mem hi)
    refine ⟨by simpa using h2.el, fun x hx => ?_⟩
    rcases List.mem_or_eq_of_mem_set hx with h3 | rfl
    · exact h2.ee x h3
    · exact hs

set_option maxHeartbeats 2000000 in
theorem c_l2Mutate {g h : Heap} {Γ : List HP} {b n : Nat} {sl v : Value} {l : List (BitVec 8)} {p : Int} {s : Sy} (R : Rep g sl l) (Rs : Rep g v s) (hs : s.Sm n) (hn : 40 ≤ n) (hn2 : n ≤ 900) (H : HS g (rb b sl p :: Γ) h) (hp : 0 ≤ p) (hp2 : p + 200 ≤ 1000000000000) :
    CallE Try.prog fn_spec_l2Mutate [.pointer (some ⟨b, 0, none⟩), v] h (fun u h' => ∃ (y : Sy) (p' : Int), HS g (ow u y :: rb b sl p' :: Γ) h' ∧ y.Sm (n + 1) ∧ p ≤ p' ∧ p' ≤ p + 100) := by
  have FS := Rs.aSy
  have Rs0 := Rs
  obtain ⟨v1, v2, rfl, R1, R2'⟩ := Rep_Sy.1 Rs
  have hspl := hs.pl
  refine CallE.gen fun k hk => EN_spec_l2Mutate rfl ?_
  simp -implicitDefEqProofs (disch := first | omega | (simp only [List.length_set, List.length_replicate, List.length_append, List.length_map, List.length_take, List.length_cons, List.length_nil]; omega)) [wrap64, FS]
  refine (c_l2CopyB (Rs0.on H) hs (by omega)).go ?_
  rintro _ h1 ⟨y, G, hyn, hypl⟩
  obtain ⟨wi, w, rfl, G'⟩ := G.unSy
  have H := G'.app H
  have hy := hyn.le (show n ≤ n + 1 by omega)
  have hyil := hyn.il
  have hOi := H.rep.one
  have hCi := H.rep.cells
  have hOw := H.sw1.rep.one
  have hCw := H.sw1.rep.cells
  have hL2 := (R2'.on H).len
  simp -implicitDefEqProofs (disch := first | omega | (simp only [List.length_set, List.length_replicate, List.length_append, List.length_map, List.length_take, List.length_cons, List.length_nil]; omega)) [wrap64, setC, hOi, hCi, hOw, hCw, hL2]
  have H := H.sw2
  refine (c_pick R H (by omega) (by omega) ⟨by omega, by omega⟩).go ?_
  rintro _ h2 ⟨r, rfl, o0, z0, y0, H⟩
  have y0 := y0 (by omega)
  obtain ⟨p1, hp1⟩ : ∃ p1, p1 = p + 1 := ⟨_, rfl⟩
  rw [← hp1] at H
  have hL2 := (R2'.on H).len
  by_cases q0 : r = s.procs.length
  · simp -implicitDefEqProofs (disch := first | omega | (simp only [List.length_set, List.length_replicate, List.length_append, List.length_map, List.length_take, List.length_cons, List.length_nil]; omega)) [wrap64, hL2, q0]
    refine (c_pick (n := 50) R H (by omega) (by omega) ⟨by decide, by decide⟩).go ?_
    rintro _ h3 ⟨r6, rfl, o6, z6, y6, H⟩
    by_cases c0 : r6 = 0
    · simp -implicitDefEqProofs (disch := first | omega | (simp only [List.length_set, List.length_replicate, List.length_append, List.length_map, List.length_take, List.length_cons, List.length_nil]; omega)) [wrap64, c0, setC]
      refine HS.app1 (bytes := 8) H.sw1 (0 : Int) rfl rfl rfl ⟨by decide, by decide⟩ rfl rfl (by omega) (by omega) fun wi' h5 H => ?_
      simp -implicitDefEqProofs (disch := first | omega | (simp only [List.length_set, List.length_replicate, List.length_append, List.length_map, List.length_take, List.length_cons, List.length_nil]; omega)) [wrap64, setC, H.rep.one, H.rep.cells, hOw, hCw]
      exact RetK.keep (hk _ _ ⟨⟨y.init ++ [0], y.procs⟩, _, HS.mkSy (s := ⟨y.init ++ [0], y.procs⟩) (H.under fun _ H => H.sw1), ⟨by have := hyn.il; simp; omega, hy.pl, hy.pp⟩, by omega, by omega⟩)
    by_cases c1 : r6 = 1
    · simp -implicitDefEqProofs (disch := first | omega | (simp only [List.length_set, List.length_replicate, List.length_append, List.length_map, List.length_take, List.length_cons, List.length_nil]; omega)) [wrap64, c0, c1]
      refine H.bls [(0 : Int), 1, 4, 5] rfl rfl (okL (by decide)) (by decide) fun q hq H => ?_
      simp -implicitDefEqProofs (disch := first | omega | (simp only [List.length_set, List.length_replicate, List.length_append, List.length_map, List.length_take, List.length_cons, List.length_nil]; omega)) [wrap64]
      refine (c_num R H (by omega) (by omega) (by simp)).go ?_
      rintro _ h4 ⟨r7, rfl, o7, _, H⟩
      simp -implicitDefEqProofs (disch := first | omega | (simp only [List.length_set, List.length_replicate, List.length_append, List.length_map, List.length_take, List.length_cons, List.length_nil]; omega)) [wrap64, setC]
      have H := HS.mkPr (p := ⟨r7, []⟩) (H.nil_ow (α := Ed)) o7
      refine HS.appO (bytes := 32) (H.sw3.sw1) rfl rfl rfl rfl rfl (by omega) (by omega) fun w' h7 H => ?_
      simp -implicitDefEqProofs (disch := first | omega | (simp only [List.length_set, List.length_replicate, List.length_append, List.length_map, List.length_take, List.length_cons, List.length_nil]; omega)) [wrap64, setC, hOi, hCi, H.rep.one, H.rep.cells]
      refine RetK.keep (hk _ _ ⟨_, _, HS.mkSy (s := ⟨y.init, y.procs ++ [⟨r7, []⟩]⟩) H.sw2, ⟨hy.il, by have := hyn.pl; simp; omega, ?_⟩, by omega, by omega⟩)
      intro x hx
      simp only [List.mem_append, List.mem_singleton] at hx
      rcases hx with hx | rfl
      · exact hy.pp x hx
      · exact ⟨by simp, by simp⟩
    by_cases c2 : r6 = 2
    · simp -implicitDefEqProofs (disch := first | omega | (simp only [List.length_set, List.length_replicate, List.length_append, List.length_map, List.length_take, List.length_cons, List.length_nil]; omega)) [wrap64, c0, c1, c2, setC, hOi, hCi, hOw, hCw]
      exact RetK.keep (hk _ _ ⟨y, _, HS.mkSy H.sw2.sw2, hy, by omega, by omega⟩)
    by_cases c3 : r6 = 3
    · simp -implicitDefEqProofs (disch := first | omega | (simp only [List.length_set, List.length_replicate, List.length_append, List.length_map, List.length_take, List.length_cons, List.length_nil]; omega)) [wrap64, c0, c1, c2, c3, setC, hOi, hCi, hOw, hCw]
      exact RetK.keep (hk _ _ ⟨y, _, HS.mkSy H.sw2.sw2, hy, by omega, by omega⟩)
    by_cases c4 : r6 = 4
    · simp -implicitDefEqProofs (disch := first | omega | (simp only [List.length_set, List.length_replicate, List.length_append, List.length_map, List.length_take, List.length_cons, List.length_nil]; omega)) [wrap64, c0, c1, c2, c3, c4, setC, hOi, hCi, hOw, hCw]
      exact RetK.keep (hk _ _ ⟨y, _, HS.mkSy H.sw2.sw2, hy, by omega, by omega⟩)
    by_cases c5 : r6 = 5
    · simp -implicitDefEqProofs (disch := first | omega | (simp only [List.length_set, List.length_replicate, List.length_append, List.length_map, List.length_take, List.length_cons, List.length_nil]; omega)) [wrap64, c0, c1, c2, c3, c4, c5, setC, hOi, hCi, hOw, hCw]
      exact RetK.keep (hk _ _ ⟨y, _, HS.mkSy H.sw2.sw2, hy, by omega, by omega⟩)
    by_cases c6 : r6 = 6
    · simp -implicitDefEqProofs (disch := first | omega | (simp only [List.length_set, List.length_replicate, List.length_append, List.length_map, List.length_take, List.length_cons, List.length_nil]; omega)) [wrap64, c0, c1, c2, c3, c4, c5, c6, setC]
      exact RetK.keep (hk _ _ ⟨⟨[], []⟩, p1 + 1, HS.mkSy (s := ⟨[], []⟩) (H.sw2.drop.sw1.drop.nil_ow.nil_ow), ⟨by simp, by simp, by simp⟩, by omega, by omega⟩)
    · simp -implicitDefEqProofs (disch := first | omega | (simp only [List.length_set, List.length_replicate, List.length_append, List.length_map, List.length_take, List.length_cons, List.length_nil]; omega)) [wrap64, c0, c1, c2, c3, c4, c5, c6, setC, hOi, hCi, hOw, hCw]
      exact RetK.keep (hk _ _ ⟨y, _, HS.mkSy H.sw2.sw2, hy, by omega, by omega⟩)
  obtain ⟨i, rfl⟩ : ∃ i : Nat, r = i := ⟨r.toNat, (Int.toNat_of_nonneg z0).symm⟩
  have hi : i < y.procs.length := by omega
  have hpi := hyn.pp _ (List.getElem_mem hi)
  obtain ⟨u, hu, Ru⟩ := H.sw2.rep.ld hi
  change hload _ (some (elp 2 w i)) (some 2) = some u at hu
  obtain ⟨we, rfl, kl, R3⟩ := Rep_Pr.1 Ru
  have hP := hld_parts (cs := [.int .i64 y.procs[i].locs, we]) hu
  obtain ⟨ln, hln⟩ : ∃ ln : Int, ln = y.procs[i].edges.length := ⟨_, rfl⟩
  have hlen := R3.len
  rw [← hln] at hlen
  have hX := H.sw2.rep.X (n := 2) rfl
  by_cases q1 : ln = 0
  · simp -implicitDefEqProofs (disch := first | omega | (simp only [List.length_set, List.length_replicate, List.length_append, List.length_map, List.length_take, List.length_cons, List.length_nil]; omega)) [wrap64, hL2, q0, hX, hP.1, hP.2.2.1, hlen, q1]
    refine (c_pick (n := 50) R H (by omega) (by omega) ⟨by decide, by decide⟩).go ?_
    rintro _ h3 ⟨r6, rfl, o6, z6, y6, H⟩
    by_cases c0 : r6 = 0
    · simp -implicitDefEqProofs (disch := first | omega | (simp only [List.length_set, List.length_replicate, List.length_append, List.length_map, List.length_take, List.length_cons, List.length_nil]; omega)) [wrap64, c0, setC]
      refine HS.app1 (bytes := 8) H.sw1 (0 : Int) rfl rfl rfl ⟨by decide, by decide⟩ rfl rfl (by omega) (by omega) fun wi' h5 H => ?_
      simp -implicitDefEqProofs (disch := first | omega | (simp only [List.length_set, List.length_replicate, List.length_append, List.length_map, List.length_take, List.length_cons, List.length_nil]; omega)) [wrap64, setC, H.rep.one, H.rep.cells, hOw, hCw]
      exact RetK.keep (hk _ _ ⟨⟨y.init ++ [0], y.procs⟩, _, HS.mkSy (s := ⟨y.init ++ [0], y.procs⟩) (H.under fun _ H => H.sw1), ⟨by have := hyn.il; simp; omega, hy.pl, hy.pp⟩, by omega, by omega⟩)
    by_cases c1 : r6 = 1
    · simp -implicitDefEqProofs (disch := first | omega | (simp only [List.length_set, List.length_replicate, List.length_append, List.length_map, List.length_take, List.length_cons, List.length_nil]; omega)) [wrap64, c0, c1]
      refine H.bls [(0 : Int), 1, 4, 5] rfl rfl (okL (by decide)) (by decide) fun q hq H => ?_
      simp -implicitDefEqProofs (disch := first | omega | (simp only [List.length_set, List.length_replicate, List.length_append, List.length_map, List.length_take, List.length_cons, List.length_nil]; omega)) [wrap64]
      refine (c_num R H (by omega) (by omega) (by simp)).go ?_
      rintro _ h4 ⟨r7, rfl, o7, _, H⟩
      simp -implicitDefEqProofs (disch := first | omega | (simp only [List.length_set, List.length_replicate, List.length_append, List.length_map, List.length_take, List.length_cons, List.length_nil]; omega)) [wrap64, setC]
      have H := HS.mkPr (p := ⟨r7, []⟩) (H.nil_ow (α := Ed)) o7
      refine HS.appO (bytes := 32) (H.sw3.sw1) rfl rfl rfl rfl rfl (by omega) (by omega) fun w' h7 H => ?_
      simp -implicitDefEqProofs (disch := first | omega | (simp only [List.length_set, List.length_replicate, List.length_append, List.length_map, List.length_take, List.length_cons, List.length_nil]; omega)) [wrap64, setC, hOi, hCi, H.rep.one, H.rep.cells]
      refine RetK.keep (hk _ _ ⟨_, _, HS.mkSy (s := ⟨y.init, y.procs ++ [⟨r7, []⟩]⟩) H.sw2, ⟨hy.il, by have := hyn.pl; simp; omega, ?_⟩, by omega, by omega⟩)
      intro x hx
      simp only [List.mem_append, List.mem_singleton] at hx
      rcases hx with hx | rfl
      · exact hy.pp x hx
      · exact ⟨by simp, by simp⟩
    by_cases c2 : r6 = 2
    · simp -implicitDefEqProofs (disch := first | omega | (simp only [List.length_set, List.length_replicate, List.length_append, List.length_map, List.length_take, List.length_cons, List.length_nil]; omega)) [wrap64, c0, c1, c2, setC, hOi, hCi, hOw, hCw]
      exact RetK.keep (hk _ _ ⟨y, _, HS.mkSy H.sw2.sw2, hy, by omega, by omega⟩)
    by_cases c3 : r6 = 3
    · simp -implicitDefEqProofs (disch := first | omega | (simp only [List.length_set, List.length_replicate, List.length_append, List.length_map, List.length_take, List.length_cons, List.length_nil]; omega)) [wrap64, c0, c1, c2, c3, setC, hOi, hCi, hOw, hCw]
      exact RetK.keep (hk _ _ ⟨y, _, HS.mkSy H.sw2.sw2, hy, by omega, by omega⟩)
    by_cases c4 : r6 = 4
    · simp -implicitDefEqProofs (disch := first | omega | (simp only [List.length_set, List.length_replicate, List.length_append, List.length_map, List.length_take, List.length_cons, List.length_nil]; omega)) [wrap64, c0, c1, c2, c3, c4, setC, hOi, hCi, hOw, hCw]
      exact RetK.keep (hk _ _ ⟨y, _, HS.mkSy H.sw2.sw2, hy, by omega, by omega⟩)
    by_cases c5 : r6 = 5
    · simp -implicitDefEqProofs (disch := first | omega | (simp only [List.length_set, List.length_replicate, List.length_append, List.length_map, List.length_take, List.length_cons, List.length_nil]; omega)) [wrap64, c0, c1, c2, c3, c4, c5, setC, hOi, hCi, hOw, hCw]
      exact RetK.keep (hk _ _ ⟨y, _, HS.mkSy H.sw2.sw2, hy, by omega, by omega⟩)
    by_cases c6 : r6 = 6
    · simp -implicitDefEqProofs (disch := first | omega | (simp only [List.length_set, List.length_replicate, List.length_append, List.length_map, List.length_take, List.length_cons, List.length_nil]; omega)) [wrap64, c0, c1, c2, c3, c4, c5, c6, setC]
      exact RetK.keep (hk _ _ ⟨⟨[], []⟩, p1 + 1, HS.mkSy (s := ⟨[], []⟩) (H.sw2.drop.sw1.drop.nil_ow.nil_ow), ⟨by simp, by simp, by simp⟩, by omega, by omega⟩)
    · simp -implicitDefEqProofs (disch := first | omega | (simp only [List.length_set, List.length_replicate, List.length_append, List.length_map, List.length_take, List.length_cons, List.length_nil]; omega)) [wrap64, c0, c1, c2, c3, c4, c5, c6, setC, hOi, hCi, hOw, hCw]
      exact RetK.keep (hk _ _ ⟨y, _, HS.mkSy H.sw2.sw2, hy, by omega, by omega⟩)
  have he : 0 < y.procs[i].edges.length := by omega
  have hek := hpi.ee _ (List.getElem_mem he)
  have heg : y.procs[i].edges[0].guard.nod ≤ n + 1 := by have := hek.g; omega
  have hev : y.procs[i].edges[0].value.nod ≤ n + 1 := by have := hek.v; omega
  simp -implicitDefEqProofs (disch := first | omega | (simp only [List.length_set, List.length_replicate, List.length_append, List.length_map, List.length_take, List.length_cons, List.length_nil]; omega)) [wrap64, hL2, q0, hX, hP.1, hP.2.2.1, hlen, q1]
  refine (c_pick (n := 50) R H (by omega) (by omega) ⟨by decide, by decide⟩).go ?_
  rintro _ h3 ⟨r6, rfl, o6, z6, y6, H⟩
  by_cases c0 : r6 = 0
  · simp -implicitDefEqProofs (disch := first | omega | (simp only [List.length_set, List.length_replicate, List.length_append, List.length_map, List.length_take, List.length_cons, List.length_nil]; omega)) [wrap64, c0, setC]
    refine HS.app1 (bytes := 8) H.sw1 (0 : Int) rfl rfl rfl ⟨by decide, by decide⟩ rfl rfl (by omega) (by omega) fun wi' h5 H => ?_
    simp -implicitDefEqProofs (disch := first | omega | (simp only [List.length_set, List.length_replicate, List.length_append, List.length_map, List.length_take, List.length_cons, List.length_nil]; omega)) [wrap64, setC, H.rep.one, H.rep.cells, hOw, hCw]
    exact RetK.keep (hk _ _ ⟨⟨y.init ++ [0], y.procs⟩, _, HS.mkSy (s := ⟨y.init ++ [0], y.procs⟩) (H.under fun _ H => H.sw1), ⟨by have := hyn.il; simp; omega, hy.pl, hy.pp⟩, by omega, by omega⟩)
  by_cases c1 : r6 = 1
  · simp -implicitDefEqProofs (disch := first | omega | (simp only [List.length_set, List.length_replicate, List.length_append, List.length_map, List.length_take, List.length_cons, List.length_nil]; omega)) [wrap64, c0, c1]
    refine H.bls [(0 : Int), 1, 4, 5] rfl rfl (okL (by decide)) (by decide) fun q hq H => ?_
    simp -implicitDefEqProofs (disch := first | omega | (simp only [List.length_set, List.length_replicate, List.length_append, List.length_map, List.length_take, List.length_cons, List.length_nil]; omega)) [wrap64]
    refine (c_num R H (by omega) (by omega) (by simp)).go ?_
    rintro _ h4 ⟨r7, rfl, o7, _, H⟩
    simp -implicitDefEqProofs (disch := first | omega | (simp only [List.length_set, List.length_replicate, List.length_append, List.length_map, List.length_take, List.length_cons, List.length_nil]; omega)) [wrap64, setC]
    have H := HS.mkPr (p := ⟨r7, []⟩) (H.nil_ow (α := Ed)) o7
    refine HS.appO (bytes := 32) (H.sw3.sw1) rfl rfl rfl rfl rfl (by omega) (by omega) fun w' h7 H => ?_
    simp -implicitDefEqProofs (disch := first | omega | (simp only [List.length_set, List.length_replicate, List.length_append, List.length_map, List.length_take, List.length_cons, List.length_nil]; omega)) [wrap64, setC, hOi, hCi, H.rep.one, H.rep.cells]
    refine RetK.keep (hk _ _ ⟨_, _, HS.mkSy (s := ⟨y.init, y.procs ++ [⟨r7, []⟩]⟩) H.sw2, ⟨hy.il, by have := hyn.pl; simp; omega, ?_⟩, by omega, by omega⟩)
    intro x hx
    simp only [List.mem_append, List.mem_singleton] at hx
    rcases hx with hx | rfl
    · exact hy.pp x hx
    · exact ⟨by simp, by simp⟩
  by_cases c2 : r6 = 2
  · have H := H.sw2
    obtain ⟨uP, huP, H⟩ := HS.take H hi
    obtain ⟨we, rfl, kl, H⟩ := H.unPr
    obtain ⟨uE, huE, H⟩ := HS.take H he
    obtain ⟨x1, x2, rfl, ok, H⟩ := H.unEd
    have hiaP := HS.holeia H.sw3 (n := 2) (kd := .i64) rfl hi
    have hPP := hld_parts (cs := [.int .i64 y.procs[i].locs, we]) (HS.holeP H.sw3 (n := 2) rfl rfl)
    have hiaE : iaV 10 we (.int .i64 0) = some (elp 10 we 0) := HS.holeia H.sw2 (n := 10) (kd := .i64) rfl he
    have H := H.sw4
    simp -implicitDefEqProofs (disch := first | omega | (simp only [List.length_set, List.length_replicate, List.length_append, List.length_map, List.length_take, List.length_cons, List.length_nil]; omega)) [wrap64, c0, c1, c2, hiaP, hPP.1, hPP.2.2.1, hiaE]
    refine (c_l1Expr R H (by omega) (by omega)).go ?_
    rintro _ h4 ⟨e1, p3, H, hen, hp5, hp6⟩
    have FA := H.rep.aExq
    have hPP := hld_parts (cs := [.int .i64 y.procs[i].locs, we]) (HS.holeP H.sw5 (n := 2) rfl rfl)
    simp -implicitDefEqProofs (disch := first | omega | (simp only [List.length_set, List.length_replicate, List.length_append, List.length_map, List.length_take, List.length_cons, List.length_nil]; omega)) [wrap64, hiaP, hPP.1, hPP.2.2.1, hiaE, FA]
    obtain ⟨g1, H1, H2⟩ := HS.rebase (Δ := [rb b sl p3]) H.sw1
    refine (c_l1Mutate (R.on H1) H1.rep (by omega) H2 (by omega) (by omega)).go ?_
    rintro _ h5 ⟨y2, p4, H3, hyn, hp7, hp8⟩
    have H := H3.app H1
    obtain ⟨w2, rfl, k3, k4, H⟩ := H.unExq
    have hO2 := H.rep.one
    have hPP := hld_parts (cs := [.int .i64 y.procs[i].locs, we]) (HS.holeP H.sw6 (n := 2) rfl rfl)
    have hPE := hld_parts (HS.holeP H.sw5 (n := 10) rfl rfl)
    simp -implicitDefEqProofs (disch := first | omega | (simp only [List.length_set, List.length_replicate, List.length_append, List.length_map, List.length_take, List.length_cons, List.length_nil]; omega)) [wrap64, hiaP, hPP.1, hPP.2.2.1, hiaE, hPE.1]
    refine HS.holest H.sw5 rfl (n := 10) rfl rfl rfl rfl (by simp [hO2]) (by decide) fun h5 H => ?_
    have H : HS g (hole we y.procs[i].edges 0 (.agg (Ed.cs ⟨y.procs[i].edges[0].frm, y.procs[i].edges[0].to, y2, y.procs[i].edges[0].var, y.procs[i].edges[0].value, y.procs[i].edges[0].sync⟩ w2 x2).toArray) :: ow w2 y2.kids :: rb b sl p4 :: ow _ e1 :: ow x1 y.procs[i].edges[0].guard.kids :: ow x2 y.procs[i].edges[0].value.kids :: hole w y.procs i (.agg #[.int .i64 y.procs[i].locs, we]) :: ow wi y.init :: Γ) h5 := H
    have H := HS.put (HS.mkEd (e := ⟨y.procs[i].edges[0].frm, y.procs[i].edges[0].to, y2, y.procs[i].edges[0].var, y.procs[i].edges[0].value, y.procs[i].edges[0].sync⟩) H.sw5.sw2 ⟨ok.frm, ok.to, k3, k4, ok.var, ok.vk, ok.vv, ok.sync⟩)
    have H := HS.put ((HS.mkPr (p := ⟨y.procs[i].locs, y.procs[i].edges.set 0 ⟨y.procs[i].edges[0].frm, y.procs[i].edges[0].to, y2, y.procs[i].edges[0].var, y.procs[i].edges[0].value, y.procs[i].edges[0].sync⟩⟩) H kl).under fun _ H => H.sw3)
    have hOi := H.sw4.rep.one
    have hCi := H.sw4.rep.cells
    have hOw := H.rep.one
    have hCw := H.rep.cells
    simp -implicitDefEqProofs (disch := first | omega | (simp only [List.length_set, List.length_replicate, List.length_append, List.length_map, List.length_take, List.length_cons, List.length_nil]; omega)) [wrap64, setC, hOi, hCi, hOw, hCw]
    exact RetK.keep (hk _ _ ⟨_, _, (HS.mkSy (s := ⟨y.init, y.procs.set i ⟨y.procs[i].locs, y.procs[i].edges.set 0 ⟨y.procs[i].edges[0].frm, y.procs[i].edges[0].to, y2, y.procs[i].edges[0].var, y.procs[i].edges[0].value, y.procs[i].edges[0].sync⟩⟩⟩) H.sw4).sw3.drop.sw2.drop, Sy.Sm.set hy hi he ⟨by first | omega | (dsimp only; omega), hev⟩, by omega, by omega⟩)
  by_cases c3 : r6 = 3
  · have H := H.sw2
    obtain ⟨uP, huP, H⟩ := HS.take H hi
    obtain ⟨we, rfl, kl, H⟩ := H.unPr
    obtain ⟨uE, huE, H⟩ := HS.take H he
    obtain ⟨x1, x2, rfl, ok, H⟩ := H.unEd
    have hiaP := HS.holeia H.sw3 (n := 2) (kd := .i64) rfl hi
    have hPP := hld_parts (cs := [.int .i64 y.procs[i].locs, we]) (HS.holeP H.sw3 (n := 2) rfl rfl)
    have hiaE : iaV 10 we (.int .i64 0) = some (elp 10 we 0) := HS.holeia H.sw2 (n := 10) (kd := .i64) rfl he
    simp -implicitDefEqProofs (disch := first | omega | (simp only [List.length_set, List.length_replicate, List.length_append, List.length_map, List.length_take, List.length_cons, List.length_nil]; omega)) [wrap64, c0, c1, c2, c3, hiaP, hPP.1, hPP.2.2.1, hiaE]
    refine H.bls [(-1 : Int), 3, 0, -2] rfl rfl (okL (by decide)) (by decide) fun q hq H => ?_
    have H := H.sw5.sw1
    have hPP := hld_parts (cs := [.int .i64 y.procs[i].locs, we]) (HS.holeP H.sw5 (n := 2) rfl rfl)
    simp -implicitDefEqProofs (disch := first | omega | (simp only [List.length_set, List.length_replicate, List.length_append, List.length_map, List.length_take, List.length_cons, List.length_nil]; omega)) [wrap64, hiaP, hPP.1, hPP.2.2.1, hiaE]
    refine (c_num R H (by omega) (by omega) (by simp)).go ?_
    rintro _ h4 ⟨r7, rfl, o7, _, H⟩
    have hPP := hld_parts (cs := [.int .i64 y.procs[i].locs, we]) (HS.holeP H.sw4 (n := 2) rfl rfl)
    have hPE := hld_parts (HS.holeP H.sw3 (n := 10) rfl rfl)
    simp -implicitDefEqProofs (disch := first | omega | (simp only [List.length_set, List.length_replicate, List.length_append, List.length_map, List.length_take, List.length_cons, List.length_nil]; omega)) [wrap64, hiaP, hPP.1, hPP.2.2.1, hiaE, hPE.1]
    refine HS.holest H.sw3 rfl (n := 10) rfl rfl rfl rfl rfl (by decide) fun h5 H => ?_
    have H : HS g (hole we y.procs[i].edges 0 (.agg (Ed.cs ⟨y.procs[i].edges[0].frm, y.procs[i].edges[0].to, y.procs[i].edges[0].guard, r7, y.procs[i].edges[0].value, y.procs[i].edges[0].sync⟩ x1 x2).toArray) :: rb b sl (p1 + 1 + 1) :: ow x1 y.procs[i].edges[0].guard.kids :: ow x2 y.procs[i].edges[0].value.kids :: hole w y.procs i (.agg #[.int .i64 y.procs[i].locs, we]) :: ow wi y.init :: Γ) h5 := H
    have H := HS.put (HS.mkEd (e := ⟨y.procs[i].edges[0].frm, y.procs[i].edges[0].to, y.procs[i].edges[0].guard, r7, y.procs[i].edges[0].value, y.procs[i].edges[0].sync⟩) H.sw3.sw3 ⟨ok.frm, ok.to, ok.gk, ok.gv, o7, ok.vk, ok.vv, ok.sync⟩)
    have H := HS.put ((HS.mkPr (p := ⟨y.procs[i].locs, y.procs[i].edges.set 0 ⟨y.procs[i].edges[0].frm, y.procs[i].edges[0].to, y.procs[i].edges[0].guard, r7, y.procs[i].edges[0].value, y.procs[i].edges[0].sync⟩⟩) H kl).under fun _ H => H.sw1)
    have hOi := H.sw2.rep.one
    have hCi := H.sw2.rep.cells
    have hOw := H.rep.one
    have hCw := H.rep.cells
    simp -implicitDefEqProofs (disch := first | omega | (simp only [List.length_set, List.length_replicate, List.length_append, List.length_map, List.length_take, List.length_cons, List.length_nil]; omega)) [wrap64, setC, hOi, hCi, hOw, hCw]
    exact RetK.keep (hk _ _ ⟨_, _, HS.mkSy (s := ⟨y.init, y.procs.set i ⟨y.procs[i].locs, y.procs[i].edges.set 0 ⟨y.procs[i].edges[0].frm, y.procs[i].edges[0].to, y.procs[i].edges[0].guard, r7, y.procs[i].edges[0].value, y.procs[i].edges[0].sync⟩⟩⟩) H.sw2, Sy.Sm.set hy hi he ⟨heg, hev⟩, by omega, by omega⟩)
  by_cases c4 : r6 = 4
  · have H := H.sw2
    obtain ⟨uP, huP, H⟩ := HS.take H hi
    obtain ⟨we, rfl, kl, H⟩ := H.unPr
    obtain ⟨uE, huE, H⟩ := HS.take H he
    obtain ⟨x1, x2, rfl, ok, H⟩ := H.unEd
    have hiaP := HS.holeia H.sw3 (n := 2) (kd := .i64) rfl hi
    have hPP := hld_parts (cs := [.int .i64 y.procs[i].locs, we]) (HS.holeP H.sw3 (n := 2) rfl rfl)
    have hiaE : iaV 10 we (.int .i64 0) = some (elp 10 we 0) := HS.holeia H.sw2 (n := 10) (kd := .i64) rfl he
    simp -implicitDefEqProofs (disch := first | omega | (simp only [List.length_set, List.length_replicate, List.length_append, List.length_map, List.length_take, List.length_cons, List.length_nil]; omega)) [wrap64, c0, c1, c2, c3, c4, hiaP, hPP.1, hPP.2.2.1, hiaE]
    refine H.bls [(3 : Int), -3, 2, -9223372036854775808] rfl rfl (okL (by decide)) (by decide) fun q hq H => ?_
    have H := H.sw5.sw1
    have hPP := hld_parts (cs := [.int .i64 y.procs[i].locs, we]) (HS.holeP H.sw5 (n := 2) rfl rfl)
    simp -implicitDefEqProofs (disch := first | omega | (simp only [List.length_set, List.length_replicate, List.length_append, List.length_map, List.length_take, List.length_cons, List.length_nil]; omega)) [wrap64, hiaP, hPP.1, hPP.2.2.1, hiaE]
    refine (c_num R H (by omega) (by omega) (by simp)).go ?_
    rintro _ h4 ⟨r7, rfl, o7, _, H⟩
    have hPP := hld_parts (cs := [.int .i64 y.procs[i].locs, we]) (HS.holeP H.sw4 (n := 2) rfl rfl)
    have hPE := hld_parts (HS.holeP H.sw3 (n := 10) rfl rfl)
    simp -implicitDefEqProofs (disch := first | omega | (simp only [List.length_set, List.length_replicate, List.length_append, List.length_map, List.length_take, List.length_cons, List.length_nil]; omega)) [wrap64, hiaP, hPP.1, hPP.2.2.1, hiaE, hPE.1]
    refine HS.holest H.sw3 rfl (n := 10) rfl rfl rfl rfl rfl (by decide) fun h5 H => ?_
    have H : HS g (hole we y.procs[i].edges 0 (.agg (Ed.cs ⟨y.procs[i].edges[0].frm, y.procs[i].edges[0].to, y.procs[i].edges[0].guard, y.procs[i].edges[0].var, y.procs[i].edges[0].value, r7⟩ x1 x2).toArray) :: rb b sl (p1 + 1 + 1) :: ow x1 y.procs[i].edges[0].guard.kids :: ow x2 y.procs[i].edges[0].value.kids :: hole w y.procs i (.agg #[.int .i64 y.procs[i].locs, we]) :: ow wi y.init :: Γ) h5 := H
    have H := HS.put (HS.mkEd (e := ⟨y.procs[i].edges[0].frm, y.procs[i].edges[0].to, y.procs[i].edges[0].guard, y.procs[i].edges[0].var, y.procs[i].edges[0].value, r7⟩) H.sw3.sw3 ⟨ok.frm, ok.to, ok.gk, ok.gv, ok.var, ok.vk, ok.vv, o7⟩)
    have H := HS.put ((HS.mkPr (p := ⟨y.procs[i].locs, y.procs[i].edges.set 0 ⟨y.procs[i].edges[0].frm, y.procs[i].edges[0].to, y.procs[i].edges[0].guard, y.procs[i].edges[0].var, y.procs[i].edges[0].value, r7⟩⟩) H kl).under fun _ H => H.sw1)
    have hOi := H.sw2.rep.one
    have hCi := H.sw2.rep.cells
    have hOw := H.rep.one
    have hCw := H.rep.cells
    simp -implicitDefEqProofs (disch := first | omega | (simp only [List.length_set, List.length_replicate, List.length_append, List.length_map, List.length_take, List.length_cons, List.length_nil]; omega)) [wrap64, setC, hOi, hCi, hOw, hCw]
    exact RetK.keep (hk _ _ ⟨_, _, HS.mkSy (s := ⟨y.init, y.procs.set i ⟨y.procs[i].locs, y.procs[i].edges.set 0 ⟨y.procs[i].edges[0].frm, y.procs[i].edges[0].to, y.procs[i].edges[0].guard, y.procs[i].edges[0].var, y.procs[i].edges[0].value, r7⟩⟩⟩) H.sw2, Sy.Sm.set hy hi he ⟨heg, hev⟩, by omega, by omega⟩)
  by_cases c5 : r6 = 5
  · have H := H.sw2
    obtain ⟨uP, huP, H⟩ := HS.take H hi
    obtain ⟨we, rfl, kl, H⟩ := H.unPr
    obtain ⟨uE, huE, H⟩ := HS.take H he
    obtain ⟨x1, x2, rfl, ok, H⟩ := H.unEd
    have hiaP := HS.holeia H.sw3 (n := 2) (kd := .i64) rfl hi
    have hPP := hld_parts (cs := [.int .i64 y.procs[i].locs, we]) (HS.holeP H.sw3 (n := 2) rfl rfl)
    have hiaE : iaV 10 we (.int .i64 0) = some (elp 10 we 0) := HS.holeia H.sw2 (n := 10) (kd := .i64) rfl he
    simp -implicitDefEqProofs (disch := first | omega | (simp only [List.length_set, List.length_replicate, List.length_append, List.length_map, List.length_take, List.length_cons, List.length_nil]; omega)) [wrap64, c0, c1, c2, c3, c4, c5, hiaP, hPP.1, hPP.2.2.1, hiaE]
    refine H.bls [(-1 : Int), 4, 0, 9223372036854775807] rfl rfl (okL (by decide)) (by decide) fun q hq H => ?_
    have H := H.sw5.sw1
    have hPP := hld_parts (cs := [.int .i64 y.procs[i].locs, we]) (HS.holeP H.sw5 (n := 2) rfl rfl)
    simp -implicitDefEqProofs (disch := first | omega | (simp only [List.length_set, List.length_replicate, List.length_append, List.length_map, List.length_take, List.length_cons, List.length_nil]; omega)) [wrap64, hiaP, hPP.1, hPP.2.2.1, hiaE]
    refine (c_num R H (by omega) (by omega) (by simp)).go ?_
    rintro _ h4 ⟨r7, rfl, o7, _, H⟩
    have hPP := hld_parts (cs := [.int .i64 y.procs[i].locs, we]) (HS.holeP H.sw4 (n := 2) rfl rfl)
    have hPE := hld_parts (HS.holeP H.sw3 (n := 10) rfl rfl)
    simp -implicitDefEqProofs (disch := first | omega | (simp only [List.length_set, List.length_replicate, List.length_append, List.length_map, List.length_take, List.length_cons, List.length_nil]; omega)) [wrap64, hiaP, hPP.1, hPP.2.2.1, hiaE, hPE.1]
    refine HS.holest H.sw3 rfl (n := 10) rfl rfl rfl rfl rfl (by decide) fun h5 H => ?_
    have H : HS g (hole we y.procs[i].edges 0 (.agg (Ed.cs ⟨y.procs[i].edges[0].frm, r7, y.procs[i].edges[0].guard, y.procs[i].edges[0].var, y.procs[i].edges[0].value, y.procs[i].edges[0].sync⟩ x1 x2).toArray) :: rb b sl (p1 + 1 + 1) :: ow x1 y.procs[i].edges[0].guard.kids :: ow x2 y.procs[i].edges[0].value.kids :: hole w y.procs i (.agg #[.int .i64 y.procs[i].locs, we]) :: ow wi y.init :: Γ) h5 := H
    have H := HS.put (HS.mkEd (e := ⟨y.procs[i].edges[0].frm, r7, y.procs[i].edges[0].guard, y.procs[i].edges[0].var, y.procs[i].edges[0].value, y.procs[i].edges[0].sync⟩) H.sw3.sw3 ⟨ok.frm, o7, ok.gk, ok.gv, ok.var, ok.vk, ok.vv, ok.sync⟩)
    have H := HS.put ((HS.mkPr (p := ⟨y.procs[i].locs, y.procs[i].edges.set 0 ⟨y.procs[i].edges[0].frm, r7, y.procs[i].edges[0].guard, y.procs[i].edges[0].var, y.procs[i].edges[0].value, y.procs[i].edges[0].sync⟩⟩) H kl).under fun _ H => H.sw1)
    have hOi := H.sw2.rep.one
    have hCi := H.sw2.rep.cells
    have hOw := H.rep.one
    have hCw := H.rep.cells
    simp -implicitDefEqProofs (disch := first | omega | (simp only [List.length_set, List.length_replicate, List.length_append, List.length_map, List.length_take, List.length_cons, List.length_nil]; omega)) [wrap64, setC, hOi, hCi, hOw, hCw]
    exact RetK.keep (hk _ _ ⟨_, _, HS.mkSy (s := ⟨y.init, y.procs.set i ⟨y.procs[i].locs, y.procs[i].edges.set 0 ⟨y.procs[i].edges[0].frm, r7, y.procs[i].edges[0].guard, y.procs[i].edges[0].var, y.procs[i].edges[0].value, y.procs[i].edges[0].sync⟩⟩⟩) H.sw2, Sy.Sm.set hy hi he ⟨heg, hev⟩, by omega, by omega⟩)
  by_cases c6 : r6 = 6
  · simp -implicitDefEqProofs (disch := first | omega | (simp only [List.length_set, List.length_replicate, List.length_append, List.length_map, List.length_take, List.length_cons, List.length_nil]; omega)) [wrap64, c0, c1, c2, c3, c4, c5, c6, setC]
    exact RetK.keep (hk _ _ ⟨⟨[], []⟩, p1 + 1, HS.mkSy (s := ⟨[], []⟩) (H.sw2.drop.sw1.drop.nil_ow.nil_ow), ⟨by simp, by simp, by simp⟩, by omega, by omega⟩)
  · simp -implicitDefEqProofs (disch := first | omega | (simp only [List.length_set, List.length_replicate, List.length_append, List.length_map, List.length_take, List.length_cons, List.length_nil]; omega)) [wrap64, c0, c1, c2, c3, c4, c5, c6, setC, hOi, hCi, hOw, hCw]
    exact RetK.keep (hk _ _ ⟨y, _, HS.mkSy H.sw2.sw2, hy, by omega, by omega⟩)
end Go.Proofs.Ytonjglbachhdcaa

/-
  Arguments of laws: labels that are drawn.
-/
namespace Go.Proofs.Ytonjglbachhdcaa
open Go
set_option linter.all false
set_option linter.unusedVariables false
set_option linter.unusedSimpArgs false
set_option linter.defProp false
set_option maxRecDepth 1000000

/-- the front of a list -/
theorem HS.cutF {α : Type} [Ty α] {g h : Heap} {Γ : List HP} {v : Value} {l : List α} (H : HS g (ow v l :: Γ) h) {n esz : Nat} {k : IntKind} (hn : n ≤ l.length) : ∃ v', sliceVV esz v none (some (some (.int k n))) none = some v' ∧ HS g (ow v' (l.take n) :: Γ) h := by
  obtain ⟨g', r, rfl, d, O, H⟩ := H
  rcases Own_list.1 O with ⟨p, rfl, rfl, rfl, hp⟩ | ⟨b, off, cap, cells, el, r', rfl, ⟨h1, hM⟩, h2, rfl, h4, h5⟩
  · have hn0 : n = 0 := by simpa using hn
    subst hn0
    exact ⟨.slice p 0 0, by simp [sliceVV, bndV], g', Heap.nil, rfl, d, Own_list.2 (.inl ⟨p, rfl, by simp, rfl, hp⟩), H⟩
  · rw [← List.take_append_drop n l] at h5
    obtain ⟨r1, r2, rfl, d2, h6, h7⟩ := ownL_split h5
    obtain ⟨d3, d4⟩ := Dj_add.1 d
    obtain ⟨d5, d6⟩ := Dj_add.1 d4
    obtain ⟨n1, n2⟩ : r1 b = none ∧ r2 b = none := by simpa [Heap.add] using h4
    refine ⟨.slice (some ⟨b, off, none⟩) n cap, ?_, g'.add r2, (Heap.one b (.cells cells.toArray el (0, 0))).add r1, by ac_rfl, ?_, ?_, H.le (le_add d6)⟩
    · have : n ≤ cap := by omega
      simp [sliceVV, bndV, add_none, this]
    · exact Dj_add.2 ⟨add_Dj.2 ⟨d3, (Dj_one.2 n2)⟩, add_Dj.2 ⟨d5, d2.symm⟩⟩
    · have hl : (l.take n).length = n := by simp; omega
      exact Own_list.2 (.inr ⟨b, off, cap, cells, el, r1, by rw [hl], ⟨by omega, by omega⟩, h2, rfl, n1, h6⟩)

theorem c_l8Labels {g h : Heap} {Γ : List HP} {b : Nat} {sl : Value} {l : List (BitVec 8)} {p : Int} (R : Rep g sl l) (H : HS g (rb b sl p :: Γ) h) (hp : 0 ≤ p) (hp2 : p + 200 ≤ 1000000000000) :
    CallE Try.prog fn_spec_l8Labels [.pointer (some ⟨b, 0, none⟩)] h (fun u h' => ∃ (y : List Exq) (p' : Int), HS g (ow u y :: rb b sl p' :: Γ) h' ∧ y.length ≤ 3 ∧ p ≤ p' ∧ p' ≤ p + 50) := by
  refine CallE.gen fun k hk => EN_spec_l8Labels rfl ?_
  simp -implicitDefEqProofs (disch := first | omega | (simp only [List.length_set, List.length_replicate, List.length_append, List.length_map, List.length_take, List.length_cons, List.length_nil]; omega)) [wrap64]
  refine H.bls0 Exq fun o h1 H => ?_
  simp -implicitDefEqProofs (disch := first | omega | (simp only [List.length_set, List.length_replicate, List.length_append, List.length_map, List.length_take, List.length_cons, List.length_nil]; omega)) [wrap64]
  refine wp_count 3 (fun i e h' => ∃ (ls : List Exq) (w : Value) (p' : Int), e = [some (.pointer (some ⟨b, 0, none⟩)), none, some w, some (.int .i64 i), none, none] ∧ HS g (ow w ls :: rb b sl p' :: Γ) h' ∧ ls.length = i ∧ (∀ x ∈ ls, x.nod ≤ 4) ∧ p ≤ p' ∧ p' ≤ p + 6 * i) ⟨[], o, _, by simp, H, rfl, by simp, by omega, by omega⟩ ?_
  clear H
  rintro J i _ h2 hJ hi ⟨ls, w, p1, rfl, H, hl, hls, hp3, hp4⟩
  simp -implicitDefEqProofs (disch := first | omega | (simp only [List.length_set, List.length_replicate, List.length_append, List.length_map, List.length_take, List.length_cons, List.length_nil]; omega)) [wrap64]
  refine IteW.mk (fun hlt => ?_) (fun hge => ?_)
  · simp -implicitDefEqProofs (disch := first | omega | (simp only [List.length_set, List.length_replicate, List.length_append, List.length_map, List.length_take, List.length_cons, List.length_nil]; omega)) [wrap64]
    refine (c_l2Guard R H.sw1 (by omega) (by omega)).go ?_
    rintro _ h3 ⟨y, p2, H, hy, hp5, hp6⟩
    obtain ⟨wy, rfl, k1, k2, H'⟩ := H.unExq
    have hO := H'.rep.one
    have hC := H'.rep.cells
    by_cases c1 : y.kind = 1
    · simp -implicitDefEqProofs (disch := first | omega | (simp only [List.length_set, List.length_replicate, List.length_append, List.length_map, List.length_take, List.length_cons, List.length_nil]; omega)) [wrap64, setC, hO, hC, c1]
      refine (c_pick (n := 3) R H.sw1 (by omega) (by omega) ⟨by decide, by decide⟩).go ?_
      rintro _ h1 ⟨r1, rfl, o1, z1, y1, H⟩
      simp -implicitDefEqProofs (disch := first | omega | (simp only [List.length_set, List.length_replicate, List.length_append, List.length_map, List.length_take, List.length_cons, List.length_nil]; omega)) [wrap64, setC]
      refine HS.appO (bytes := 40) ((H.sw1.drop.sw1).mkE0 (kd := 2) (vl := r1) ⟨by decide, by decide⟩ o1) rfl rfl rfl rfl rfl (by omega) (by omega) fun w' h7 H => ?_
      simp -implicitDefEqProofs (disch := first | omega | (simp only [List.length_set, List.length_replicate, List.length_append, List.length_map, List.length_take, List.length_cons, List.length_nil]; omega)) [wrap64]
      refine hJ _ _ (by omega) ⟨_, w', _, by simp, H, by simp [hl], ?_, by omega, by push_cast; omega⟩
      intro x hx
      simp only [List.mem_append, List.mem_singleton] at hx
      rcases hx with hx | rfl
      · exact hls x hx
      · rw [Exq.nod_mk0]; omega
    · simp -implicitDefEqProofs (disch := first | omega | (simp only [List.length_set, List.length_replicate, List.length_append, List.length_map, List.length_take, List.length_cons, List.length_nil]; omega)) [wrap64, setC, hO, hC, c1]
      refine HS.appO (bytes := 40) (H.sw2.sw1) rfl rfl rfl rfl rfl (by omega) (by omega) fun w' h7 H => ?_
      simp -implicitDefEqProofs (disch := first | omega | (simp only [List.length_set, List.length_replicate, List.length_append, List.length_map, List.length_take, List.length_cons, List.length_nil]; omega)) [wrap64]
      refine hJ _ _ (by omega) ⟨_, w', _, by simp, H, by simp [hl], ?_, by omega, by push_cast; omega⟩
      intro x hx
      simp only [List.mem_append, List.mem_singleton] at hx
      rcases hx with hx | rfl
      · exact hls x hx
      · exact hy
  obtain rfl : i = 3 := by omega
  simp -implicitDefEqProofs (disch := first | omega | (simp only [List.length_set, List.length_replicate, List.length_append, List.length_map, List.length_take, List.length_cons, List.length_nil]; omega)) [wrap64]
  refine (c_pick (n := 40) R H.sw1 (by omega) (by omega) ⟨by decide, by decide⟩).go ?_
  rintro _ h3 ⟨r1, rfl, o1, z1, y1, H⟩
  by_cases c0 : r1 = 0
  · obtain ⟨w', e1, H'⟩ := H.sw1.cutF (n := 2) (esz := 3) (k := .i64) (by omega)
    have e2 : sliceVV 3 w none (some (some (.int .i64 2))) none = some w' := e1
    simp -implicitDefEqProofs (disch := first | omega | (simp only [List.length_set, List.length_replicate, List.length_append, List.length_map, List.length_take, List.length_cons, List.length_nil]; omega)) [wrap64, c0, e2]
    exact RetK.keep (hk _ _ ⟨_, _, H', by simp; omega, by omega, by omega⟩)
  by_cases c1 : r1 = 1
  · have h1l : 1 < ls.length := by omega
    obtain ⟨g1, H1, H2⟩ := HS.rebase (Δ := [rb b sl (p1 + 1)]) H
    obtain ⟨u, hu, Ru⟩ := H1.rep.ld h1l
    have hu2 := hload_le H2.base hu
    change hload _ (some (elp 3 w 1)) (some 3) = some u at hu2
    have hia : iaV 3 w (.int .i64 1) = some (elp 3 w 1) := (H1.rep.X (n := 3) rfl).1 .i64 1 h1l
    have hx := hls _ (List.getElem_mem h1l)
    simp -implicitDefEqProofs (disch := first | omega | (simp only [List.length_set, List.length_replicate, List.length_append, List.length_map, List.length_take, List.length_cons, List.length_nil]; omega)) [wrap64, c0, c1, hia, hu2, Ru.aExq]
    refine (c_l1Mutate (R.on H1) Ru (by omega) H2 (by omega) (by omega)).go ?_
    rintro _ h4 ⟨y2, p2, H3, hyn, hp5, hp6⟩
    have H := H3.app H1
    have FA := H.rep.aExq
    simp -implicitDefEqProofs (disch := first | omega | (simp only [List.length_set, List.length_replicate, List.length_append, List.length_map, List.length_take, List.length_cons, List.length_nil]; omega)) [wrap64, FA]
    obtain ⟨g2, H1, H2⟩ := HS.rebase (Δ := [rb b sl p2]) H.sw1
    refine (c_l1Mutate (R.on H1) H1.rep (by omega) H2 (by omega) (by omega)).go ?_
    rintro _ h4 ⟨y3, p3, H3, hyn, hp7, hp8⟩
    have H := H3.app H1
    have FB := H.rep.aExq
    simp -implicitDefEqProofs (disch := first | omega | (simp only [List.length_set, List.length_replicate, List.length_append, List.length_map, List.length_take, List.length_cons, List.length_nil]; omega)) [wrap64, hia, FB]
    refine HS.store H.sw3.sw1 (i := 1) h1l rfl rfl rfl fun h5 H => ?_
    simp -implicitDefEqProofs (disch := first | omega | (simp only [List.length_set, List.length_replicate, List.length_append, List.length_map, List.length_take, List.length_cons, List.length_nil]; omega)) [wrap64]
    exact RetK.keep (hk _ _ ⟨_, _, H.sw2.drop, by simp; omega, by omega, by omega⟩)
  · simp -implicitDefEqProofs (disch := first | omega | (simp only [List.length_set, List.length_replicate, List.length_append, List.length_map, List.length_take, List.length_cons, List.length_nil]; omega)) [wrap64, c0, c1]
    exact RetK.keep (hk _ _ ⟨ls, _, H.sw1, by omega, by omega, by omega⟩)
end Go.Proofs.Ytonjglbachhdcaa

/-
  Arguments of laws: systems with labels.
-/
namespace Go.Proofs.Ytonjglbachhdcaa
open Go
set_option linter.all false
set_option linter.unusedVariables false
set_option linter.unusedSimpArgs false
set_option linter.defProp false
set_option maxRecDepth 1000000

theorem c_l14Labels {g h : Heap} {Γ : List HP} {b : Nat} {sl : Value} {l : List (BitVec 8)} {p : Int} (R : Rep g sl l) (H : HS g (rb b sl p :: Γ) h) (hp : 0 ≤ p) (hp2 : p + 200 ≤ 1000000000000) :
    CallE Try.prog fn_spec_l14Labels [.pointer (some ⟨b, 0, none⟩)] h (fun u h' => ∃ (y : List Exq) (p' : Int), HS g (ow u y :: rb b sl p' :: Γ) h' ∧ y.length ≤ 3 ∧ p ≤ p' ∧ p' ≤ p + 60) := by
  refine CallE.gen fun k hk => EN_spec_l14Labels rfl ?_
  simp -implicitDefEqProofs (disch := first | omega | (simp only [List.length_set, List.length_replicate, List.length_append, List.length_map, List.length_take, List.length_cons, List.length_nil]; omega)) [wrap64]
  refine (c_l8Labels R H (by omega) (by omega)).go ?_
  rintro w h1 ⟨y, p1, H, hyl, hp3, hp4⟩
  simp -implicitDefEqProofs (disch := first | omega | (simp only [List.length_set, List.length_replicate, List.length_append, List.length_map, List.length_take, List.length_cons, List.length_nil]; omega)) [wrap64]
  refine wp_count y.length (fun i e h' => ∃ (ls : List Exq) (p' : Int), e = [some (.pointer (some ⟨b, 0, none⟩)), none, some w, some (.int .i64 i)] ∧ HS g (ow w ls :: rb b sl p' :: Γ) h' ∧ ls.length = y.length ∧ p1 ≤ p' ∧ p' ≤ p1 + 2 * i) ⟨y, p1, by simp, H, rfl, by omega, by omega⟩ ?_
  clear H
  rintro J i _ h2 hJ hi ⟨ls, p2, rfl, H, hl, hp5, hp6⟩
  simp -implicitDefEqProofs (disch := first | omega | (simp only [List.length_set, List.length_replicate, List.length_append, List.length_map, List.length_take, List.length_cons, List.length_nil]; omega)) [wrap64, H.rep.len]
  refine IteW.mk (fun hlt => ?_) (fun hge => ?_)
  · simp -implicitDefEqProofs (disch := first | omega | (simp only [List.length_set, List.length_replicate, List.length_append, List.length_map, List.length_take, List.length_cons, List.length_nil]; omega)) [wrap64]
    refine (c_pick (n := 2) R H.sw1 (by omega) (by omega) ⟨by decide, by decide⟩).go ?_
    rintro _ h3 ⟨r1, rfl, o1, z1, y1, H⟩
    by_cases c0 : r1 = 0
    · simp -implicitDefEqProofs (disch := first | omega | (simp only [List.length_set, List.length_replicate, List.length_append, List.length_map, List.length_take, List.length_cons, List.length_nil]; omega)) [wrap64, c0]
      refine (c_pick (n := 3) R H (by omega) (by omega) ⟨by decide, by decide⟩).go ?_
      rintro _ h3 ⟨r2, rfl, o2, z2, y2, H⟩
      simp -implicitDefEqProofs (disch := first | omega | (simp only [List.length_set, List.length_replicate, List.length_append, List.length_map, List.length_take, List.length_cons, List.length_nil]; omega)) [wrap64, setC]
      refine HS.blsO2 ((H.mkE0 (kd := 1) (vl := r2) ⟨by decide, by decide⟩ o2).mkE0 (kd := 2) (vl := 0) ⟨by decide, by decide⟩ ⟨by decide, by decide⟩) rfl fun q h4 H => ?_
      have hO := H.rep.one
      have hC := H.rep.cells
      have hil : i < ls.length := by omega
      simp -implicitDefEqProofs (disch := first | omega | (simp only [List.length_set, List.length_replicate, List.length_append, List.length_map, List.length_take, List.length_cons, List.length_nil]; omega)) [wrap64, setC, hO, hC, H.sw2.rep.X (n := 3) rfl]
      have H := HS.mkExq' (kd := 6) (vl := 0) H ⟨by decide, by decide⟩ ⟨by decide, by decide⟩
      refine HS.store H.sw2.sw1 (i := i) hil rfl rfl rfl fun h5 H => ?_
      simp -implicitDefEqProofs (disch := first | omega | (simp only [List.length_set, List.length_replicate, List.length_append, List.length_map, List.length_take, List.length_cons, List.length_nil]; omega)) [wrap64]
      exact hJ _ _ (by omega) ⟨_, _, by simp, H, by simp [hl], by omega, by push_cast; omega⟩
    · simp -implicitDefEqProofs (disch := first | omega | (simp only [List.length_set, List.length_replicate, List.length_append, List.length_map, List.length_take, List.length_cons, List.length_nil]; omega)) [wrap64, c0]
      exact hJ _ _ (by omega) ⟨ls, _, by simp, H.sw1, hl, by omega, by push_cast; omega⟩
  simp -implicitDefEqProofs (disch := first | omega | (simp only [List.length_set, List.length_replicate, List.length_append, List.length_map, List.length_take, List.length_cons, List.length_nil]; omega)) [wrap64]
  exact RetK.keep (hk _ _ ⟨ls, p2, H, by omega, by omega, by omega⟩)

theorem Sy.Sm.setk {n : Nat} {s : Sy} (h : s.Sm n) {i k : Nat} (hi : i < s.procs.length) (_hk : k < s.procs[i].edges.length) {e : Ed} (hs : e.Sm n) : Sy.Sm n ⟨s.init, s.procs.set i ⟨s.procs[i].locs, s.procs[i].edges.set k e⟩⟩ := by
  refine ⟨h.il, by simpa using h.pl, fun p hp => ?_⟩
  rcases List.mem_or_eq_of_mem_set hp with h1 | rfl
  · exact h.pp p h1
  · have h2 := h.pp _ (List.getElem_mem hi)
    refine ⟨by simpa using h2.el, fun x hx => ?_⟩
    rcases List.mem_or_eq_of_mem_set hx with h3 | rfl
    · exact h2.ee x h3
    · exact hs

theorem c_l14System {g h : Heap} {Γ : List HP} {b : Nat} {sl : Value} {l : List (BitVec 8)} {p : Int} (R : Rep g sl l) (H : HS g (rb b sl p :: Γ) h) (hp : 0 ≤ p) (hp2 : p + 5000 ≤ 1000000000000) :
    CallE Try.prog fn_spec_l14System [.pointer (some ⟨b, 0, none⟩)] h (fun u h' => ∃ (y : Sy) (p' : Int), HS g (ow u y :: rb b sl p' :: Γ) h' ∧ y.Sm 40 ∧ p ≤ p' ∧ p' ≤ p + 4000) := by
  refine CallE.gen fun k hk => EN_spec_l14System rfl ?_
  simp -implicitDefEqProofs (disch := first | omega | (simp only [List.length_set, List.length_replicate, List.length_append, List.length_map, List.length_take, List.length_cons, List.length_nil]; omega)) [wrap64]
  refine (c_l2System R H (by omega) (by omega)).go ?_
  rintro _ h1 ⟨y0, p1, H, hy0, hp3, hp4⟩
  obtain ⟨wi, w, rfl, H'⟩ := H.unSy
  replace H := H'
  have hOi := H.rep.one
  have hCi := H.rep.cells
  have hOw := H.sw1.rep.one
  have hCw := H.sw1.rep.cells
  obtain ⟨N, hN⟩ : ∃ N, N = y0.procs.length := ⟨_, rfl⟩
  have hN2 : N ≤ 40 := by have := hy0.pl; omega
  simp -implicitDefEqProofs (disch := first | omega | (simp only [List.length_set, List.length_replicate, List.length_append, List.length_map, List.length_take, List.length_cons, List.length_nil]; omega)) [wrap64, setC, hOi, hCi, hOw, hCw]
  refine wp_while (σ := Nat) (fun i e h' => ∃ (y : Sy) (p' : Int), e = [some (.pointer (some ⟨b, 0, none⟩)), some (.agg #[.slice none 0 0, .slice none 0 0]), some (.agg #[wi, w]), some (.int .i64 i), none] ∧ HS g (ow w y.procs :: ow wi y.init :: rb b sl p' :: Γ) h' ∧ y.Sm 40 ∧ y.procs.length = N ∧ i ≤ N ∧ p1 ≤ p' ∧ p' ≤ p1 + 50 * i) (fun i => N - i) 0 ⟨y0, p1, by simp, H.sw1, hy0, hN.symm, by omega, by omega, by omega⟩ ?_
  clear H hOi hCi hOw hCw
  rintro J i _ h2 hJ ⟨y, p2, rfl, H, hy, hyl, hi, hp5, hp6⟩
  simp -implicitDefEqProofs (disch := first | omega | (simp only [List.length_set, List.length_replicate, List.length_append, List.length_map, List.length_take, List.length_cons, List.length_nil]; omega)) [wrap64, H.rep.len]
  by_cases c0 : i < y.procs.length
  · simp -implicitDefEqProofs (disch := first | omega | (simp only [List.length_set, List.length_replicate, List.length_append, List.length_map, List.length_take, List.length_cons, List.length_nil]; omega)) [wrap64, c0]
    refine wp_while (σ := Nat) (fun k e h' => ∃ (y : Sy) (p' : Int), e = [some (.pointer (some ⟨b, 0, none⟩)), some (.agg #[.slice none 0 0, .slice none 0 0]), some (.agg #[wi, w]), some (.int .i64 i), some (.int .i64 k)] ∧ HS g (ow w y.procs :: ow wi y.init :: rb b sl p' :: Γ) h' ∧ y.Sm 40 ∧ y.procs.length = N ∧ k ≤ 40 ∧ p2 ≤ p' ∧ p' ≤ p2 + k) (fun k => 41 - k) 0 ⟨y, p2, by simp, H, hy, hyl, by omega, by omega, by omega⟩ ?_
    have c0' : i < N := by omega
    clear H hy c0 hyl y
    rintro J2 k2 _ h3 hJ2 ⟨y, p3, rfl, H, hy, hyl, hk2, hp7, hp8⟩
    have hi2 : i < y.procs.length := by omega
    have hpi := hy.pp _ (List.getElem_mem hi2)
    have hel := hpi.el
    obtain ⟨uP, huP, H1⟩ := HS.take H hi2
    obtain ⟨we, rfl, kl, H2⟩ := H1.unPr
    replace H1 := H2
    have hiaP := HS.holeia H1.sw1 (n := 2) (kd := .i64) rfl hi2
    have hPP := hld_parts (cs := [.int .i64 y.procs[i].locs, we]) (HS.holeP H1.sw1 (n := 2) rfl rfl)
    have hlen := H1.rep.len
    simp -implicitDefEqProofs (disch := first | omega | (simp only [List.length_set, List.length_replicate, List.length_append, List.length_map, List.length_take, List.length_cons, List.length_nil]; omega)) [wrap64, hiaP, hPP.1, hPP.2.2.1, hlen]
    by_cases c1 : k2 < y.procs[i].edges.length
    · simp -implicitDefEqProofs (disch := first | omega | (simp only [List.length_set, List.length_replicate, List.length_append, List.length_map, List.length_take, List.length_cons, List.length_nil]; omega)) [wrap64, c1]
      have H := H1.sw3
      refine (c_pick (n := 3) R H (by omega) (by omega) ⟨by decide, by decide⟩).go ?_
      rintro _ h4 ⟨r1, rfl, o1, z1, y1, H⟩
      by_cases c2 : 0 < r1
      · obtain ⟨uE, huE, H⟩ := HS.take H.sw1 c1
        obtain ⟨x1, x2, rfl, ok, H2'⟩ := H.unEd
        replace H := H2'
        have hiaP := HS.holeia H.sw4 (n := 2) (kd := .i64) rfl hi2
        have hPP := hld_parts (cs := [.int .i64 y.procs[i].locs, we]) (HS.holeP H.sw4 (n := 2) rfl rfl)
        have hiaE := HS.holeia H.sw2 (n := 10) (kd := .i64) rfl c1
        have hPE := hld_parts (HS.holeP H.sw2 (n := 10) rfl rfl)
        simp -implicitDefEqProofs (disch := first | omega | (simp only [List.length_set, List.length_replicate, List.length_append, List.length_map, List.length_take, List.length_cons, List.length_nil]; omega)) [wrap64, c2, hiaP, hPP.1, hPP.2.2.1, hiaE, hPE.1, setC]
        refine HS.holest H.sw2 rfl (n := 10) rfl rfl rfl rfl rfl (by decide) fun h5 H => ?_
        have H : HS g (hole we y.procs[i].edges k2 (.agg (Ed.cs ⟨y.procs[i].edges[k2].frm, y.procs[i].edges[k2].to, Exq.mk 1 1 [], y.procs[i].edges[k2].var, y.procs[i].edges[k2].value, y.procs[i].edges[k2].sync⟩ (.slice none 0 0) x2).toArray) :: ow x1 y.procs[i].edges[k2].guard.kids :: ow x2 y.procs[i].edges[k2].value.kids :: rb b sl (p3 + 1) :: hole w y.procs i (.agg #[.int .i64 y.procs[i].locs, we]) :: ow wi y.init :: Γ) h5 := H
        have H := HS.put (HS.mkEd (e := ⟨y.procs[i].edges[k2].frm, y.procs[i].edges[k2].to, Exq.mk 1 1 [], y.procs[i].edges[k2].var, y.procs[i].edges[k2].value, y.procs[i].edges[k2].sync⟩) (H.sw2.nil_ow) ⟨ok.frm, ok.to, ⟨by show (_ : Int) ≤ 1; decide, by show (1 : Int) < _; decide⟩, ⟨by show (_ : Int) ≤ 1; decide, by show (1 : Int) < _; decide⟩, ok.var, ok.vk, ok.vv, ok.sync⟩)
        have H := HS.put ((HS.mkPr (p := ⟨y.procs[i].locs, y.procs[i].edges.set k2 _⟩) H kl).under fun _ H => H.sw2)
        simp -implicitDefEqProofs (disch := first | omega | (simp only [List.length_set, List.length_replicate, List.length_append, List.length_map, List.length_take, List.length_cons, List.length_nil]; omega)) [wrap64]
        have hek := hpi.ee _ (List.getElem_mem c1)
        exact hJ2 (k2 + 1) _ _ (by omega) ⟨⟨y.init, _⟩, _, by simp, (H.under fun _ H => H.drop.sw1), Sy.Sm.setk hy hi2 c1 ⟨by simp [Exq.nod, Exq.nods], hek.v⟩, by simpa using hyl, by omega, by omega, by push_cast; omega⟩
      · simp -implicitDefEqProofs (disch := first | omega | (simp only [List.length_set, List.length_replicate, List.length_append, List.length_map, List.length_take, List.length_cons, List.length_nil]; omega)) [wrap64, c2]
        have H := HS.put ((HS.mkPr (p := y.procs[i]) H.sw1 kl).under fun _ H => H.sw1)
        rw [List.set_getElem_self] at H
        exact hJ2 (k2 + 1) _ _ (by omega) ⟨y, _, by simp, H.under fun _ H => H.sw1, hy, hyl, by omega, by omega, by push_cast; omega⟩
    · simp -implicitDefEqProofs (disch := first | omega | (simp only [List.length_set, List.length_replicate, List.length_append, List.length_map, List.length_take, List.length_cons, List.length_nil]; omega)) [wrap64, c1]
      exact hJ (i + 1) _ _ (by omega) ⟨y, p3, by simp, H, hy, hyl, by omega, by omega, by push_cast; omega⟩
  · have hO1 := H.rep.one
    have hC1 := H.rep.cells
    have hO2 := H.sw1.rep.one
    have hC2 := H.sw1.rep.cells
    simp -implicitDefEqProofs (disch := first | omega | (simp only [List.length_set, List.length_replicate, List.length_append, List.length_map, List.length_take, List.length_cons, List.length_nil]; omega)) [wrap64, c0, setC, hO1, hC1, hO2, hC2]
    exact RetK.keep (hk _ _ ⟨y, p2, HS.mkSy H.sw1, hy, by omega, by omega⟩)
end Go.Proofs.Ytonjglbachhdcaa

/-
  Arguments of laws: systems with labels, drawn from bytes.
-/
namespace Go.Proofs.Ytonjglbachhdcaa
open Go
set_option linter.all false
set_option linter.unusedVariables false
set_option linter.unusedSimpArgs false
set_option linter.defProp false
set_option maxRecDepth 1000000

/-- two lists as a function's results -/
def RD2 (h : Heap) : Value → Heap → Prop := fun u h' => ∃ (u1 u2 : Value) (s : Sy) (L : List Exq), u = .tuple #[u1, u2] ∧ HS h [ow u1 s, ow u2 L] h' ∧ L.length ≤ 3
theorem c_DrawRelevantVars {h : Heap} {v : Value} {l : List (BitVec 8)} (R : Rep h v l) : CallE Try.prog fn_spec_DrawRelevantVars [v] h (RD2 h) := by
  refine CallE.gen fun k hk => EN_spec_DrawRelevantVars rfl ?_
  simp -implicitDefEqProofs (disch := first | omega | (simp only [List.length_set, List.length_replicate, List.length_append, List.length_map, List.length_take, List.length_cons, List.length_nil]; omega)) [wrap64]
  refine (c_l16Open R).go ?_
  rintro _ h1 ⟨b, sl, l', rfl, R', H⟩
  simp -implicitDefEqProofs (disch := first | omega | (simp only [List.length_set, List.length_replicate, List.length_append, List.length_map, List.length_take, List.length_cons, List.length_nil]; omega)) [wrap64]
  refine (c_l14Labels R' H (by omega) (by omega)).go ?_
  rintro w h2 ⟨L, p1, H, hL, hp1, hp2⟩
  simp -implicitDefEqProofs (disch := first | omega | (simp only [List.length_set, List.length_replicate, List.length_append, List.length_map, List.length_take, List.length_cons, List.length_nil]; omega)) [wrap64]
  refine (c_l14System R' H.sw1 (by omega) (by omega)).go ?_
  rintro u h3 ⟨s, p2, H, hs, hp3, hp4⟩
  have FS := H.rep.aSy
  simp -implicitDefEqProofs (disch := first | omega | (simp only [List.length_set, List.length_replicate, List.length_append, List.length_map, List.length_take, List.length_cons, List.length_nil]; omega)) [wrap64, FS]
  obtain ⟨g1, H1, H2⟩ := HS.rebase (Δ := [rb b sl p2]) H.sw1
  refine (c_l2Mutate (R'.on H1) H1.rep hs (by omega) (by omega) H2 (by omega) (by omega)).go ?_
  rintro x h4 ⟨y, p3, H3, hy, hp5, hp6⟩
  have H := H3.app H1
  have FY := H.rep.aSy
  simp -implicitDefEqProofs (disch := first | omega | (simp only [List.length_set, List.length_replicate, List.length_append, List.length_map, List.length_take, List.length_cons, List.length_nil]; omega)) [wrap64, setC, FY]
  exact RetK.keep (hk _ _ ⟨x, w, y, L, rfl, (H.under fun _ H => (H.drop.drop)), hL⟩)
theorem c_DrawSliceSystem {h : Heap} {v : Value} {l : List (BitVec 8)} (R : Rep h v l) : CallE Try.prog fn_spec_DrawSliceSystem [v] h (RD2 h) := by
  refine CallE.gen fun k hk => EN_spec_DrawSliceSystem rfl ?_
  simp -implicitDefEqProofs (disch := first | omega | (simp only [List.length_set, List.length_replicate, List.length_append, List.length_map, List.length_take, List.length_cons, List.length_nil]; omega)) [wrap64]
  refine (c_DrawRelevantVars R).go ?_
  rintro _ h1 ⟨x, w, y, L, rfl, H, hL⟩
  have FY := H.rep.aSy
  simp -implicitDefEqProofs (disch := first | omega | (simp only [List.length_set, List.length_replicate, List.length_append, List.length_map, List.length_take, List.length_cons, List.length_nil]; omega)) [wrap64, setC, FY]
  exact RetK.keep (hk _ _ ⟨x, w, y, L, rfl, H, hL⟩)
end Go.Proofs.Ytonjglbachhdcaa

/-
  Bodies of functions in the small language, as a program printed them, and that each is what the translation gives.
-/
namespace Go.Proofs.Ytonjglbachhdcaa
open Go
set_option linter.all false
set_option linter.defProp false
set_option maxRecDepth 1000000

end Go.Proofs.Ytonjglbachhdcaa

/-
  Bodies of functions in the small language, as a program printed them, and that each is what the translation gives.
-/
namespace Go.Proofs.Ytonjglbachhdcaa
open Go
set_option linter.all false
set_option linter.defProp false
set_option maxRecDepth 1000000

end Go.Proofs.Ytonjglbachhdcaa

/-
  Bodies of functions in the small language, as a program printed them, and that each is what the translation gives.
-/
namespace Go.Proofs.Ytonjglbachhdcaa
open Go
set_option linter.all false
set_option linter.defProp false
set_option maxRecDepth 1000000

def H_impl_State_take : Hint := ⟨[(0, false), (1, false), (2, false), (3, true), (5, true)], []⟩
def K75_1 : Pl := .st (.act none (.px (some 14) (.ia 1 (.v 6) (.v 8)))) <|
    .st (.act none (.ex none (.store 1 (.v 14) (.v 13)))) .done
@[simp] def W75_1 := @Pl.wpe _ _ K75_1.eq_1
def K75_2 : C := .pl <| .st (.ext 5 10) <|
    .st (.act none (.als 5 none 3)) <|
    .st (.act none (.pget (some 6) (some 5) 3 1 none)) <|
    .st (.act none (.als 7 none 4)) <|
    .st (.act none (.pget (some 8) (some 7) 4 5 none)) <|
    .st (.act none (.als 9 none 4)) <|
    .st (.act none (.pget (some 10) (some 9) 4 6 (some 3))) <|
    .st (.act none (.als 11 none 3)) <|
    .st (.act none (.pget (some 12) (some 11) 3 1 none)) <|
    .st (.act none (.ex (some 13) (.call fn_impl_Expr_eval [.v 10, .v 12]))) K75_1
@[simp] def W75_2 := @C.wpe _ _ K75_2.eq_1
def K75_3 : C := .cond 5 (.v 7) K75_2 (.skip)
@[simp] def W75_3 := @C.wpe _ _ K75_3.eq_1
def K75_4 : C := .seq (.pl <| .st (.ext 5 3) <|
    .st (.act none (.als 5 none 4)) <|
    .st (.act none (.pget (some 6) (some 5) 4 5 none)) <|
    .st (.act none (.px (some 7) (.bin .geq (.v 6) (.c (.int .i64 0))))) .done) K75_3
@[simp] def W75_4 := @C.wpe _ _ K75_4.eq_1
def K75_5 : C := .seq (.pl <| .st (.ext 5 6) <|
    .st (.act none (.als 5 none 3)) <|
    .st (.act none (.pget (some 6) (some 5) 3 0 none)) <|
    .st (.act none (.px (some 7) (.mv (.v 1)))) <|
    .st (.act none (.als 8 none 4)) <|
    .st (.act none (.pget (some 9) (some 8) 4 1 none)) <|
    .st (.act none (.px (some 10) (.ia 1 (.v 6) (.v 7)))) <|
    .st (.act none (.ex none (.store 1 (.v 10) (.v 9)))) .done) K75_4
@[simp] def W75_5 := @C.wpe _ _ K75_5.eq_1
def B_impl_State_take : C := .seq (.pl <| .st (.ext 5 0) <|
    .st (.act none (.pnew 3 (.v 0) [])) <|
    .st (.act none (.pnew 4 (.v 2) [])) .done) K75_5
@[simp] def WB_impl_State_take := @C.wpe _ _ B_impl_State_take.eq_1
def R_impl_State_take : FIR := ⟨B_impl_State_take, 5, []⟩
theorem IR_impl_State_take : cfun Try.prog H_impl_State_take Try.f75 = some R_impl_State_take := by kernel_rfl
theorem EN_impl_State_take {args : List Value} {h : Heap} {k : Value → Heap → Prop} (hargs : args.length = 3) (hw : B_impl_State_take.wp Try.prog (retQ [] k) (env0 args 5) h) : CallE Try.prog fn_impl_State_take args h k := enter Try.func75 rfl IR_impl_State_take hargs hw

def H_impl_System_after : Hint := ⟨[(0, false), (1, false), (2, false), (3, true), (4, true), (5, true), (6, true), (7, true)], []⟩
def K37_1 : C := .seq (.pl <| .st (.ext 8 1) <|
    .st (.act none (.pget (some 8) none 7 0 (some 2))) <|
    .st (.act none (.pset none 6 0 2 (.v 8))) .done) (.ret)
@[simp] def W37_1 := @C.wpe _ _ K37_1.eq_1
def K37_2 : C := .pl <| .st (.ext 8 15) <|
    .st (.act none (.pget (some 8) none 7 0 (some 2))) <|
    .st (.act none (.als 9 none 5)) <|
    .st (.act none (.pget (some 10) (some 9) 5 2 none)) <|
    .st (.act none (.als 11 none 3)) <|
    .st (.act none (.pget (some 12) (some 11) 3 1 none)) <|
    .st (.act none (.als 13 none 5)) <|
    .st (.act none (.pget (some 14) (some 13) 5 2 none)) <|
    .st (.act none (.px (some 15) (.ia 2 (.v 12) (.v 14)))) <|
    .st (.act none (.px (some 16) (.fa 1 (.v 15)))) <|
    .st (.act none (.ld (some 17) (.v 16) none)) <|
    .st (.act none (.als 18 none 5)) <|
    .st (.act none (.pget (some 19) (some 18) 5 3 none)) <|
    .st (.act none (.px (some 20) (.ia 10 (.v 17) (.v 19)))) <|
    .st (.act none (.ld (some 21) (.v 20) (some 10))) <|
    .st (.act none (.ex (some 22) (.call fn_impl_State_take [.v 8, .v 10, .v 21]))) .done
@[simp] def W37_2 := @C.wpe _ _ K37_2.eq_1
def K37_3 : C := .cond 8 (.v 10) K37_2 (.skip)
@[simp] def W37_3 := @C.wpe _ _ K37_3.eq_1
def K37_4 : C := .seq (.seq (.pl <| .st (.ext 8 3) <|
    .st (.act none (.als 8 none 5)) <|
    .st (.act none (.pget (some 9) (some 8) 5 2 none)) <|
    .st (.act none (.px (some 10) (.bin .geq (.v 9) (.c (.int .i64 0))))) .done) K37_3) K37_1
@[simp] def W37_4 := @C.wpe _ _ K37_4.eq_1
def K37_5 : C := .seq (.pl <| .st (.ext 8 15) <|
    .st (.act none (.pget (some 8) none 7 0 (some 2))) <|
    .st (.act none (.als 9 none 5)) <|
    .st (.act none (.pget (some 10) (some 9) 5 0 none)) <|
    .st (.act none (.als 11 none 3)) <|
    .st (.act none (.pget (some 12) (some 11) 3 1 none)) <|
    .st (.act none (.als 13 none 5)) <|
    .st (.act none (.pget (some 14) (some 13) 5 0 none)) <|
    .st (.act none (.px (some 15) (.ia 2 (.v 12) (.v 14)))) <|
    .st (.act none (.px (some 16) (.fa 1 (.v 15)))) <|
    .st (.act none (.ld (some 17) (.v 16) none)) <|
    .st (.act none (.als 18 none 5)) <|
    .st (.act none (.pget (some 19) (some 18) 5 1 none)) <|
    .st (.act none (.px (some 20) (.ia 10 (.v 17) (.v 19)))) <|
    .st (.act none (.ld (some 21) (.v 20) (some 10))) <|
    .st (.act none (.ex (some 22) (.call fn_impl_State_take [.v 8, .v 10, .v 21]))) .done) K37_4
@[simp] def W37_5 := @C.wpe _ _ K37_5.eq_1
def K37_6 : Pl := .st (.act none (.pnew 7 (.c (.agg #[.slice none 0 0, .slice none 0 0])) [])) <|
    .st (.act none (.pset none 7 0 2 (.v 9))) .done
@[simp] def W37_6 := @Pl.wpe _ _ K37_6.eq_1
def K37_7 : C := .seq (.pl <| .st (.ext 8 2) <|
    .st (.act none (.pget (some 8) none 4 0 (some 2))) <|
    .st (.act none (.ex (some 9) (.call fn_impl_State_copyOf [.v 8]))) K37_6) K37_5
@[simp] def W37_7 := @C.wpe _ _ K37_7.eq_1
def B_impl_System_after : C := .seq (.pl <| .st (.ext 8 0) <|
    .st (.act none (.pnew 3 (.v 0) [])) <|
    .st (.act none (.pnew 4 (.v 1) [])) <|
    .st (.act none (.pnew 5 (.v 2) [])) <|
    .st (.act none (.pnew 6 (.c (.agg #[.slice none 0 0, .slice none 0 0])) [])) .done) K37_7
@[simp] def WB_impl_System_after := @C.wpe _ _ B_impl_System_after.eq_1
def R_impl_System_after : FIR := ⟨B_impl_System_after, 8, [(6, some (some 2))]⟩
theorem IR_impl_System_after : cfun Try.prog H_impl_System_after Try.f37 = some R_impl_System_after := by kernel_rfl
theorem EN_impl_System_after {args : List Value} {h : Heap} {k : Value → Heap → Prop} (hargs : args.length = 3) (hw : B_impl_System_after.wp Try.prog (retQ [(6, some (some 2))] k) (env0 args 8) h) : CallE Try.prog fn_impl_System_after args h k := enter Try.func37 rfl IR_impl_System_after hargs hw

def H_impl_System_enabled : Hint := ⟨[(0, false), (1, false), (2, true), (3, true), (4, false), (5, false), (6, false), (7, true), (8, false), (9, true), (10, false), (11, true), (12, false), (13, true), (15, false), (16, false), (17, false), (23, false), (24, false), (25, false), (53, false), (54, false), (55, false), (61, false), (62, false), (63, false)], [[0, 1, 4, 6, 7, 8, 9, 10, 11, 12, 13, 17, 18, 19, 20, 21, 22, 23, 24, 25], [0, 1, 4, 7, 8, 9, 10, 11, 12, 13, 20, 21, 22, 23, 24, 25], [0, 1, 4, 7, 10, 11, 12, 13, 23, 24, 25], [0, 1, 4, 7, 11, 12, 13]]⟩
def K32_1 : Pl := .st (.act none (.px (some 4) (.mv (.v 27)))) .done
@[simp] def W32_1 := @Pl.wpe _ _ K32_1.eq_1
def K32_2 : C := .seq (.pl <| .st (.ext 26 2) <|
    .st (.act none (.px (some 26) (.mv (.v 5)))) <|
    .st (.act none (.ex (some 27) (.call fn_slices_Clip_S_impl_Step_impl_Step [.v 26]))) K32_1) (.ret)
@[simp] def W32_2 := @C.wpe _ _ K32_2.eq_1
def K32_3 : C := .pl <| .st (.ext 26 1) <|
    .st (.act none (.px (some 26) (.bin .add (.v 16) (.c (.int .i64 1))))) <|
    .st (.act none (.px (some 16) (.mv (.v 26)))) .done
@[simp] def W32_3 := @C.wpe _ _ K32_3.eq_1
def K32_4 : C := .pl <| .st (.ext 26 1) <|
    .st (.act none (.px (some 26) (.bin .add (.v 19) (.c (.int .i64 1))))) <|
    .st (.act none (.px (some 19) (.mv (.v 26)))) .done
@[simp] def W32_4 := @C.wpe _ _ K32_4.eq_1
def K32_5 : C := .pl <| .st (.ext 26 1) <|
    .st (.act none (.px (some 26) (.bin .add (.v 22) (.c (.int .i64 1))))) <|
    .st (.act none (.px (some 22) (.mv (.v 26)))) .done
@[simp] def W32_5 := @C.wpe _ _ K32_5.eq_1
def K32_6 : C := .pl <| .st (.ext 26 1) <|
    .st (.act none (.px (some 26) (.bin .add (.v 25) (.c (.int .i64 1))))) <|
    .st (.act none (.px (some 25) (.mv (.v 26)))) .done
@[simp] def W32_6 := @C.wpe _ _ K32_6.eq_1
def K32_7 : Pl := .st (.act none (.px (some 5) (.mv (.v 33)))) .done
@[simp] def W32_7 := @Pl.wpe _ _ K32_7.eq_1
def K32_8 : C := .pl <| .st (.ext 26 8) <|
    .st (.act none (.px (some 26) (.mv (.v 5)))) <|
    .st (.act none (.px (some 27) (.mv (.v 6)))) <|
    .st (.act none (.px (some 28) (.mv (.v 8)))) <|
    .st (.act none (.px (some 29) (.mv (.v 10)))) <|
    .st (.act none (.px (some 30) (.mv (.v 12)))) <|
    .st (.act none (.px (some 31) (.build [.int .i64 0, .int .i64 0, .int .i64 0, .int .i64 0] [(0, 1, .v 27), (1, 1, .v 28), (2, 1, .v 29), (3, 1, .v 30)]))) <|
    .st (.act none (.psl 32 [.int .i64 0, .int .i64 0, .int .i64 0, .int .i64 0] [(0, 4, .v 31)])) <|
    .st (.act none (.ex (some 33) (.app 32 4 [.int .i64 0, .int .i64 0, .int .i64 0, .int .i64 0] (.o (.v 26)) (.p 1 32)))) K32_7
@[simp] def W32_8 := @C.wpe _ _ K32_8.eq_1
def K32_9 : C := .cond 26 (.v 43) K32_8 (.skip)
@[simp] def W32_9 := @C.wpe _ _ K32_9.eq_1
def K32_10 : Pl := .st (.act none (.px (some 43) (.pick (.v 37) (.v 42) (.c (.bool false))))) .done
@[simp] def W32_10 := @Pl.wpe _ _ K32_10.eq_1
def K32_11 : C := .seq (.pl <| .st (.ext 26 18) <|
    .st (.act none (.px (some 26) (.mv (.v 10)))) <|
    .st (.act none (.px (some 27) (.mv (.v 6)))) <|
    .st (.act none (.px (some 28) (.bin .neq (.v 26) (.v 27)))) <|
    .st (.act none (.px (some 29) (.mv (.v 28)))) <|
    .st (.act (some (.v 29, true)) (.als 30 none 13)) <|
    .st (.act (some (.v 29, true)) (.pget (some 31) (some 30) 13 9 none)) <|
    .st (.act (some (.v 29, true)) (.als 32 none 9)) <|
    .st (.act (some (.v 29, true)) (.pget (some 33) (some 32) 9 9 none)) <|
    .st (.act (some (.v 29, true)) (.px (some 34) (.un .neg (.v 33)))) <|
    .st (.act (some (.v 29, true)) (.px (some 35) (.bin .eql (.v 31) (.v 34)))) <|
    .st (.act none (.px (some 36) (.pick (.v 29) (.v 35) (.c (.bool false))))) <|
    .st (.act none (.px (some 37) (.mv (.v 36)))) <|
    .st (.act (some (.v 37, true)) (.pget (some 38) none 2 0 (some 2))) <|
    .st (.act (some (.v 37, true)) (.pget (some 39) none 3 0 (some 2))) <|
    .st (.act (some (.v 37, true)) (.px (some 40) (.mv (.v 10)))) <|
    .st (.act (some (.v 37, true)) (.px (some 41) (.mv (.v 12)))) <|
    .st (.act (some (.v 37, true)) (.ex (some 42) (.call fn_impl_System_ready [.v 38, .v 39, .v 40, .v 41]))) K32_10) K32_9
@[simp] def W32_11 := @C.wpe _ _ K32_11.eq_1
def K32_12 : C := .seq (.block 8 (.seq (.pl <| .st (.ext 26 3) <|
    .st (.act none (.px (some 26) (.mv (.v 25)))) <|
    .st (.act none (.px (some 27) (.ia 10 (.v 23) (.v 25)))) <|
    .st (.act none (.ld (some 28) (.v 27) (some 10))) <|
    .st (.act none (.pnew 13 (.c (.agg #[.int .i64 0, .int .i64 0, .int .i64 0, .int .i64 0, .slice none 0 0, .int .i64 0, .int .i64 0, .int .i64 0, .slice none 0 0, .int .i64 0])) [])) <|
    .st (.act none (.px (some 12) (.mv (.v 26)))) <|
    .st (.act none (.pset none 13 0 10 (.v 28))) .done) K32_11)) K32_6
@[simp] def W32_12 := @C.wpe _ _ K32_12.eq_1
def K32_13 : C := .seq (.cond 26 (.v 26) (.skip) (.exit 7)) K32_12
@[simp] def W32_13 := @C.wpe _ _ K32_13.eq_1
def K32_14 : C := .seq (.pl <| .st (.ext 26 1) <|
    .st (.act none (.px (some 26) (.bin .lss (.v 25) (.v 24)))) .done) K32_13
@[simp] def W32_14 := @C.wpe _ _ K32_14.eq_1
def K32_15 : C := .block 7 (.loop 26 [0, 1, 4, 7, 11, 12, 13] K32_14)
@[simp] def W32_15 := @C.wpe _ _ K32_15.eq_1
def K32_16 : C := .seq (.pl <| .st (.ext 26 1) <|
    .st (.act none (.als 26 none 11)) <|
    .st (.act none (.pget (some 23) (some 26) 11 1 none)) <|
    .st (.act none (.px (some 24) (.lenV (.v 23)))) <|
    .st (.act none (.px (some 25) (.mv (.c (.int .i64 0))))) .done) K32_15
@[simp] def W32_16 := @C.wpe _ _ K32_16.eq_1
def K32_17 : C := .seq (.block 6 (.seq (.pl <| .st (.ext 26 3) <|
    .st (.act none (.px (some 26) (.mv (.v 22)))) <|
    .st (.act none (.px (some 27) (.ia 2 (.v 20) (.v 22)))) <|
    .st (.act none (.ld (some 28) (.v 27) (some 2))) <|
    .st (.act none (.pnew 11 (.c (.agg #[.int .i64 0, .slice none 0 0])) [])) <|
    .st (.act none (.px (some 10) (.mv (.v 26)))) <|
    .st (.act none (.pset none 11 0 2 (.v 28))) .done) K32_16)) K32_5
@[simp] def W32_17 := @C.wpe _ _ K32_17.eq_1
def K32_18 : C := .seq (.cond 26 (.v 26) (.skip) (.exit 5)) K32_17
@[simp] def W32_18 := @C.wpe _ _ K32_18.eq_1
def K32_19 : C := .seq (.pl <| .st (.ext 26 1) <|
    .st (.act none (.px (some 26) (.bin .lss (.v 22) (.v 21)))) .done) K32_18
@[simp] def W32_19 := @C.wpe _ _ K32_19.eq_1
def K32_20 : C := .block 5 (.loop 26 [0, 1, 4, 7, 10, 11, 12, 13, 23, 24, 25] K32_19)
@[simp] def W32_20 := @C.wpe _ _ K32_20.eq_1
def K32_21 : C := .seq (.pl <| .st (.ext 26 1) <|
    .st (.act none (.als 26 none 2)) <|
    .st (.act none (.pget (some 20) (some 26) 2 1 none)) <|
    .st (.act none (.px (some 21) (.lenV (.v 20)))) <|
    .st (.act none (.px (some 22) (.mv (.c (.int .i64 0))))) .done) K32_20
@[simp] def W32_21 := @C.wpe _ _ K32_21.eq_1
def K32_22 : Pl := .st (.act none (.px (some 5) (.mv (.v 31)))) .done
@[simp] def W32_22 := @Pl.wpe _ _ K32_22.eq_1
def K32_23 : C := .seq (.pl <| .st (.ext 26 6) <|
    .st (.act none (.px (some 26) (.mv (.v 5)))) <|
    .st (.act none (.px (some 27) (.mv (.v 6)))) <|
    .st (.act none (.px (some 28) (.mv (.v 8)))) <|
    .st (.act none (.px (some 29) (.build [.int .i64 0, .int .i64 0, .int .i64 0, .int .i64 0] [(0, 1, .v 27), (1, 1, .v 28), (2, 1, .c (.int .i64 (-1))), (3, 1, .c (.int .i64 (-1)))]))) <|
    .st (.act none (.psl 30 [.int .i64 0, .int .i64 0, .int .i64 0, .int .i64 0] [(0, 4, .v 29)])) <|
    .st (.act none (.ex (some 31) (.app 32 4 [.int .i64 0, .int .i64 0, .int .i64 0, .int .i64 0] (.o (.v 26)) (.p 1 30)))) K32_22) (.exit 3)
@[simp] def W32_23 := @C.wpe _ _ K32_23.eq_1
def K32_24 : C := .cond 26 (.v 29) K32_23 (.skip)
@[simp] def W32_24 := @C.wpe _ _ K32_24.eq_1
def K32_25 : C := .seq (.pl <| .st (.ext 26 4) <|
    .st (.act none (.als 26 none 9)) <|
    .st (.act none (.pget (some 27) (some 26) 9 9 none)) <|
    .st (.act none (.px (some 28) (.bin .eql (.v 27) (.c (.int .i64 0))))) <|
    .st (.act none (.px (some 29) (.mv (.v 28)))) .done) K32_24
@[simp] def W32_25 := @C.wpe _ _ K32_25.eq_1
def K32_26 : C := .cond 26 (.v 37) (.exit 3) K32_25
@[simp] def W32_26 := @C.wpe _ _ K32_26.eq_1
def K32_27 : Pl := .st (.act none (.px (some 31) (.un .not (.v 30)))) <|
    .st (.act none (.px (some 32) (.mv (.v 31)))) <|
    .st (.act (some (.v 32, false)) (.als 33 none 9)) <|
    .st (.act (some (.v 32, false)) (.pget (some 34) (some 33) 9 9 none)) <|
    .st (.act (some (.v 32, false)) (.px (some 35) (.bin .lss (.v 34) (.c (.int .i64 0))))) <|
    .st (.act none (.px (some 36) (.pick (.v 32) (.c (.bool true)) (.v 35)))) <|
    .st (.act none (.px (some 37) (.mv (.v 36)))) .done
@[simp] def W32_27 := @Pl.wpe _ _ K32_27.eq_1
def K32_28 : C := .seq (.block 4 (.seq (.pl <| .st (.ext 26 12) <|
    .st (.act none (.pget (some 26) none 2 0 (some 2))) <|
    .st (.act none (.pget (some 27) none 3 0 (some 2))) <|
    .st (.act none (.px (some 28) (.mv (.v 6)))) <|
    .st (.act none (.px (some 29) (.mv (.v 8)))) <|
    .st (.act none (.ex (some 30) (.call fn_impl_System_ready [.v 26, .v 27, .v 28, .v 29]))) K32_27) K32_26)) K32_21
@[simp] def W32_28 := @C.wpe _ _ K32_28.eq_1
def K32_29 : C := .seq (.block 3 (.seq (.pl <| .st (.ext 26 3) <|
    .st (.act none (.px (some 26) (.mv (.v 19)))) <|
    .st (.act none (.px (some 27) (.ia 10 (.v 17) (.v 19)))) <|
    .st (.act none (.ld (some 28) (.v 27) (some 10))) <|
    .st (.act none (.pnew 9 (.c (.agg #[.int .i64 0, .int .i64 0, .int .i64 0, .int .i64 0, .slice none 0 0, .int .i64 0, .int .i64 0, .int .i64 0, .slice none 0 0, .int .i64 0])) [])) <|
    .st (.act none (.px (some 8) (.mv (.v 26)))) <|
    .st (.act none (.pset none 9 0 10 (.v 28))) .done) K32_28)) K32_4
@[simp] def W32_29 := @C.wpe _ _ K32_29.eq_1
def K32_30 : C := .seq (.cond 26 (.v 26) (.skip) (.exit 2)) K32_29
@[simp] def W32_30 := @C.wpe _ _ K32_30.eq_1
def K32_31 : C := .seq (.pl <| .st (.ext 26 1) <|
    .st (.act none (.px (some 26) (.bin .lss (.v 19) (.v 18)))) .done) K32_30
@[simp] def W32_31 := @C.wpe _ _ K32_31.eq_1
def K32_32 : C := .block 2 (.loop 26 [0, 1, 4, 7, 8, 9, 10, 11, 12, 13, 20, 21, 22, 23, 24, 25] K32_31)
@[simp] def W32_32 := @C.wpe _ _ K32_32.eq_1
def K32_33 : C := .seq (.pl <| .st (.ext 26 1) <|
    .st (.act none (.als 26 none 7)) <|
    .st (.act none (.pget (some 17) (some 26) 7 1 none)) <|
    .st (.act none (.px (some 18) (.lenV (.v 17)))) <|
    .st (.act none (.px (some 19) (.mv (.c (.int .i64 0))))) .done) K32_32
@[simp] def W32_33 := @C.wpe _ _ K32_33.eq_1
def K32_34 : C := .seq (.block 1 (.seq (.pl <| .st (.ext 26 3) <|
    .st (.act none (.px (some 26) (.mv (.v 16)))) <|
    .st (.act none (.px (some 27) (.ia 2 (.v 14) (.v 16)))) <|
    .st (.act none (.ld (some 28) (.v 27) (some 2))) <|
    .st (.act none (.pnew 7 (.c (.agg #[.int .i64 0, .slice none 0 0])) [])) <|
    .st (.act none (.px (some 6) (.mv (.v 26)))) <|
    .st (.act none (.pset none 7 0 2 (.v 28))) .done) K32_33)) K32_3
@[simp] def W32_34 := @C.wpe _ _ K32_34.eq_1
def K32_35 : C := .seq (.cond 26 (.v 26) (.skip) (.exit 0)) K32_34
@[simp] def W32_35 := @C.wpe _ _ K32_35.eq_1
def K32_36 : C := .seq (.pl <| .st (.ext 26 1) <|
    .st (.act none (.px (some 26) (.bin .lss (.v 16) (.v 15)))) .done) K32_35
@[simp] def W32_36 := @C.wpe _ _ K32_36.eq_1
def K32_37 : C := .block 0 (.loop 26 [0, 1, 4, 6, 7, 8, 9, 10, 11, 12, 13, 17, 18, 19, 20, 21, 22, 23, 24, 25] K32_36)
@[simp] def W32_37 := @C.wpe _ _ K32_37.eq_1
def K32_38 : C := .seq (.seq (.pl <| .st (.ext 26 1) <|
    .st (.act none (.als 26 none 2)) <|
    .st (.act none (.pget (some 14) (some 26) 2 1 none)) <|
    .st (.act none (.px (some 15) (.lenV (.v 14)))) <|
    .st (.act none (.px (some 16) (.mv (.c (.int .i64 0))))) .done) K32_37) K32_2
@[simp] def W32_38 := @C.wpe _ _ K32_38.eq_1
def K32_39 : C := .seq (.pl <| .st (.ext 26 0) <|
    .st (.act none (.px (some 5) (.mv (.c (.slice none 0 0))))) .done) K32_38
@[simp] def W32_39 := @C.wpe _ _ K32_39.eq_1
def B_impl_System_enabled : C := .seq (.pl <| .st (.ext 26 0) <|
    .st (.act none (.pnew 2 (.v 0) [])) <|
    .st (.act none (.pnew 3 (.v 1) [])) <|
    .st (.act none (.px (some 4) (.mv (.c (.slice none 0 0))))) .done) K32_39
@[simp] def WB_impl_System_enabled := @C.wpe _ _ B_impl_System_enabled.eq_1
def R_impl_System_enabled : FIR := ⟨B_impl_System_enabled, 26, [(4, none)]⟩
theorem IR_impl_System_enabled : cfun Try.prog H_impl_System_enabled Try.f32 = some R_impl_System_enabled := by kernel_rfl
theorem EN_impl_System_enabled {args : List Value} {h : Heap} {k : Value → Heap → Prop} (hargs : args.length = 2) (hw : B_impl_System_enabled.wp Try.prog (retQ [(4, none)] k) (env0 args 26) h) : CallE Try.prog fn_impl_System_enabled args h k := enter Try.func32 rfl IR_impl_System_enabled hargs hw

def H_impl_System_ready : Hint := ⟨[(0, false), (1, false), (2, false), (3, false), (4, true), (5, true), (8, false), (9, true)], []⟩
def K67_1 : Pl := .st (.act (some (.v 16, true)) (.px (some 22) (.bin .neq (.v 21) (.c (.int .i64 0))))) <|
    .st (.act none (.px (some 23) (.pick (.v 16) (.v 22) (.c (.bool false))))) <|
    .st (.act none (.px (some 6) (.mv (.v 23)))) .done
@[simp] def W67_1 := @Pl.wpe _ _ K67_1.eq_1
def K67_2 : C := .seq (.pl <| .st (.ext 8 16) <|
    .st (.act none (.als 8 none 5)) <|
    .st (.act none (.pget (some 9) (some 8) 5 0 none)) <|
    .st (.act none (.px (some 10) (.mv (.v 2)))) <|
    .st (.act none (.px (some 11) (.ia 1 (.v 9) (.v 10)))) <|
    .st (.act none (.ld (some 12) (.v 11) none)) <|
    .st (.act none (.als 13 none 7)) <|
    .st (.act none (.pget (some 14) (some 13) 7 0 none)) <|
    .st (.act none (.px (some 15) (.bin .eql (.v 12) (.v 14)))) <|
    .st (.act none (.px (some 16) (.mv (.v 15)))) <|
    .st (.act (some (.v 16, true)) (.als 17 none 7)) <|
    .st (.act (some (.v 16, true)) (.pget (some 18) (some 17) 7 2 (some 3))) <|
    .st (.act (some (.v 16, true)) (.als 19 none 5)) <|
    .st (.act (some (.v 16, true)) (.pget (some 20) (some 19) 5 1 none)) <|
    .st (.act (some (.v 16, true)) (.ex (some 21) (.call fn_impl_Expr_eval [.v 18, .v 20]))) K67_1) (.ret)
@[simp] def W67_2 := @C.wpe _ _ K67_2.eq_1
def K67_3 : C := .seq (.pl <| .st (.ext 8 9) <|
    .st (.act none (.als 8 none 4)) <|
    .st (.act none (.pget (some 9) (some 8) 4 1 none)) <|
    .st (.act none (.px (some 10) (.mv (.v 2)))) <|
    .st (.act none (.px (some 11) (.ia 2 (.v 9) (.v 10)))) <|
    .st (.act none (.px (some 12) (.fa 1 (.v 11)))) <|
    .st (.act none (.ld (some 13) (.v 12) none)) <|
    .st (.act none (.px (some 14) (.mv (.v 3)))) <|
    .st (.act none (.px (some 15) (.ia 10 (.v 13) (.v 14)))) <|
    .st (.act none (.ld (some 16) (.v 15) (some 10))) <|
    .st (.act none (.pnew 7 (.c (.agg #[.int .i64 0, .int .i64 0, .int .i64 0, .int .i64 0, .slice none 0 0, .int .i64 0, .int .i64 0, .int .i64 0, .slice none 0 0, .int .i64 0])) [])) <|
    .st (.act none (.pset none 7 0 10 (.v 16))) .done) K67_2
@[simp] def W67_3 := @C.wpe _ _ K67_3.eq_1
def B_impl_System_ready : C := .seq (.pl <| .st (.ext 8 0) <|
    .st (.act none (.pnew 4 (.v 0) [])) <|
    .st (.act none (.pnew 5 (.v 1) [])) <|
    .st (.act none (.px (some 6) (.mv (.c (.bool false))))) .done) K67_3
@[simp] def WB_impl_System_ready := @C.wpe _ _ B_impl_System_ready.eq_1
def R_impl_System_ready : FIR := ⟨B_impl_System_ready, 8, [(6, none)]⟩
theorem IR_impl_System_ready : cfun Try.prog H_impl_System_ready Try.f67 = some R_impl_System_ready := by kernel_rfl
theorem EN_impl_System_ready {args : List Value} {h : Heap} {k : Value → Heap → Prop} (hargs : args.length = 4) (hw : B_impl_System_ready.wp Try.prog (retQ [(6, none)] k) (env0 args 8) h) : CallE Try.prog fn_impl_System_ready args h k := enter Try.func67 rfl IR_impl_System_ready hargs hw

def H_slices_Clip_S_impl_Step_impl_Step : Hint := ⟨[(0, false), (2, false)], []⟩
def K68_1 : C := .seq (.pl <| .st (.ext 2 6) <|
    .st (.act none (.px (some 2) (.mv (.v 0)))) <|
    .st (.act none (.px (some 3) (.mv (.v 0)))) <|
    .st (.act none (.px (some 4) (.lenV (.v 3)))) <|
    .st (.act none (.px (some 5) (.mv (.v 0)))) <|
    .st (.act none (.px (some 6) (.lenV (.v 5)))) <|
    .st (.act none (.px (some 7) (.sliceV 4 (.v 2) none (some (.v 4)) (some (.v 6))))) <|
    .st (.act none (.px (some 1) (.mv (.v 7)))) .done) (.ret)
@[simp] def W68_1 := @C.wpe _ _ K68_1.eq_1
def B_slices_Clip_S_impl_Step_impl_Step : C := .seq (.pl <| .st (.ext 2 0) <|
    .st (.act none (.px (some 1) (.mv (.c (.slice none 0 0))))) .done) K68_1
@[simp] def WB_slices_Clip_S_impl_Step_impl_Step := @C.wpe _ _ B_slices_Clip_S_impl_Step_impl_Step.eq_1
def R_slices_Clip_S_impl_Step_impl_Step : FIR := ⟨B_slices_Clip_S_impl_Step_impl_Step, 2, [(1, none)]⟩
theorem IR_slices_Clip_S_impl_Step_impl_Step : cfun Try.prog H_slices_Clip_S_impl_Step_impl_Step Try.f68 = some R_slices_Clip_S_impl_Step_impl_Step := by kernel_rfl
theorem EN_slices_Clip_S_impl_Step_impl_Step {args : List Value} {h : Heap} {k : Value → Heap → Prop} (hargs : args.length = 1) (hw : B_slices_Clip_S_impl_Step_impl_Step.wp Try.prog (retQ [(1, none)] k) (env0 args 2) h) : CallE Try.prog fn_slices_Clip_S_impl_Step_impl_Step args h k := enter Try.func68 rfl IR_slices_Clip_S_impl_Step_impl_Step hargs hw


end Go.Proofs.Ytonjglbachhdcaa

/-
  Instances of functions over slices: copies, and whether some element meets a condition. Printed by a program.
-/
namespace Go.Proofs.Ytonjglbachhdcaa
open Go
set_option linter.all false
set_option linter.unusedVariables false
set_option linter.unusedSimpArgs false
set_option linter.defProp false
set_option maxRecDepth 1000000

theorem c_Clone_int {h : Heap} {a : Value} {x : List (Int)} (Ra : Rep h a x) (hs : x.length ≤ 1073741824) : CallE Try.prog fn_slices_Clone_S_int_int [a] h (fun v h' => HS h [ow v x] h') := by
  refine CallE.gen fun k hk => EN_slices_Clone_S_int_int rfl ?_
  obtain ⟨b, hb, hb2⟩ := Ra.isNil
  simp -implicitDefEqProofs (disch := first | omega | (simp only [List.length_set, List.length_replicate, List.length_append, List.length_map, List.length_take, List.length_cons, List.length_nil]; omega)) [wrap64, hb]
  refine IteW.mk (fun h1 => ?_) (fun h1 => ?_)
  · simp -implicitDefEqProofs (disch := first | omega | (simp only [List.length_set, List.length_replicate, List.length_append, List.length_map, List.length_take, List.length_cons, List.length_nil]; omega)) [wrap64]
    have h2 : x = [] := hb2 h1
    subst h2
    exact RetK.keep (hk _ _ HS.init.nil_ow)
  · simp -implicitDefEqProofs (disch := first | omega | (simp only [List.length_set, List.length_replicate, List.length_append, List.length_map, List.length_take, List.length_cons, List.length_nil]; omega)) [wrap64]
    refine HS.init.appPL (α := Int) (l2 := x) (u := a) rfl rfl Ra rfl rfl (by omega) fun v h1 H => ?_
    simp -implicitDefEqProofs (disch := first | omega | (simp only [List.length_set, List.length_replicate, List.length_append, List.length_map, List.length_take, List.length_cons, List.length_nil]; omega)) [wrap64]
    exact RetK.keep (hk _ _ H)

theorem c_Clip_int {g h : Heap} {Γ : List HP} {a : Value} {x : List (Int)} (H : HS g (ow a x :: Γ) h) : CallE Try.prog fn_slices_Clip_S_int_int [a] h (fun v h' => HS g (ow v x :: Γ) h') := by
  refine CallE.gen fun k hk => EN_slices_Clip_S_int_int rfl ?_
  obtain ⟨v', h1, h2⟩ := H.clip (esz := 1) (k := .i64)
  simp -implicitDefEqProofs (disch := first | omega | (simp only [List.length_set, List.length_replicate, List.length_append, List.length_map, List.length_take, List.length_cons, List.length_nil]; omega)) [wrap64, H.rep.I, h1]
  exact RetK.keep (hk _ _ h2)

theorem c_clone_int {h : Heap} {a : Value} {x : List (Int)} (Ra : Rep h a x) (hs : x.length ≤ 1073741824) : CallE Try.prog fn_impl_clone_int [a] h (fun v h' => HS h [ow v x] h') := by
  refine CallE.gen fun k hk => EN_impl_clone_int rfl ?_
  simp -implicitDefEqProofs (disch := first | omega | (simp only [List.length_set, List.length_replicate, List.length_append, List.length_map, List.length_take, List.length_cons, List.length_nil]; omega)) [wrap64]
  refine (c_Clone_int Ra hs).go ?_
  intro v h1 H
  simp -implicitDefEqProofs (disch := first | omega | (simp only [List.length_set, List.length_replicate, List.length_append, List.length_map, List.length_take, List.length_cons, List.length_nil]; omega)) [wrap64]
  refine (c_Clip_int H).go ?_
  intro v' h2 H
  simp -implicitDefEqProofs (disch := first | omega | (simp only [List.length_set, List.length_replicate, List.length_append, List.length_map, List.length_take, List.length_cons, List.length_nil]; omega)) [wrap64]
  exact RetK.keep (hk _ _ H)

end Go.Proofs.Ytonjglbachhdcaa

/-
  States of systems; projections of states: by the program and by the reference.
-/
namespace Go.Proofs.Ytonjglbachhdcaa
open Go
set_option linter.all false
set_option linter.unusedVariables false
set_option linter.unusedSimpArgs false
set_option linter.defProp false
set_option maxRecDepth 1000000

/-- a state of a system -/
structure Sta.Ok (s : Sy) (st : Sta) : Prop where
  len : st.locs.length = s.procs.length
  vs : VOk st.vals
  lc : ∀ (i : Nat) (h1 : i < st.locs.length) (h2 : i < s.procs.length), 0 ≤ st.locs[i] ∧ st.locs[i] < s.procs[i].locs
noncomputable instance instDecStaOk {s : Sy} {st : Sta} : Decidable (st.Ok s) := Classical.propDecidable _

theorem c_has {h : Heap} {v w : Value} {s : Sy} {st : Sta} (hs : s.Ok) (R : Rep h v s) (Rt : Rep h w st) : CallE Try.prog fn_impl_System_has [v, w] h (fun u h' => h.le h' ∧ u = .bool (decide (st.Ok s))) := by
  obtain ⟨v1, v2, rfl, R1, R2⟩ := Rep_Sy.1 R
  obtain ⟨w1, w2, rfl, T1, T2⟩ := Rep_Sta.1 Rt
  have hL1 := R2.lt
  have hL2 := T1.lt
  refine CallE.gen fun k hk => EN_impl_System_has rfl ?_
  have hno : ∀ {h'}, h.le h' → ¬ st.Ok s → k (.bool false) h' := fun hl hh => hk _ _ ⟨hl, by rw [decide_eq_false hh]⟩
  by_cases q1 : (st.locs.length : Int) = s.procs.length
  case neg => simp -implicitDefEqProofs (disch := first | omega | (simp only [List.length_set, List.length_replicate, List.length_append, List.length_map, List.length_take, List.length_cons, List.length_nil]; omega)) [wrap64, T1.len, R2.len, q1]; exact RetK.keep (hno (Heap.le.refl _) fun hh => q1 (by rw [hh.len]))
  simp -implicitDefEqProofs (disch := first | omega | (simp only [List.length_set, List.length_replicate, List.length_append, List.length_map, List.length_take, List.length_cons, List.length_nil]; omega)) [wrap64, T1.len, R2.len, q1]
  refine (c_valsOk T2).go ?_
  rintro _ h1 ⟨l1, rfl⟩
  by_cases q2 : VOk st.vals
  case neg => simp -implicitDefEqProofs (disch := first | omega | (simp only [List.length_set, List.length_replicate, List.length_append, List.length_map, List.length_take, List.length_cons, List.length_nil]; omega)) [wrap64, q2]; exact RetK.keep (hno l1 fun hh => q2 hh.vs)
  have T1' := T1.le l1
  have R2' := R2.le l1
  simp -implicitDefEqProofs (disch := first | omega | (simp only [List.length_set, List.length_replicate, List.length_append, List.length_map, List.length_take, List.length_cons, List.length_nil]; omega)) [wrap64, q2, T1'.len]
  refine wp_count st.locs.length (fun i e h' => e = [none, none, some (.agg #[v1, v2]), none, none, none, none, some w1, some (.int .i64 st.locs.length), some (.int .i64 i)] ∧ h' = h1 ∧ ∀ (j : Nat) (a : j < st.locs.length) (b : j < s.procs.length), j < i → 0 ≤ st.locs[j] ∧ st.locs[j] < s.procs[j].locs) ⟨by simp [q1], rfl, fun j _ _ hj => absurd hj (Nat.not_lt_zero j)⟩ ?_
  rintro J i _ h2 hJ hi ⟨rfl, rfl, hall⟩
  simp -implicitDefEqProofs (disch := first | omega | (simp only [List.length_set, List.length_replicate, List.length_append, List.length_map, List.length_take, List.length_cons, List.length_nil]; omega)) [wrap64]
  refine IteW.mk (fun hlt => ?_) (fun hge => ?_)
  · have hlx : i < st.locs.length := by omega
    have hlp : i < s.procs.length := by omega
    obtain ⟨u, hu, Ru⟩ := R2'.ld hlp
    change hload _ (some (elp 2 v2 i)) (some 2) = some u at hu
    obtain ⟨we, rfl, k1, R3⟩ := Rep_Pr.1 Ru
    have hP := hld_parts hu
    have hp1 := (hs.at hlp).n1
    have hp4 := (hs.at hlp).n4
    simp -implicitDefEqProofs (disch := first | omega | (simp only [List.length_set, List.length_replicate, List.length_append, List.length_map, List.length_take, List.length_cons, List.length_nil]; omega)) [wrap64, T1'.I, R2'.X (n := 2) rfl, hP.1, hP.2.2.1]
    refine c_in.go ?_
    rintro _ h2 ⟨rfl, rfl⟩
    by_cases q3 : 0 ≤ st.locs[i] ∧ st.locs[i] ≤ s.procs[i].locs - 1
    case neg => simp -implicitDefEqProofs (disch := first | omega | (simp only [List.length_set, List.length_replicate, List.length_append, List.length_map, List.length_take, List.length_cons, List.length_nil]; omega)) [wrap64, q3]; exact RetK.keep (hno l1 fun hh => q3 (by have := hh.lc i hlx hlp; omega))
    simp -implicitDefEqProofs (disch := first | omega | (simp only [List.length_set, List.length_replicate, List.length_append, List.length_map, List.length_take, List.length_cons, List.length_nil]; omega)) [wrap64, q3]
    refine hJ _ _ hlx ⟨by simp, rfl, fun j a b hji => ?_⟩
    by_cases hji2 : j = i
    · subst hji2; omega
    · exact hall j a b (by omega)
  · simp -implicitDefEqProofs (disch := first | omega | (simp only [List.length_set, List.length_replicate, List.length_append, List.length_map, List.length_take, List.length_cons, List.length_nil]; omega)) [wrap64]
    exact RetK.keep (hk _ _ ⟨l1, by rw [decide_eq_true (show st.Ok s from ⟨by omega, q2, fun i a b => hall i a b (by omega)⟩)]⟩)

theorem c_State_copyOf {h : Heap} {v : Value} {st : Sta} (R : Rep h v st) (h1 : st.locs.length ≤ 1073741824) (h2 : st.vals.length ≤ 1073741824) : CallE Try.prog fn_impl_State_copyOf [v] h (fun u h' => HS h [ow u st] h') := by
  obtain ⟨v1, v2, rfl, R1, R2⟩ := Rep_Sta.1 R
  refine CallE.gen fun k hk => EN_impl_State_copyOf rfl ?_
  simp -implicitDefEqProofs (disch := first | omega | (simp only [List.length_set, List.length_replicate, List.length_append, List.length_map, List.length_take, List.length_cons, List.length_nil]; omega)) [wrap64]
  refine (c_clone_int R1 h1).go ?_
  intro u1 m1 H
  simp -implicitDefEqProofs (disch := first | omega | (simp only [List.length_set, List.length_replicate, List.length_append, List.length_map, List.length_take, List.length_cons, List.length_nil]; omega)) [wrap64]
  refine (c_clone_int (R2.on H) h2).go ?_
  intro u2 m2 H2
  have H := H2.app H
  simp -implicitDefEqProofs (disch := first | omega | (simp only [List.length_set, List.length_replicate, List.length_append, List.length_map, List.length_take, List.length_cons, List.length_nil]; omega)) [wrap64, H.rep.cells, H.rep.one, H.sw1.rep.cells, H.sw1.rep.one, setC]
  exact RetK.keep (hk _ _ (HS.mkSta H.sw1))

/-- the values that are kept, and the first values where they don't matter -/
def prV (s : Sy) (L : List Exq) (st : Sta) : List Int := (List.range 3).map fun i => if (s.rel L).getD i false then st.vals.getD i 0 else s.init.getD i 0
theorem prV_len {s : Sy} {L : List Exq} {st : Sta} : (prV s L st).length = 3 := by simp [prV]
noncomputable def prR (s : Sy) (L : List Exq) (st : Sta) : Sta := if s.Ok ∧ LOk L ∧ st.Ok s then ⟨st.locs, prV s L st⟩ else Sta.zero
theorem zero_St {g h : Heap} {Γ : List HP} (H : HS g Γ h) : HS g (ow (.agg #[.slice none 0 0, .slice none 0 0]) Sta.zero :: Γ) h := HS.mkSta (a := Sta.zero) H.nil_ow.nil_ow

theorem c_ProjectState {h : Heap} {v w t : Value} {s : Sy} {L : List Exq} {st : Sta} (R : Rep h v s) (RL : Rep h w L) (Rt : Rep h t st) : CallE Try.prog fn_impl_ProjectState [v, w, t] h (R2 (decide (s.Ok ∧ LOk L ∧ st.Ok s)) (prR s L st) h) := by
  have F := R.aSy
  have FT := Rt.aSta
  have R0 := R
  obtain ⟨v1, v2, rfl, R1, R2'⟩ := Rep_Sy.1 R
  refine CallE.gen fun k hk => EN_impl_ProjectState rfl ?_
  have hno : ¬ (s.Ok ∧ LOk L ∧ st.Ok s) → ∀ {h'}, h.le h' → k (.tuple #[.agg #[.slice none 0 0, .slice none 0 0], .bool false]) h' := fun hn h' hl => hk _ _ ⟨_, by rw [decide_eq_false hn], by rw [prR, if_neg hn]; exact zero_St (Γ := []) hl⟩
  simp -implicitDefEqProofs (disch := first | omega | (simp only [List.length_set, List.length_replicate, List.length_append, List.length_map, List.length_take, List.length_cons, List.length_nil]; omega)) [wrap64, F]
  refine (c_RelevantVars R RL).go ?_
  rintro _ h1 ⟨x, rfl, H⟩
  by_cases q1 : s.Ok ∧ LOk L
  case neg =>
    simp -implicitDefEqProofs (disch := first | omega | (simp only [List.length_set, List.length_replicate, List.length_append, List.length_map, List.length_take, List.length_cons, List.length_nil]; omega)) [wrap64, q1, setC]
    exact RetK.keep (hno (fun hh => q1 ⟨hh.1, hh.2.1⟩) H.base)
  rw [relR, if_pos q1] at H
  simp -implicitDefEqProofs (disch := first | omega | (simp only [List.length_set, List.length_replicate, List.length_append, List.length_map, List.length_take, List.length_cons, List.length_nil]; omega)) [wrap64, q1, F, FT]
  refine (c_has q1.1 (R0.on H) (Rt.on H)).go ?_
  rintro _ h2 ⟨l2, rfl⟩
  have H := H.le l2
  by_cases q2 : st.Ok s
  case neg =>
    simp -implicitDefEqProofs (disch := first | omega | (simp only [List.length_set, List.length_replicate, List.length_append, List.length_map, List.length_take, List.length_cons, List.length_nil]; omega)) [wrap64, q2, setC]
    exact RetK.keep (hno (fun hh => q2 hh.2.2) H.base)
  have hvl := q2.vs.len
  have hll := q2.len
  have hp3 := q1.1.p3
  have hil := q1.1.vs.len
  have hrl : (s.rel L).length = 3 := Sy.rel_len
  simp -implicitDefEqProofs (disch := first | omega | (simp only [List.length_set, List.length_replicate, List.length_append, List.length_map, List.length_take, List.length_cons, List.length_nil]; omega)) [wrap64, q2, FT]
  refine (c_State_copyOf (Rt.on H) (by omega) (by omega)).go ?_
  intro o h3 H3
  obtain ⟨o1, o2, rfl, H4⟩ := H3.unSta
  have H := (H4.app H)
  simp -implicitDefEqProofs (disch := first | omega | (simp only [List.length_set, List.length_replicate, List.length_append, List.length_map, List.length_take, List.length_cons, List.length_nil]; omega)) [wrap64, H.rep.one, H.sw1.rep.one, H.sw2.rep.len, setC]
  refine wp_count 3 (fun i e h' => e = [none, none, none, some (.agg #[v1, v2]), none, some (.agg #[.slice none 0 0, .slice none 0 0]), none, none, none, some (.agg #[o1, o2]), none, none, some x, some (.int .i64 (s.rel L).length), some (.int .i64 i)] ∧ ∃ y, HS h [ow o1 st.locs, ow o2 y, ow x (s.rel L)] h' ∧ y.length = 3 ∧ y.take i = (prV s L st).take i ∧ ∀ (j : Nat) (hj : j < y.length) (hv : j < st.vals.length), i ≤ j → y[j] = st.vals[j]) ⟨by simp, st.vals, H, hvl, by simp, fun _ _ _ _ => rfl⟩ ?_
  clear H H3 H4
  rintro J i _ h4 hJ hi ⟨rfl, y, H, hyl, hy, hrest⟩
  by_cases hlt : i < 3
  · have hir : i < (s.rel L).length := by omega
    have hiy : i < y.length := by omega
    have hiv : i < st.vals.length := by omega
    have hii : i < s.init.length := by omega
    have hpl := prV_len (s := s) (L := L) (st := st)
    have hpi : (prV s L st)[i]'(by omega) = if (s.rel L)[i] then st.vals[i] else s.init[i] := by
      simp only [prV, List.getElem_map, List.getElem_range, List.getD_eq_getElem?_getD, List.getElem?_eq_getElem hir, List.getElem?_eq_getElem hiv, List.getElem?_eq_getElem hii, Option.getD_some]
    by_cases e : (s.rel L)[i] = true
    · simp -implicitDefEqProofs (disch := first | omega | (simp only [List.length_set, List.length_replicate, List.length_append, List.length_map, List.length_take, List.length_cons, List.length_nil]; omega)) [wrap64, hir, H.sw2.rep.B, e]
      refine hJ _ _ hlt ⟨by simp, y, H, hyl, take_step hy hiy (by omega) ?_, fun j hj hv hij => hrest j hj hv (by omega)⟩
      rw [hpi, if_pos e]
      exact hrest i hiy hiv (Nat.le_refl i)
    · simp -implicitDefEqProofs (disch := first | omega | (simp only [List.length_set, List.length_replicate, List.length_append, List.length_map, List.length_take, List.length_cons, List.length_nil]; omega)) [wrap64, hir, H.sw2.rep.B, e, (R1.on H).I, H.sw1.rep.I]
      have hb := R1.okI hii
      refine HS.storeF H.sw1 s.init[i] hiy rfl rfl ⟨hb.1, hb.2⟩ rfl fun h5 H => ?_
      simp -implicitDefEqProofs (disch := first | omega | (simp only [List.length_set, List.length_replicate, List.length_append, List.length_map, List.length_take, List.length_cons, List.length_nil]; omega)) [wrap64]
      refine hJ _ _ hlt ⟨by simp, _, H.sw1, by simp [hyl], ?_, fun j hj hv hij => ?_⟩
      · have := take_set_succ (x := prV s L st) hy (by omega) (by omega)
        rw [hpi, if_neg e] at this
        exact this
      · simp only [List.getElem_set]
        rw [if_neg (by omega)]
        exact hrest j (by simpa using hj) hv (by omega)
  · simp -implicitDefEqProofs (disch := first | omega | (simp only [List.length_set, List.length_replicate, List.length_append, List.length_map, List.length_take, List.length_cons, List.length_nil]; omega)) [wrap64, show ¬ i < (s.rel L).length by omega, H.rep.one, H.sw1.rep.one, setC]
    have he : y = prV s L st := eq_of_take hy (by rw [prV_len]; omega) (by rw [prV_len]; exact hyl)
    subst he
    exact RetK.keep (hk _ _ ⟨_, by rw [decide_eq_true ⟨q1.1, q1.2, q2⟩], by rw [prR, if_pos ⟨q1.1, q1.2, q2⟩]; exact (HS.mkSta (a := ⟨st.locs, prV s L st⟩) H).only⟩)

end Go.Proofs.Ytonjglbachhdcaa

/-
  Steps in plain Lean: which are enabled, and what they lead to.
-/
namespace Go.Proofs.Ytonjglbachhdcaa
open Go
set_option linter.all false
set_option linter.unusedVariables false
set_option linter.unusedSimpArgs false
set_option linter.defProp false
set_option maxRecDepth 1000000

theorem fm_tk {α β : Type} {f : α × Nat → List β} {l : List α} {i : Nat} (hi : i < l.length) : (l.zipIdx.take (i + 1)).flatMap f = (l.zipIdx.take i).flatMap f ++ f (l[i], i) := by
  rw [List.take_add_one, List.getElem?_eq_getElem (by simpa using hi), List.flatMap_append]
  simp
theorem fm_all {α β : Type} {f : α × Nat → List β} {l : List α} {i : Nat} (hi : l.length ≤ i) : (l.zipIdx.take i).flatMap f = l.zipIdx.flatMap f := by
  rw [List.take_of_length_le (by simpa using hi)]
theorem len_fm {α β : Type} {f : α → List β} {c : Nat} : ∀ {l : List α}, (∀ x ∈ l, (f x).length ≤ c) → (l.flatMap f).length ≤ l.length * c
  | [], _ => by simp
  | x :: l, h => by
    have h1 := len_fm (l := l) fun y hy => h y (by simp [hy])
    have h2 := h x (by simp)
    rw [List.flatMap_cons, List.length_append, List.length_cons, Nat.add_mul]
    omega
theorem len_fmz {α β : Type} {f : α × Nat → List β} {c : Nat} {l : List α} (h : ∀ (i : Nat) (hi : i < l.length), (f (l[i], i)).length ≤ c) (n : Nat) : ((l.zipIdx.take n).flatMap f).length ≤ l.length * c := by
  have h1 : ((l.zipIdx.take n).flatMap f).length ≤ (l.zipIdx.take n).length * c := len_fm fun x hx => by
    have h2 := List.mem_of_mem_take hx
    rw [List.mem_zipIdx_iff_getElem?, List.getElem?_eq_some_iff] at h2
    obtain ⟨h3, h4⟩ := h2
    have := h x.2 h3
    rw [h4] at this
    exact this
  have h2 : (l.zipIdx.take n).length * c ≤ l.length * c := Nat.mul_le_mul_right _ (by simp; omega)
  omega
theorem mem_fmz {α β : Type} {f : α × Nat → List β} {l : List α} {t : β} : t ∈ l.zipIdx.flatMap f ↔ ∃ (i : Nat) (hi : i < l.length), t ∈ f (l[i], i) := by
  rw [List.mem_flatMap]
  constructor
  · rintro ⟨x, hx, ht⟩
    rw [List.mem_zipIdx_iff_getElem?, List.getElem?_eq_some_iff] at hx
    obtain ⟨h3, h4⟩ := hx
    exact ⟨x.2, h3, by rw [h4]; exact ht⟩
  · rintro ⟨i, hi, ht⟩
    exact ⟨(l[i], i), by rw [List.mem_zipIdx_iff_getElem?]; simp [hi], ht⟩

/-- an edge is ready -/
def Ed.rdy (e : Ed) (st : Sta) (i : Nat) : Bool := decide (st.locs.getD i 0 = e.frm ∧ e.guard.ev st.vals ≠ 0)
def prt2 (st : Sta) (i k : Nat) (c : Int) (j : Nat) (x : Ed × Nat) : List Stp := if j ≠ i ∧ x.1.sync = -c ∧ x.1.rdy st j = true then [⟨i, k, j, x.2⟩] else []
def prt1 (st : Sta) (i k : Nat) (c : Int) (x : Pr × Nat) : List Stp := x.1.edges.zipIdx.flatMap (prt2 st i k c x.2)
/-- the steps with partners -/
def prt (s : Sy) (st : Sta) (i k : Nat) (c : Int) : List Stp := s.procs.zipIdx.flatMap (prt1 st i k c)
def enb2 (s : Sy) (st : Sta) (i : Nat) (x : Ed × Nat) : List Stp := if x.1.sync < 0 ∨ x.1.rdy st i = false then [] else if x.1.sync = 0 then [⟨i, x.2, -1, -1⟩] else prt s st i x.2 x.1.sync
def enb1 (s : Sy) (st : Sta) (x : Pr × Nat) : List Stp := x.1.edges.zipIdx.flatMap (enb2 s st x.2)
/-- the enabled steps -/
def enb (s : Sy) (st : Sta) : List Stp := s.procs.zipIdx.flatMap (enb1 s st)

theorem prt1_len {st : Sta} {i k : Nat} {c : Int} {p : Pr} {j n : Nat} (hp : p.Ok) : ((p.edges.zipIdx.take n).flatMap (prt2 st i k c j)).length ≤ 6 := by
  have h1 := len_fmz (f := prt2 st i k c j) (c := 1) (l := p.edges) (fun m hm => by unfold prt2; split <;> simp) n
  have := hp.el
  omega
theorem prt_len {s : Sy} {st : Sta} {i k n : Nat} {c : Int} (hs : s.Ok) : ((s.procs.zipIdx.take n).flatMap (prt1 st i k c)).length ≤ 18 := by
  have h1 := len_fmz (f := prt1 st i k c) (c := 6) (l := s.procs) (fun m hm => by
    have := prt1_len (st := st) (i := i) (k := k) (c := c) (j := m) (n := s.procs[m].edges.length) (hs.at hm)
    rw [fm_all (Nat.le_refl _)] at this
    exact this) n
  have := hs.p3
  omega
theorem prt_len' {s : Sy} {st : Sta} {i k : Nat} {c : Int} (hs : s.Ok) : (prt s st i k c).length ≤ 18 := by
  have := prt_len (st := st) (i := i) (k := k) (c := c) (n := s.procs.length) hs
  rwa [fm_all (Nat.le_refl _)] at this
theorem enb2_len {s : Sy} {st : Sta} {i : Nat} {x : Ed × Nat} (hs : s.Ok) : (enb2 s st i x).length ≤ 18 := by
  unfold enb2
  split
  · simp
  · split
    · simp
    · exact prt_len' hs
theorem enb1_len {s : Sy} {st : Sta} {i n : Nat} {p : Pr} (hs : s.Ok) (hp : p.Ok) : ((p.edges.zipIdx.take n).flatMap (enb2 s st i)).length ≤ 108 := by
  have h1 := len_fmz (f := enb2 s st i) (c := 18) (l := p.edges) (fun m hm => enb2_len hs) n
  have := hp.el
  omega
theorem enb_len {s : Sy} {st : Sta} {n : Nat} (hs : s.Ok) : ((s.procs.zipIdx.take n).flatMap (enb1 s st)).length ≤ 324 := by
  have h1 := len_fmz (f := enb1 s st) (c := 108) (l := s.procs) (fun m hm => by
    have := enb1_len (s := s) (st := st) (i := m) (n := s.procs[m].edges.length) hs (hs.at hm)
    rw [fm_all (Nat.le_refl _)] at this
    exact this) n
  have := hs.p3
  omega
theorem enb_len' {s : Sy} {st : Sta} (hs : s.Ok) : (enb s st).length ≤ 324 := by
  have := enb_len (st := st) (n := s.procs.length) hs
  rwa [fm_all (Nat.le_refl _)] at this

/-- where a step's edges lie -/
structure Stp.In (s : Sy) (t : Stp) : Prop where
  ex : ∃ (i k : Nat) (hi : i < s.procs.length) (_ : k < s.procs[i].edges.length), t.proc = i ∧ t.edge = k
  pt : t.partner = -1 ∨ ∃ (j m : Nat) (hj : j < s.procs.length) (_ : m < s.procs[j].edges.length), t.partner = j ∧ t.pedge = m
theorem enb_in {s : Sy} {st : Sta} {t : Stp} (h : t ∈ enb s st) : t.In s := by
  unfold enb at h
  obtain ⟨i, hi, h⟩ := mem_fmz.1 h
  unfold enb1 at h
  obtain ⟨k, hk, h⟩ := mem_fmz.1 h
  unfold enb2 at h
  split at h
  · simp at h
  · split at h
    · simp at h; subst h
      exact ⟨⟨i, k, hi, hk, rfl, rfl⟩, .inl rfl⟩
    · unfold prt at h
      obtain ⟨j, hj, h⟩ := mem_fmz.1 h
      unfold prt1 at h
      obtain ⟨m, hm, h⟩ := mem_fmz.1 h
      unfold prt2 at h
      split at h
      · simp at h; subst h
        exact ⟨⟨i, k, hi, hk, rfl, rfl⟩, .inr ⟨j, m, hj, hm, rfl, rfl⟩⟩
      · simp at h

/-- an edge is taken -/
def Sta.tk (st : Sta) (i : Nat) (e : Ed) : Sta := ⟨st.locs.set i e.to, if 0 ≤ e.var then st.vals.set e.var.toNat (e.value.ev st.vals) else st.vals⟩
def Sy.ed (s : Sy) (i k : Nat) : Ed := (s.procs.getD i ⟨0, []⟩).edges.getD k ⟨0, 0, Exq.zero, 0, Exq.zero, 0⟩
theorem Sy.ed_eq {s : Sy} {i k : Nat} (hi : i < s.procs.length) (hk : k < s.procs[i].edges.length) : s.ed i k = s.procs[i].edges[k] := by
  simp [Sy.ed, hi, hk]
/-- the state after a step -/
def Sta.aft (s : Sy) (st : Sta) (t : Stp) : Sta := if 0 ≤ t.partner then (st.tk t.proc.toNat (s.ed t.proc.toNat t.edge.toNat)).tk t.partner.toNat (s.ed t.partner.toNat t.pedge.toNat) else st.tk t.proc.toNat (s.ed t.proc.toNat t.edge.toNat)
theorem Sta.tk_ok {s : Sy} {st : Sta} {i : Nat} {e : Ed} (h : st.Ok s) (hi : i < s.procs.length) (he : e.Ok s.procs[i].locs) : (st.tk i e).Ok s := by
  have hv := h.vs
  refine ⟨by simp [Sta.tk, h.len], ?_, fun j h1 h2 => ?_⟩
  · unfold Sta.tk
    simp only
    split
    · rename_i h0
      have hvo : e.value.Ok := he.vl.elim (fun hh => hh.2) (fun hh => absurd hh.1 (by omega))
      have hb := Exq.ev_bnd hv hvo.1
      refine ⟨by simp [hv.len], fun x hx => ?_⟩
      rcases List.mem_or_eq_of_mem_set hx with h1 | h1
      · exact hv.2 x h1
      · rw [h1]; exact hb
    · exact hv
  · simp only [Sta.tk, List.getElem_set]
    split
    · rename_i e1
      subst e1
      exact ⟨he.t0, he.t1⟩
    · exact h.lc j (by simpa [Sta.tk] using h1) h2
theorem Sta.aft_ok {s : Sy} {st : Sta} {t : Stp} (hs : s.Ok) (h : st.Ok s) (ht : t.In s) : (st.aft s t).Ok s := by
  obtain ⟨⟨i, k, hi, hk, h1, h2⟩, h3⟩ := ht
  have g1 : (st.tk t.proc.toNat (s.ed t.proc.toNat t.edge.toNat)).Ok s := by
    rw [h1, h2, Int.toNat_natCast, Int.toNat_natCast, Sy.ed_eq hi hk]
    exact Sta.tk_ok h hi ((hs.at hi).at hk)
  unfold Sta.aft
  rcases h3 with h3 | ⟨j, m, hj, hm, h3, h4⟩
  · rw [if_neg (by omega)]; exact g1
  · rw [if_pos (by omega)]
    have : (st.tk t.proc.toNat (s.ed t.proc.toNat t.edge.toNat)).tk t.partner.toNat (s.ed t.partner.toNat t.pedge.toNat) = (st.tk t.proc.toNat (s.ed t.proc.toNat t.edge.toNat)).tk j (s.procs[j].edges[m]) := by
      rw [h3, h4, Int.toNat_natCast, Int.toNat_natCast, Sy.ed_eq hj hm]
    rw [this]
    exact Sta.tk_ok g1 hj ((hs.at hj).at hm)
noncomputable def ens (s : Sy) (st : Sta) : List Stp := if s.Ok ∧ st.Ok s then enb s st else []
end Go.Proofs.Ytonjglbachhdcaa
