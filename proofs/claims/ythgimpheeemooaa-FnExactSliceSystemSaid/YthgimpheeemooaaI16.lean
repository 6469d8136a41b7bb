/-
  Bodies of functions in the small language, as a program printed them, and that each is what the translation gives.
-/
import Derived.Test.YthgimpheeemooaaI1
namespace Go.Proofs.Ythgimpheeemooaa
open Go
set_option linter.all false
set_option linter.defProp false
set_option maxRecDepth 1000000

def H_impl_Expr_copyOf : Hint := ⟨[(0, false), (1, true), (2, true), (3, true), (4, false), (5, true), (15, false), (16, false), (17, false)], [[0, 1, 4, 5]]⟩
def K135_1 : C := .seq (.pl <| .st (.ext 9 1) <|
    .st (.act none (.pget (some 9) none 3 0 (some 3))) <|
    .st (.act none (.pset none 2 0 3 (.v 9))) .done) (.ret)
@[simp] def W135_1 := @C.wpe _ _ K135_1.eq_1
def K135_2 : C := .pl <| .st (.ext 9 1) <|
    .st (.act none (.px (some 9) (.bin .add (.v 8) (.c (.int .i64 1))))) <|
    .st (.act none (.px (some 8) (.mv (.v 9)))) .done
@[simp] def W135_2 := @C.wpe _ _ K135_2.eq_1
def K135_3 : Pl := .st (.act none (.px (some 14) (.ia 3 (.v 10) (.v 11)))) <|
    .st (.act none (.ex none (.store 3 (.v 14) (.v 13)))) .done
@[simp] def W135_3 := @Pl.wpe _ _ K135_3.eq_1
def K135_4 : C := .pl <| .st (.ext 9 6) <|
    .st (.act none (.als 9 none 3)) <|
    .st (.act none (.pget (some 10) (some 9) 3 2 none)) <|
    .st (.act none (.px (some 11) (.mv (.v 4)))) <|
    .st (.act none (.pget (some 12) none 5 0 (some 3))) <|
    .st (.act none (.ex (some 13) (.call fn_impl_Expr_copyOf [.v 12]))) K135_3
@[simp] def W135_4 := @C.wpe _ _ K135_4.eq_1
def K135_5 : C := .seq (.block 1 (.seq (.pl <| .st (.ext 9 3) <|
    .st (.act none (.px (some 9) (.mv (.v 8)))) <|
    .st (.act none (.px (some 10) (.ia 3 (.v 6) (.v 8)))) <|
    .st (.act none (.ld (some 11) (.v 10) (some 3))) <|
    .st (.act none (.pnew 5 (.c (.agg #[.int .i64 0, .int .i64 0, .slice none 0 0])) [])) <|
    .st (.act none (.px (some 4) (.mv (.v 9)))) <|
    .st (.act none (.pset none 5 0 3 (.v 11))) .done) K135_4)) K135_2
@[simp] def W135_5 := @C.wpe _ _ K135_5.eq_1
def K135_6 : C := .seq (.cond 9 (.v 9) (.skip) (.exit 0)) K135_5
@[simp] def W135_6 := @C.wpe _ _ K135_6.eq_1
def K135_7 : C := .seq (.pl <| .st (.ext 9 1) <|
    .st (.act none (.px (some 9) (.bin .lss (.v 8) (.v 7)))) .done) K135_6
@[simp] def W135_7 := @C.wpe _ _ K135_7.eq_1
def K135_8 : C := .block 0 (.loop 9 [0, 1, 4, 5] K135_7)
@[simp] def W135_8 := @C.wpe _ _ K135_8.eq_1
def K135_9 : C := .seq (.seq (.pl <| .st (.ext 9 1) <|
    .st (.act none (.als 9 none 1)) <|
    .st (.act none (.pget (some 6) (some 9) 1 2 none)) <|
    .st (.act none (.px (some 7) (.lenV (.v 6)))) <|
    .st (.act none (.px (some 8) (.mv (.c (.int .i64 0))))) .done) K135_8) K135_1
@[simp] def W135_9 := @C.wpe _ _ K135_9.eq_1
def K135_10 : Pl := .st (.act none (.px (some 16) (.build [.int .i64 0, .int .i64 0, .slice none 0 0] [(0, 1, .v 10), (1, 1, .v 12), (2, 1, .v 15)]))) <|
    .st (.act none (.pset none 3 0 3 (.v 16))) .done
@[simp] def W135_10 := @Pl.wpe _ _ K135_10.eq_1
def K135_11 : C := .seq (.pl <| .st (.ext 9 8) <|
    .st (.act none (.als 9 none 1)) <|
    .st (.act none (.pget (some 10) (some 9) 1 0 none)) <|
    .st (.act none (.als 11 none 1)) <|
    .st (.act none (.pget (some 12) (some 11) 1 1 none)) <|
    .st (.act none (.als 13 none 1)) <|
    .st (.act none (.pget (some 14) (some 13) 1 2 none)) <|
    .st (.act none (.pnew 3 (.c (.agg #[.int .i64 0, .int .i64 0, .slice none 0 0])) [])) <|
    .st (.act none (.ex (some 15) (.call fn_impl_clone_impl_Expr [.v 14]))) K135_10) K135_9
@[simp] def W135_11 := @C.wpe _ _ K135_11.eq_1
def B_impl_Expr_copyOf : C := .seq (.pl <| .st (.ext 9 0) <|
    .st (.act none (.pnew 1 (.v 0) [])) <|
    .st (.act none (.pnew 2 (.c (.agg #[.int .i64 0, .int .i64 0, .slice none 0 0])) [])) .done) K135_11
@[simp] def WB_impl_Expr_copyOf := @C.wpe _ _ B_impl_Expr_copyOf.eq_1
def R_impl_Expr_copyOf : FIR := ⟨B_impl_Expr_copyOf, 9, [(2, some (some 3))]⟩
theorem IR_impl_Expr_copyOf : cfun Try.prog H_impl_Expr_copyOf Try.f135 = some R_impl_Expr_copyOf := by kernel_rfl
theorem EN_impl_Expr_copyOf {args : List Value} {h : Heap} {k : Value → Heap → Prop} (hargs : args.length = 1) (hw : B_impl_Expr_copyOf.wp Try.prog (retQ [(2, some (some 3))] k) (env0 args 9) h) : CallE Try.prog fn_impl_Expr_copyOf args h k := enter Try.func135 rfl IR_impl_Expr_copyOf hargs hw

def H_impl_SliceSystem : Hint := ⟨[(0, false), (1, false), (2, true), (4, true), (5, false), (6, false), (7, false), (8, true), (10, true), (11, false), (12, true), (25, false), (26, false), (27, false), (32, false), (33, false), (34, false)], [[0, 1, 2, 4, 6, 8, 9, 10, 14, 15, 16], [0, 1, 2, 4, 6, 9, 10]]⟩
def K41_1 : C := .seq (.pl <| .st (.ext 17 1) <|
    .st (.act none (.pget (some 17) none 7 0 (some 2))) <|
    .st (.act none (.pset none 3 0 2 (.v 17))) <|
    .st (.act none (.px (some 4) (.mv (.c (.bool true))))) .done) (.ret)
@[simp] def W41_1 := @C.wpe _ _ K41_1.eq_1
def K41_2 : C := .pl <| .st (.ext 17 1) <|
    .st (.act none (.px (some 17) (.bin .add (.v 13) (.c (.int .i64 1))))) <|
    .st (.act none (.px (some 13) (.mv (.v 17)))) .done
@[simp] def W41_2 := @C.wpe _ _ K41_2.eq_1
def K41_3 : C := .pl <| .st (.ext 17 1) <|
    .st (.act none (.px (some 17) (.bin .add (.v 16) (.c (.int .i64 1))))) <|
    .st (.act none (.px (some 16) (.mv (.v 17)))) .done
@[simp] def W41_3 := @C.wpe _ _ K41_3.eq_1
def K41_4 : Pl := .st (.act none (.px (some 26) (.ia 10 (.v 21) (.v 22)))) <|
    .st (.act none (.px (some 27) (.fa 6 (.v 26)))) <|
    .st (.act none (.ex none (.store 3 (.v 27) (.v 23)))) .done
@[simp] def W41_4 := @Pl.wpe _ _ K41_4.eq_1
def K41_5 : C := .pl <| .st (.ext 17 11) <|
    .st (.act none (.als 17 none 8)) <|
    .st (.act none (.pget (some 18) (some 17) 8 1 none)) <|
    .st (.act none (.px (some 19) (.mv (.v 9)))) <|
    .st (.act none (.als 20 none 8)) <|
    .st (.act none (.pget (some 21) (some 20) 8 1 none)) <|
    .st (.act none (.px (some 22) (.mv (.v 9)))) <|
    .st (.act none (.px (some 23) (.build [.int .i64 0, .int .i64 0, .slice none 0 0] []))) <|
    .st (.act none (.px (some 24) (.ia 10 (.v 18) (.v 19)))) <|
    .st (.act none (.px (some 25) (.fa 5 (.v 24)))) <|
    .st (.act none (.ex none (.store 1 (.v 25) (.c (.int .i64 (-1)))))) K41_4
@[simp] def W41_5 := @C.wpe _ _ K41_5.eq_1
def K41_6 : C := .cond 17 (.v 27) K41_5 (.skip)
@[simp] def W41_6 := @C.wpe _ _ K41_6.eq_1
def K41_7 : C := .seq (.pl <| .st (.ext 17 11) <|
    .st (.act none (.als 17 none 10)) <|
    .st (.act none (.pget (some 18) (some 17) 10 5 none)) <|
    .st (.act none (.px (some 19) (.bin .geq (.v 18) (.c (.int .i64 0))))) <|
    .st (.act none (.px (some 20) (.mv (.v 19)))) <|
    .st (.act (some (.v 20, true)) (.px (some 21) (.mv (.v 5)))) <|
    .st (.act (some (.v 20, true)) (.als 22 none 10)) <|
    .st (.act (some (.v 20, true)) (.pget (some 23) (some 22) 10 5 none)) <|
    .st (.act (some (.v 20, true)) (.px (some 24) (.ia 1 (.v 21) (.v 23)))) <|
    .st (.act (some (.v 20, true)) (.ld (some 25) (.v 24) none)) <|
    .st (.act (some (.v 20, true)) (.px (some 26) (.un .not (.v 25)))) <|
    .st (.act none (.px (some 27) (.pick (.v 20) (.v 26) (.c (.bool false))))) .done) K41_6
@[simp] def W41_7 := @C.wpe _ _ K41_7.eq_1
def K41_8 : C := .seq (.block 3 (.seq (.pl <| .st (.ext 17 3) <|
    .st (.act none (.px (some 17) (.mv (.v 16)))) <|
    .st (.act none (.px (some 18) (.ia 10 (.v 14) (.v 16)))) <|
    .st (.act none (.ld (some 19) (.v 18) (some 10))) <|
    .st (.act none (.pnew 10 (.c (.agg #[.int .i64 0, .int .i64 0, .int .i64 0, .int .i64 0, .slice none 0 0, .int .i64 0, .int .i64 0, .int .i64 0, .slice none 0 0, .int .i64 0])) [])) <|
    .st (.act none (.px (some 9) (.mv (.v 17)))) <|
    .st (.act none (.pset none 10 0 10 (.v 19))) .done) K41_7)) K41_3
@[simp] def W41_8 := @C.wpe _ _ K41_8.eq_1
def K41_9 : C := .seq (.cond 17 (.v 17) (.skip) (.exit 2)) K41_8
@[simp] def W41_9 := @C.wpe _ _ K41_9.eq_1
def K41_10 : C := .seq (.pl <| .st (.ext 17 1) <|
    .st (.act none (.px (some 17) (.bin .lss (.v 16) (.v 15)))) .done) K41_9
@[simp] def W41_10 := @C.wpe _ _ K41_10.eq_1
def K41_11 : C := .block 2 (.loop 17 [0, 1, 2, 4, 6, 9, 10] K41_10)
@[simp] def W41_11 := @C.wpe _ _ K41_11.eq_1
def K41_12 : C := .seq (.pl <| .st (.ext 17 1) <|
    .st (.act none (.als 17 none 8)) <|
    .st (.act none (.pget (some 14) (some 17) 8 1 none)) <|
    .st (.act none (.px (some 15) (.lenV (.v 14)))) <|
    .st (.act none (.px (some 16) (.mv (.c (.int .i64 0))))) .done) K41_11
@[simp] def W41_12 := @C.wpe _ _ K41_12.eq_1
def K41_13 : C := .seq (.block 1 (.seq (.pl <| .st (.ext 17 2) <|
    .st (.act none (.px (some 17) (.ia 2 (.v 11) (.v 13)))) <|
    .st (.act none (.ld (some 18) (.v 17) (some 2))) <|
    .st (.act none (.pnew 8 (.c (.agg #[.int .i64 0, .slice none 0 0])) [])) <|
    .st (.act none (.pset none 8 0 2 (.v 18))) .done) K41_12)) K41_2
@[simp] def W41_13 := @C.wpe _ _ K41_13.eq_1
def K41_14 : C := .seq (.cond 17 (.v 17) (.skip) (.exit 0)) K41_13
@[simp] def W41_14 := @C.wpe _ _ K41_14.eq_1
def K41_15 : C := .seq (.pl <| .st (.ext 17 1) <|
    .st (.act none (.px (some 17) (.bin .lss (.v 13) (.v 12)))) .done) K41_14
@[simp] def W41_15 := @C.wpe _ _ K41_15.eq_1
def K41_16 : C := .block 0 (.loop 17 [0, 1, 2, 4, 6, 8, 9, 10, 14, 15, 16] K41_15)
@[simp] def W41_16 := @C.wpe _ _ K41_16.eq_1
def K41_17 : C := .seq (.seq (.pl <| .st (.ext 17 1) <|
    .st (.act none (.als 17 none 7)) <|
    .st (.act none (.pget (some 11) (some 17) 7 1 none)) <|
    .st (.act none (.px (some 12) (.lenV (.v 11)))) <|
    .st (.act none (.px (some 13) (.mv (.c (.int .i64 0))))) .done) K41_16) K41_1
@[simp] def W41_17 := @C.wpe _ _ K41_17.eq_1
def K41_18 : Pl := .st (.act none (.pnew 7 (.c (.agg #[.slice none 0 0, .slice none 0 0])) [])) <|
    .st (.act none (.pset none 7 0 2 (.v 18))) .done
@[simp] def W41_18 := @Pl.wpe _ _ K41_18.eq_1
def K41_19 : C := .seq (.pl <| .st (.ext 17 2) <|
    .st (.act none (.pget (some 17) none 2 0 (some 2))) <|
    .st (.act none (.ex (some 18) (.call fn_impl_System_copyOf [.v 17]))) K41_18) K41_17
@[simp] def W41_19 := @C.wpe _ _ K41_19.eq_1
def K41_20 : C := .seq (.pl <| .st (.ext 17 1) <|
    .st (.act none (.px (some 17) (.build [.slice none 0 0, .slice none 0 0] []))) <|
    .st (.act none (.pset none 3 0 2 (.v 17))) <|
    .st (.act none (.px (some 4) (.mv (.c (.bool false))))) .done) (.ret)
@[simp] def W41_20 := @C.wpe _ _ K41_20.eq_1
def K41_21 : C := .cond 17 (.v 18) K41_20 (.skip)
@[simp] def W41_21 := @C.wpe _ _ K41_21.eq_1
def K41_22 : C := .seq (.seq (.pl <| .st (.ext 17 2) <|
    .st (.act none (.px (some 17) (.mv (.v 6)))) <|
    .st (.act none (.px (some 18) (.un .not (.v 17)))) .done) K41_21) K41_19
@[simp] def W41_22 := @C.wpe _ _ K41_22.eq_1
def K41_23 : Pl := .st (.act none (.px (some 20) (.mv (.v 19)))) <|
    .st (.act none (.px (some 21) (.extract 0 (.v 20)))) <|
    .st (.act none (.px (some 22) (.extract 1 (.v 20)))) <|
    .st (.act none (.px (some 5) (.mv (.v 21)))) <|
    .st (.act none (.px (some 6) (.mv (.v 22)))) .done
@[simp] def W41_23 := @Pl.wpe _ _ K41_23.eq_1
def K41_24 : C := .seq (.pl <| .st (.ext 17 6) <|
    .st (.act none (.pget (some 17) none 2 0 (some 2))) <|
    .st (.act none (.px (some 18) (.mv (.v 1)))) <|
    .st (.act none (.ex (some 19) (.call fn_impl_RelevantVars [.v 17, .v 18]))) K41_23) K41_22
@[simp] def W41_24 := @C.wpe _ _ K41_24.eq_1
def B_impl_SliceSystem : C := .seq (.pl <| .st (.ext 17 0) <|
    .st (.act none (.pnew 2 (.v 0) [])) <|
    .st (.act none (.pnew 3 (.c (.agg #[.slice none 0 0, .slice none 0 0])) [])) <|
    .st (.act none (.px (some 4) (.mv (.c (.bool false))))) .done) K41_24
@[simp] def WB_impl_SliceSystem := @C.wpe _ _ B_impl_SliceSystem.eq_1
def R_impl_SliceSystem : FIR := ⟨B_impl_SliceSystem, 17, [(3, some (some 2)), (4, none)]⟩
theorem IR_impl_SliceSystem : cfun Try.prog H_impl_SliceSystem Try.f41 = some R_impl_SliceSystem := by kernel_rfl
theorem EN_impl_SliceSystem {args : List Value} {h : Heap} {k : Value → Heap → Prop} (hargs : args.length = 2) (hw : B_impl_SliceSystem.wp Try.prog (retQ [(3, some (some 2)), (4, none)] k) (env0 args 17) h) : CallE Try.prog fn_impl_SliceSystem args h k := enter Try.func41 rfl IR_impl_SliceSystem hargs hw

def H_impl_System_copyOf : Hint := ⟨[(0, false), (1, true), (2, true), (3, true), (4, false), (5, true), (6, false), (7, true), (16, false), (17, false), (18, false), (32, false), (33, false), (34, false)], [[0, 1, 4, 5, 6, 7, 11, 12, 13], [0, 1, 5, 6, 7]]⟩
def K87_1 : C := .seq (.pl <| .st (.ext 14 1) <|
    .st (.act none (.pget (some 14) none 3 0 (some 2))) <|
    .st (.act none (.pset none 2 0 2 (.v 14))) .done) (.ret)
@[simp] def W87_1 := @C.wpe _ _ K87_1.eq_1
def K87_2 : C := .pl <| .st (.ext 14 1) <|
    .st (.act none (.px (some 14) (.bin .add (.v 10) (.c (.int .i64 1))))) <|
    .st (.act none (.px (some 10) (.mv (.v 14)))) .done
@[simp] def W87_2 := @C.wpe _ _ K87_2.eq_1
def K87_3 : C := .pl <| .st (.ext 14 1) <|
    .st (.act none (.px (some 14) (.bin .add (.v 13) (.c (.int .i64 1))))) <|
    .st (.act none (.px (some 13) (.mv (.v 14)))) .done
@[simp] def W87_3 := @C.wpe _ _ K87_3.eq_1
def K87_4 : Pl := .st (.re 19 (.v 18) none none) <|
    .st (.act none (.px (some 24) (.ia 10 (.v 19) (.v 20)))) <|
    .st (.act none (.px (some 25) (.fa 6 (.v 24)))) <|
    .st (.act none (.ex none (.store 3 (.v 25) (.v 23)))) .done
@[simp] def W87_4 := @Pl.wpe _ _ K87_4.eq_1
def K87_5 : C := .pl <| .st (.ext 14 12) <|
    .st (.act none (.als 14 none 3)) <|
    .st (.act none (.pget (some 15) (some 14) 3 1 none)) <|
    .st (.act none (.px (some 16) (.mv (.v 4)))) <|
    .st (.act none (.px (some 17) (.ia 2 (.v 15) (.v 16)))) <|
    .st (.act none (.px (some 18) (.fa 1 (.v 17)))) <|
    .st (.act none (.ld (some 19) (.v 18) none)) <|
    .st (.act none (.px (some 20) (.mv (.v 6)))) <|
    .st (.act none (.als 21 none 7)) <|
    .st (.act none (.pget (some 22) (some 21) 7 6 (some 3))) <|
    .st (.act none (.ex (some 23) (.call fn_impl_Expr_copyOf [.v 22]))) K87_4
@[simp] def W87_5 := @C.wpe _ _ K87_5.eq_1
def K87_6 : Pl := .st (.re 19 (.v 18) none none) <|
    .st (.act none (.px (some 24) (.ia 10 (.v 19) (.v 20)))) <|
    .st (.act none (.px (some 25) (.fa 2 (.v 24)))) <|
    .st (.act none (.ex none (.store 3 (.v 25) (.v 23)))) .done
@[simp] def W87_6 := @Pl.wpe _ _ K87_6.eq_1
def K87_7 : C := .seq (.pl <| .st (.ext 14 12) <|
    .st (.act none (.als 14 none 3)) <|
    .st (.act none (.pget (some 15) (some 14) 3 1 none)) <|
    .st (.act none (.px (some 16) (.mv (.v 4)))) <|
    .st (.act none (.px (some 17) (.ia 2 (.v 15) (.v 16)))) <|
    .st (.act none (.px (some 18) (.fa 1 (.v 17)))) <|
    .st (.act none (.ld (some 19) (.v 18) none)) <|
    .st (.act none (.px (some 20) (.mv (.v 6)))) <|
    .st (.act none (.als 21 none 7)) <|
    .st (.act none (.pget (some 22) (some 21) 7 2 (some 3))) <|
    .st (.act none (.ex (some 23) (.call fn_impl_Expr_copyOf [.v 22]))) K87_6) K87_5
@[simp] def W87_7 := @C.wpe _ _ K87_7.eq_1
def K87_8 : C := .seq (.block 3 (.seq (.pl <| .st (.ext 14 3) <|
    .st (.act none (.px (some 14) (.mv (.v 13)))) <|
    .st (.act none (.px (some 15) (.ia 10 (.v 11) (.v 13)))) <|
    .st (.act none (.ld (some 16) (.v 15) (some 10))) <|
    .st (.act none (.pnew 7 (.c (.agg #[.int .i64 0, .int .i64 0, .int .i64 0, .int .i64 0, .slice none 0 0, .int .i64 0, .int .i64 0, .int .i64 0, .slice none 0 0, .int .i64 0])) [])) <|
    .st (.act none (.px (some 6) (.mv (.v 14)))) <|
    .st (.act none (.pset none 7 0 10 (.v 16))) .done) K87_7)) K87_3
@[simp] def W87_8 := @C.wpe _ _ K87_8.eq_1
def K87_9 : C := .seq (.cond 14 (.v 14) (.skip) (.exit 2)) K87_8
@[simp] def W87_9 := @C.wpe _ _ K87_9.eq_1
def K87_10 : C := .seq (.pl <| .st (.ext 14 1) <|
    .st (.act none (.px (some 14) (.bin .lss (.v 13) (.v 12)))) .done) K87_9
@[simp] def W87_10 := @C.wpe _ _ K87_10.eq_1
def K87_11 : C := .block 2 (.loop 14 [0, 1, 5, 6, 7] K87_10)
@[simp] def W87_11 := @C.wpe _ _ K87_11.eq_1
def K87_12 : C := .seq (.pl <| .st (.ext 14 1) <|
    .st (.act none (.als 14 none 5)) <|
    .st (.act none (.pget (some 11) (some 14) 5 1 none)) <|
    .st (.act none (.px (some 12) (.lenV (.v 11)))) <|
    .st (.act none (.px (some 13) (.mv (.c (.int .i64 0))))) .done) K87_11
@[simp] def W87_12 := @C.wpe _ _ K87_12.eq_1
def K87_13 : Pl := .st (.act none (.px (some 20) (.ia 2 (.v 15) (.v 16)))) <|
    .st (.act none (.px (some 21) (.fa 1 (.v 20)))) <|
    .st (.act none (.ex none (.store 1 (.v 21) (.v 19)))) .done
@[simp] def W87_13 := @Pl.wpe _ _ K87_13.eq_1
def K87_14 : C := .seq (.pl <| .st (.ext 14 8) <|
    .st (.act none (.als 14 none 3)) <|
    .st (.act none (.pget (some 15) (some 14) 3 1 none)) <|
    .st (.act none (.px (some 16) (.mv (.v 4)))) <|
    .st (.act none (.als 17 none 5)) <|
    .st (.act none (.pget (some 18) (some 17) 5 1 none)) <|
    .st (.act none (.ex (some 19) (.call fn_impl_clone_impl_Edge [.v 18]))) K87_13) K87_12
@[simp] def W87_14 := @C.wpe _ _ K87_14.eq_1
def K87_15 : C := .seq (.block 1 (.seq (.pl <| .st (.ext 14 3) <|
    .st (.act none (.px (some 14) (.mv (.v 10)))) <|
    .st (.act none (.px (some 15) (.ia 2 (.v 8) (.v 10)))) <|
    .st (.act none (.ld (some 16) (.v 15) (some 2))) <|
    .st (.act none (.pnew 5 (.c (.agg #[.int .i64 0, .slice none 0 0])) [])) <|
    .st (.act none (.px (some 4) (.mv (.v 14)))) <|
    .st (.act none (.pset none 5 0 2 (.v 16))) .done) K87_14)) K87_2
@[simp] def W87_15 := @C.wpe _ _ K87_15.eq_1
def K87_16 : C := .seq (.cond 14 (.v 14) (.skip) (.exit 0)) K87_15
@[simp] def W87_16 := @C.wpe _ _ K87_16.eq_1
def K87_17 : C := .seq (.pl <| .st (.ext 14 1) <|
    .st (.act none (.px (some 14) (.bin .lss (.v 10) (.v 9)))) .done) K87_16
@[simp] def W87_17 := @C.wpe _ _ K87_17.eq_1
def K87_18 : C := .block 0 (.loop 14 [0, 1, 4, 5, 6, 7, 11, 12, 13] K87_17)
@[simp] def W87_18 := @C.wpe _ _ K87_18.eq_1
def K87_19 : C := .seq (.seq (.pl <| .st (.ext 14 1) <|
    .st (.act none (.als 14 none 1)) <|
    .st (.act none (.pget (some 8) (some 14) 1 1 none)) <|
    .st (.act none (.px (some 9) (.lenV (.v 8)))) <|
    .st (.act none (.px (some 10) (.mv (.c (.int .i64 0))))) .done) K87_18) K87_1
@[simp] def W87_19 := @C.wpe _ _ K87_19.eq_1
def K87_20 : Pl := .st (.act none (.px (some 20) (.build [.slice none 0 0, .slice none 0 0] [(0, 1, .v 16), (1, 1, .v 19)]))) <|
    .st (.act none (.pset none 3 0 2 (.v 20))) .done
@[simp] def W87_20 := @Pl.wpe _ _ K87_20.eq_1
def K87_21 : Pl := .st (.act none (.ex (some 19) (.call fn_impl_clone_impl_Process [.v 18]))) K87_20
@[simp] def W87_21 := @Pl.wpe _ _ K87_21.eq_1
def K87_22 : C := .seq (.pl <| .st (.ext 14 7) <|
    .st (.act none (.als 14 none 1)) <|
    .st (.act none (.pget (some 15) (some 14) 1 0 none)) <|
    .st (.act none (.als 17 none 1)) <|
    .st (.act none (.pget (some 18) (some 17) 1 1 none)) <|
    .st (.act none (.pnew 3 (.c (.agg #[.slice none 0 0, .slice none 0 0])) [])) <|
    .st (.act none (.ex (some 16) (.call fn_impl_clone_int [.v 15]))) K87_21) K87_19
@[simp] def W87_22 := @C.wpe _ _ K87_22.eq_1
def B_impl_System_copyOf : C := .seq (.pl <| .st (.ext 14 0) <|
    .st (.act none (.pnew 1 (.v 0) [])) <|
    .st (.act none (.pnew 2 (.c (.agg #[.slice none 0 0, .slice none 0 0])) [])) .done) K87_22
@[simp] def WB_impl_System_copyOf := @C.wpe _ _ B_impl_System_copyOf.eq_1
def R_impl_System_copyOf : FIR := ⟨B_impl_System_copyOf, 14, [(2, some (some 2))]⟩
theorem IR_impl_System_copyOf : cfun Try.prog H_impl_System_copyOf Try.f87 = some R_impl_System_copyOf := by kernel_rfl
theorem EN_impl_System_copyOf {args : List Value} {h : Heap} {k : Value → Heap → Prop} (hargs : args.length = 1) (hw : B_impl_System_copyOf.wp Try.prog (retQ [(2, some (some 2))] k) (env0 args 14) h) : CallE Try.prog fn_impl_System_copyOf args h k := enter Try.func87 rfl IR_impl_System_copyOf hargs hw

def H_impl_clone_impl_Edge : Hint := ⟨[(0, false), (2, false)], []⟩
def K134_1 : Pl := .st (.act none (.px (some 1) (.mv (.v 4)))) .done
@[simp] def W134_1 := @Pl.wpe _ _ K134_1.eq_1
def K134_2 : Pl := .st (.act none (.ex (some 4) (.call fn_slices_Clip_S_impl_Edge_impl_Edge [.v 3]))) K134_1
@[simp] def W134_2 := @Pl.wpe _ _ K134_2.eq_1
def K134_3 : C := .seq (.pl <| .st (.ext 2 3) <|
    .st (.act none (.px (some 2) (.mv (.v 0)))) <|
    .st (.act none (.ex (some 3) (.call fn_slices_Clone_S_impl_Edge_impl_Edge [.v 2]))) K134_2) (.ret)
@[simp] def W134_3 := @C.wpe _ _ K134_3.eq_1
def B_impl_clone_impl_Edge : C := .seq (.pl <| .st (.ext 2 0) <|
    .st (.act none (.px (some 1) (.mv (.c (.slice none 0 0))))) .done) K134_3
@[simp] def WB_impl_clone_impl_Edge := @C.wpe _ _ B_impl_clone_impl_Edge.eq_1
def R_impl_clone_impl_Edge : FIR := ⟨B_impl_clone_impl_Edge, 2, [(1, none)]⟩
theorem IR_impl_clone_impl_Edge : cfun Try.prog H_impl_clone_impl_Edge Try.f134 = some R_impl_clone_impl_Edge := by kernel_rfl
theorem EN_impl_clone_impl_Edge {args : List Value} {h : Heap} {k : Value → Heap → Prop} (hargs : args.length = 1) (hw : B_impl_clone_impl_Edge.wp Try.prog (retQ [(1, none)] k) (env0 args 2) h) : CallE Try.prog fn_impl_clone_impl_Edge args h k := enter Try.func134 rfl IR_impl_clone_impl_Edge hargs hw

def H_impl_clone_impl_Expr : Hint := ⟨[(0, false), (2, false)], []⟩
def K171_1 : Pl := .st (.act none (.px (some 1) (.mv (.v 4)))) .done
@[simp] def W171_1 := @Pl.wpe _ _ K171_1.eq_1
def K171_2 : Pl := .st (.act none (.ex (some 4) (.call fn_slices_Clip_S_impl_Expr_impl_Expr [.v 3]))) K171_1
@[simp] def W171_2 := @Pl.wpe _ _ K171_2.eq_1
def K171_3 : C := .seq (.pl <| .st (.ext 2 3) <|
    .st (.act none (.px (some 2) (.mv (.v 0)))) <|
    .st (.act none (.ex (some 3) (.call fn_slices_Clone_S_impl_Expr_impl_Expr [.v 2]))) K171_2) (.ret)
@[simp] def W171_3 := @C.wpe _ _ K171_3.eq_1
def B_impl_clone_impl_Expr : C := .seq (.pl <| .st (.ext 2 0) <|
    .st (.act none (.px (some 1) (.mv (.c (.slice none 0 0))))) .done) K171_3
@[simp] def WB_impl_clone_impl_Expr := @C.wpe _ _ B_impl_clone_impl_Expr.eq_1
def R_impl_clone_impl_Expr : FIR := ⟨B_impl_clone_impl_Expr, 2, [(1, none)]⟩
theorem IR_impl_clone_impl_Expr : cfun Try.prog H_impl_clone_impl_Expr Try.f171 = some R_impl_clone_impl_Expr := by kernel_rfl
theorem EN_impl_clone_impl_Expr {args : List Value} {h : Heap} {k : Value → Heap → Prop} (hargs : args.length = 1) (hw : B_impl_clone_impl_Expr.wp Try.prog (retQ [(1, none)] k) (env0 args 2) h) : CallE Try.prog fn_impl_clone_impl_Expr args h k := enter Try.func171 rfl IR_impl_clone_impl_Expr hargs hw

def H_impl_clone_impl_Process : Hint := ⟨[(0, false), (2, false)], []⟩
def K133_1 : Pl := .st (.act none (.px (some 1) (.mv (.v 4)))) .done
@[simp] def W133_1 := @Pl.wpe _ _ K133_1.eq_1
def K133_2 : Pl := .st (.act none (.ex (some 4) (.call fn_slices_Clip_S_impl_Process_impl_Process [.v 3]))) K133_1
@[simp] def W133_2 := @Pl.wpe _ _ K133_2.eq_1
def K133_3 : C := .seq (.pl <| .st (.ext 2 3) <|
    .st (.act none (.px (some 2) (.mv (.v 0)))) <|
    .st (.act none (.ex (some 3) (.call fn_slices_Clone_S_impl_Process_impl_Process [.v 2]))) K133_2) (.ret)
@[simp] def W133_3 := @C.wpe _ _ K133_3.eq_1
def B_impl_clone_impl_Process : C := .seq (.pl <| .st (.ext 2 0) <|
    .st (.act none (.px (some 1) (.mv (.c (.slice none 0 0))))) .done) K133_3
@[simp] def WB_impl_clone_impl_Process := @C.wpe _ _ B_impl_clone_impl_Process.eq_1
def R_impl_clone_impl_Process : FIR := ⟨B_impl_clone_impl_Process, 2, [(1, none)]⟩
theorem IR_impl_clone_impl_Process : cfun Try.prog H_impl_clone_impl_Process Try.f133 = some R_impl_clone_impl_Process := by kernel_rfl
theorem EN_impl_clone_impl_Process {args : List Value} {h : Heap} {k : Value → Heap → Prop} (hargs : args.length = 1) (hw : B_impl_clone_impl_Process.wp Try.prog (retQ [(1, none)] k) (env0 args 2) h) : CallE Try.prog fn_impl_clone_impl_Process args h k := enter Try.func133 rfl IR_impl_clone_impl_Process hargs hw

def H_slices_Clip_S_impl_Edge_impl_Edge : Hint := ⟨[(0, false), (2, false)], []⟩
def K169_1 : C := .seq (.pl <| .st (.ext 2 6) <|
    .st (.act none (.px (some 2) (.mv (.v 0)))) <|
    .st (.act none (.px (some 3) (.mv (.v 0)))) <|
    .st (.act none (.px (some 4) (.lenV (.v 3)))) <|
    .st (.act none (.px (some 5) (.mv (.v 0)))) <|
    .st (.act none (.px (some 6) (.lenV (.v 5)))) <|
    .st (.act none (.px (some 7) (.sliceV 10 (.v 2) none (some (.v 4)) (some (.v 6))))) <|
    .st (.act none (.px (some 1) (.mv (.v 7)))) .done) (.ret)
@[simp] def W169_1 := @C.wpe _ _ K169_1.eq_1
def B_slices_Clip_S_impl_Edge_impl_Edge : C := .seq (.pl <| .st (.ext 2 0) <|
    .st (.act none (.px (some 1) (.mv (.c (.slice none 0 0))))) .done) K169_1
@[simp] def WB_slices_Clip_S_impl_Edge_impl_Edge := @C.wpe _ _ B_slices_Clip_S_impl_Edge_impl_Edge.eq_1
def R_slices_Clip_S_impl_Edge_impl_Edge : FIR := ⟨B_slices_Clip_S_impl_Edge_impl_Edge, 2, [(1, none)]⟩
theorem IR_slices_Clip_S_impl_Edge_impl_Edge : cfun Try.prog H_slices_Clip_S_impl_Edge_impl_Edge Try.f169 = some R_slices_Clip_S_impl_Edge_impl_Edge := by kernel_rfl
theorem EN_slices_Clip_S_impl_Edge_impl_Edge {args : List Value} {h : Heap} {k : Value → Heap → Prop} (hargs : args.length = 1) (hw : B_slices_Clip_S_impl_Edge_impl_Edge.wp Try.prog (retQ [(1, none)] k) (env0 args 2) h) : CallE Try.prog fn_slices_Clip_S_impl_Edge_impl_Edge args h k := enter Try.func169 rfl IR_slices_Clip_S_impl_Edge_impl_Edge hargs hw

def H_slices_Clip_S_impl_Expr_impl_Expr : Hint := ⟨[(0, false), (2, false)], []⟩
def K192_1 : C := .seq (.pl <| .st (.ext 2 6) <|
    .st (.act none (.px (some 2) (.mv (.v 0)))) <|
    .st (.act none (.px (some 3) (.mv (.v 0)))) <|
    .st (.act none (.px (some 4) (.lenV (.v 3)))) <|
    .st (.act none (.px (some 5) (.mv (.v 0)))) <|
    .st (.act none (.px (some 6) (.lenV (.v 5)))) <|
    .st (.act none (.px (some 7) (.sliceV 3 (.v 2) none (some (.v 4)) (some (.v 6))))) <|
    .st (.act none (.px (some 1) (.mv (.v 7)))) .done) (.ret)
@[simp] def W192_1 := @C.wpe _ _ K192_1.eq_1
def B_slices_Clip_S_impl_Expr_impl_Expr : C := .seq (.pl <| .st (.ext 2 0) <|
    .st (.act none (.px (some 1) (.mv (.c (.slice none 0 0))))) .done) K192_1
@[simp] def WB_slices_Clip_S_impl_Expr_impl_Expr := @C.wpe _ _ B_slices_Clip_S_impl_Expr_impl_Expr.eq_1
def R_slices_Clip_S_impl_Expr_impl_Expr : FIR := ⟨B_slices_Clip_S_impl_Expr_impl_Expr, 2, [(1, none)]⟩
theorem IR_slices_Clip_S_impl_Expr_impl_Expr : cfun Try.prog H_slices_Clip_S_impl_Expr_impl_Expr Try.f192 = some R_slices_Clip_S_impl_Expr_impl_Expr := by kernel_rfl
theorem EN_slices_Clip_S_impl_Expr_impl_Expr {args : List Value} {h : Heap} {k : Value → Heap → Prop} (hargs : args.length = 1) (hw : B_slices_Clip_S_impl_Expr_impl_Expr.wp Try.prog (retQ [(1, none)] k) (env0 args 2) h) : CallE Try.prog fn_slices_Clip_S_impl_Expr_impl_Expr args h k := enter Try.func192 rfl IR_slices_Clip_S_impl_Expr_impl_Expr hargs hw

def H_slices_Clip_S_impl_Process_impl_Process : Hint := ⟨[(0, false), (2, false)], []⟩
def K167_1 : C := .seq (.pl <| .st (.ext 2 6) <|
    .st (.act none (.px (some 2) (.mv (.v 0)))) <|
    .st (.act none (.px (some 3) (.mv (.v 0)))) <|
    .st (.act none (.px (some 4) (.lenV (.v 3)))) <|
    .st (.act none (.px (some 5) (.mv (.v 0)))) <|
    .st (.act none (.px (some 6) (.lenV (.v 5)))) <|
    .st (.act none (.px (some 7) (.sliceV 2 (.v 2) none (some (.v 4)) (some (.v 6))))) <|
    .st (.act none (.px (some 1) (.mv (.v 7)))) .done) (.ret)
@[simp] def W167_1 := @C.wpe _ _ K167_1.eq_1
def B_slices_Clip_S_impl_Process_impl_Process : C := .seq (.pl <| .st (.ext 2 0) <|
    .st (.act none (.px (some 1) (.mv (.c (.slice none 0 0))))) .done) K167_1
@[simp] def WB_slices_Clip_S_impl_Process_impl_Process := @C.wpe _ _ B_slices_Clip_S_impl_Process_impl_Process.eq_1
def R_slices_Clip_S_impl_Process_impl_Process : FIR := ⟨B_slices_Clip_S_impl_Process_impl_Process, 2, [(1, none)]⟩
theorem IR_slices_Clip_S_impl_Process_impl_Process : cfun Try.prog H_slices_Clip_S_impl_Process_impl_Process Try.f167 = some R_slices_Clip_S_impl_Process_impl_Process := by kernel_rfl
theorem EN_slices_Clip_S_impl_Process_impl_Process {args : List Value} {h : Heap} {k : Value → Heap → Prop} (hargs : args.length = 1) (hw : B_slices_Clip_S_impl_Process_impl_Process.wp Try.prog (retQ [(1, none)] k) (env0 args 2) h) : CallE Try.prog fn_slices_Clip_S_impl_Process_impl_Process args h k := enter Try.func167 rfl IR_slices_Clip_S_impl_Process_impl_Process hargs hw

def H_slices_Clone_S_impl_Edge_impl_Edge : Hint := ⟨[(0, false), (2, false)], []⟩
def K170_1 : Pl := .st (.act none (.px (some 1) (.mv (.v 4)))) .done
@[simp] def W170_1 := @Pl.wpe _ _ K170_1.eq_1
def K170_2 : C := .seq (.pl <| .st (.ext 2 3) <|
    .st (.act none (.psl 2 [] [])) <|
    .st (.act none (.px (some 3) (.mv (.v 0)))) <|
    .st (.act none (.ex (some 4) (.app 112 10 [.int .i64 0, .int .i64 0, .int .i64 0, .int .i64 0, .slice none 0 0, .int .i64 0, .int .i64 0, .int .i64 0, .slice none 0 0, .int .i64 0] (.p 0 2) (.o (.v 3))))) K170_1) (.ret)
@[simp] def W170_2 := @C.wpe _ _ K170_2.eq_1
def K170_3 : C := .seq (.pl <| .st (.ext 2 0) <|
    .st (.act none (.px (some 1) (.mv (.c (.slice none 0 0))))) .done) (.ret)
@[simp] def W170_3 := @C.wpe _ _ K170_3.eq_1
def K170_4 : C := .cond 2 (.v 3) K170_3 (.skip)
@[simp] def W170_4 := @C.wpe _ _ K170_4.eq_1
def K170_5 : C := .seq (.seq (.pl <| .st (.ext 2 2) <|
    .st (.act none (.px (some 2) (.mv (.v 0)))) <|
    .st (.act none (.px (some 3) (.isNil false (.v 2)))) .done) K170_4) K170_2
@[simp] def W170_5 := @C.wpe _ _ K170_5.eq_1
def B_slices_Clone_S_impl_Edge_impl_Edge : C := .seq (.pl <| .st (.ext 2 0) <|
    .st (.act none (.px (some 1) (.mv (.c (.slice none 0 0))))) .done) K170_5
@[simp] def WB_slices_Clone_S_impl_Edge_impl_Edge := @C.wpe _ _ B_slices_Clone_S_impl_Edge_impl_Edge.eq_1
def R_slices_Clone_S_impl_Edge_impl_Edge : FIR := ⟨B_slices_Clone_S_impl_Edge_impl_Edge, 2, [(1, none)]⟩
theorem IR_slices_Clone_S_impl_Edge_impl_Edge : cfun Try.prog H_slices_Clone_S_impl_Edge_impl_Edge Try.f170 = some R_slices_Clone_S_impl_Edge_impl_Edge := by kernel_rfl
theorem EN_slices_Clone_S_impl_Edge_impl_Edge {args : List Value} {h : Heap} {k : Value → Heap → Prop} (hargs : args.length = 1) (hw : B_slices_Clone_S_impl_Edge_impl_Edge.wp Try.prog (retQ [(1, none)] k) (env0 args 2) h) : CallE Try.prog fn_slices_Clone_S_impl_Edge_impl_Edge args h k := enter Try.func170 rfl IR_slices_Clone_S_impl_Edge_impl_Edge hargs hw

def H_slices_Clone_S_impl_Expr_impl_Expr : Hint := ⟨[(0, false), (2, false)], []⟩
def K193_1 : Pl := .st (.act none (.px (some 1) (.mv (.v 4)))) .done
@[simp] def W193_1 := @Pl.wpe _ _ K193_1.eq_1
def K193_2 : C := .seq (.pl <| .st (.ext 2 3) <|
    .st (.act none (.psl 2 [] [])) <|
    .st (.act none (.px (some 3) (.mv (.v 0)))) <|
    .st (.act none (.ex (some 4) (.app 40 3 [.int .i64 0, .int .i64 0, .slice none 0 0] (.p 0 2) (.o (.v 3))))) K193_1) (.ret)
@[simp] def W193_2 := @C.wpe _ _ K193_2.eq_1
def K193_3 : C := .seq (.pl <| .st (.ext 2 0) <|
    .st (.act none (.px (some 1) (.mv (.c (.slice none 0 0))))) .done) (.ret)
@[simp] def W193_3 := @C.wpe _ _ K193_3.eq_1
def K193_4 : C := .cond 2 (.v 3) K193_3 (.skip)
@[simp] def W193_4 := @C.wpe _ _ K193_4.eq_1
def K193_5 : C := .seq (.seq (.pl <| .st (.ext 2 2) <|
    .st (.act none (.px (some 2) (.mv (.v 0)))) <|
    .st (.act none (.px (some 3) (.isNil false (.v 2)))) .done) K193_4) K193_2
@[simp] def W193_5 := @C.wpe _ _ K193_5.eq_1
def B_slices_Clone_S_impl_Expr_impl_Expr : C := .seq (.pl <| .st (.ext 2 0) <|
    .st (.act none (.px (some 1) (.mv (.c (.slice none 0 0))))) .done) K193_5
@[simp] def WB_slices_Clone_S_impl_Expr_impl_Expr := @C.wpe _ _ B_slices_Clone_S_impl_Expr_impl_Expr.eq_1
def R_slices_Clone_S_impl_Expr_impl_Expr : FIR := ⟨B_slices_Clone_S_impl_Expr_impl_Expr, 2, [(1, none)]⟩
theorem IR_slices_Clone_S_impl_Expr_impl_Expr : cfun Try.prog H_slices_Clone_S_impl_Expr_impl_Expr Try.f193 = some R_slices_Clone_S_impl_Expr_impl_Expr := by kernel_rfl
theorem EN_slices_Clone_S_impl_Expr_impl_Expr {args : List Value} {h : Heap} {k : Value → Heap → Prop} (hargs : args.length = 1) (hw : B_slices_Clone_S_impl_Expr_impl_Expr.wp Try.prog (retQ [(1, none)] k) (env0 args 2) h) : CallE Try.prog fn_slices_Clone_S_impl_Expr_impl_Expr args h k := enter Try.func193 rfl IR_slices_Clone_S_impl_Expr_impl_Expr hargs hw

def H_slices_Clone_S_impl_Process_impl_Process : Hint := ⟨[(0, false), (2, false)], []⟩
def K168_1 : Pl := .st (.act none (.px (some 1) (.mv (.v 4)))) .done
@[simp] def W168_1 := @Pl.wpe _ _ K168_1.eq_1
def K168_2 : C := .seq (.pl <| .st (.ext 2 3) <|
    .st (.act none (.psl 2 [] [])) <|
    .st (.act none (.px (some 3) (.mv (.v 0)))) <|
    .st (.act none (.ex (some 4) (.app 32 2 [.int .i64 0, .slice none 0 0] (.p 0 2) (.o (.v 3))))) K168_1) (.ret)
@[simp] def W168_2 := @C.wpe _ _ K168_2.eq_1
def K168_3 : C := .seq (.pl <| .st (.ext 2 0) <|
    .st (.act none (.px (some 1) (.mv (.c (.slice none 0 0))))) .done) (.ret)
@[simp] def W168_3 := @C.wpe _ _ K168_3.eq_1
def K168_4 : C := .cond 2 (.v 3) K168_3 (.skip)
@[simp] def W168_4 := @C.wpe _ _ K168_4.eq_1
def K168_5 : C := .seq (.seq (.pl <| .st (.ext 2 2) <|
    .st (.act none (.px (some 2) (.mv (.v 0)))) <|
    .st (.act none (.px (some 3) (.isNil false (.v 2)))) .done) K168_4) K168_2
@[simp] def W168_5 := @C.wpe _ _ K168_5.eq_1
def B_slices_Clone_S_impl_Process_impl_Process : C := .seq (.pl <| .st (.ext 2 0) <|
    .st (.act none (.px (some 1) (.mv (.c (.slice none 0 0))))) .done) K168_5
@[simp] def WB_slices_Clone_S_impl_Process_impl_Process := @C.wpe _ _ B_slices_Clone_S_impl_Process_impl_Process.eq_1
def R_slices_Clone_S_impl_Process_impl_Process : FIR := ⟨B_slices_Clone_S_impl_Process_impl_Process, 2, [(1, none)]⟩
theorem IR_slices_Clone_S_impl_Process_impl_Process : cfun Try.prog H_slices_Clone_S_impl_Process_impl_Process Try.f168 = some R_slices_Clone_S_impl_Process_impl_Process := by kernel_rfl
theorem EN_slices_Clone_S_impl_Process_impl_Process {args : List Value} {h : Heap} {k : Value → Heap → Prop} (hargs : args.length = 1) (hw : B_slices_Clone_S_impl_Process_impl_Process.wp Try.prog (retQ [(1, none)] k) (env0 args 2) h) : CallE Try.prog fn_slices_Clone_S_impl_Process_impl_Process args h k := enter Try.func168 rfl IR_slices_Clone_S_impl_Process_impl_Process hargs hw

def H_spec_SliceSystem : Hint := ⟨[(0, false), (1, false), (2, true), (4, true), (5, false), (6, false), (7, false), (8, true), (9, false), (10, false), (11, true)], [[0, 1, 2, 4, 6, 9, 10], [0, 1, 2, 4, 6, 10]]⟩
def K40_1 : C := .seq (.pl <| .st (.ext 11 1) <|
    .st (.act none (.pget (some 11) none 7 0 (some 2))) <|
    .st (.act none (.pset none 3 0 2 (.v 11))) <|
    .st (.act none (.px (some 4) (.mv (.c (.bool true))))) .done) (.ret)
@[simp] def W40_1 := @C.wpe _ _ K40_1.eq_1
def K40_2 : C := .pl <| .st (.ext 11 2) <|
    .st (.act none (.px (some 11) (.mv (.v 8)))) <|
    .st (.act none (.px (some 12) (.bin .add (.v 11) (.c (.int .i64 1))))) <|
    .st (.act none (.px (some 8) (.mv (.v 12)))) .done
@[simp] def W40_2 := @C.wpe _ _ K40_2.eq_1
def K40_3 : C := .pl <| .st (.ext 11 2) <|
    .st (.act none (.px (some 11) (.mv (.v 9)))) <|
    .st (.act none (.px (some 12) (.bin .add (.v 11) (.c (.int .i64 1))))) <|
    .st (.act none (.px (some 9) (.mv (.v 12)))) .done
@[simp] def W40_3 := @C.wpe _ _ K40_3.eq_1
def K40_4 : C := .pl <| .st (.ext 11 9) <|
    .st (.act none (.als 11 none 7)) <|
    .st (.act none (.pget (some 12) (some 11) 7 1 none)) <|
    .st (.act none (.px (some 13) (.mv (.v 8)))) <|
    .st (.act none (.px (some 14) (.ia 2 (.v 12) (.v 13)))) <|
    .st (.act none (.px (some 15) (.fa 1 (.v 14)))) <|
    .st (.act none (.ld (some 16) (.v 15) none)) <|
    .st (.act none (.px (some 17) (.mv (.v 9)))) <|
    .st (.act none (.pget (some 18) none 10 0 (some 10))) <|
    .st (.act none (.px (some 19) (.ia 10 (.v 16) (.v 17)))) <|
    .st (.act none (.ex none (.store 10 (.v 19) (.v 18)))) .done
@[simp] def W40_4 := @C.wpe _ _ K40_4.eq_1
def K40_5 : C := .seq (.pl <| .st (.ext 11 2) <|
    .st (.act none (.px (some 11) (.build [.int .i64 0, .int .i64 0, .slice none 0 0] []))) <|
    .st (.act none (.als 12 none 10)) <|
    .st (.act none (.pset (some 12) 10 6 3 (.v 11))) .done) K40_4
@[simp] def W40_5 := @C.wpe _ _ K40_5.eq_1
def K40_6 : C := .seq (.pl <| .st (.ext 11 1) <|
    .st (.act none (.als 11 none 10)) <|
    .st (.act none (.pset (some 11) 10 5 1 (.c (.int .i64 (-1))))) .done) K40_5
@[simp] def W40_6 := @C.wpe _ _ K40_6.eq_1
def K40_7 : C := .cond 11 (.v 21) K40_6 (.skip)
@[simp] def W40_7 := @C.wpe _ _ K40_7.eq_1
def K40_8 : C := .seq (.pl <| .st (.ext 11 11) <|
    .st (.act none (.als 11 none 10)) <|
    .st (.act none (.pget (some 12) (some 11) 10 5 none)) <|
    .st (.act none (.px (some 13) (.bin .geq (.v 12) (.c (.int .i64 0))))) <|
    .st (.act none (.px (some 14) (.mv (.v 13)))) <|
    .st (.act (some (.v 14, true)) (.px (some 15) (.mv (.v 5)))) <|
    .st (.act (some (.v 14, true)) (.als 16 none 10)) <|
    .st (.act (some (.v 14, true)) (.pget (some 17) (some 16) 10 5 none)) <|
    .st (.act (some (.v 14, true)) (.px (some 18) (.ia 1 (.v 15) (.v 17)))) <|
    .st (.act (some (.v 14, true)) (.ld (some 19) (.v 18) none)) <|
    .st (.act (some (.v 14, true)) (.px (some 20) (.un .not (.v 19)))) <|
    .st (.act none (.px (some 21) (.pick (.v 14) (.v 20) (.c (.bool false))))) .done) K40_7
@[simp] def W40_8 := @C.wpe _ _ K40_8.eq_1
def K40_9 : C := .seq (.block 3 (.seq (.pl <| .st (.ext 11 9) <|
    .st (.act none (.als 11 none 7)) <|
    .st (.act none (.pget (some 12) (some 11) 7 1 none)) <|
    .st (.act none (.px (some 13) (.mv (.v 8)))) <|
    .st (.act none (.px (some 14) (.ia 2 (.v 12) (.v 13)))) <|
    .st (.act none (.px (some 15) (.fa 1 (.v 14)))) <|
    .st (.act none (.ld (some 16) (.v 15) none)) <|
    .st (.act none (.px (some 17) (.mv (.v 9)))) <|
    .st (.act none (.px (some 18) (.ia 10 (.v 16) (.v 17)))) <|
    .st (.act none (.ld (some 19) (.v 18) (some 10))) <|
    .st (.act none (.pnew 10 (.c (.agg #[.int .i64 0, .int .i64 0, .int .i64 0, .int .i64 0, .slice none 0 0, .int .i64 0, .int .i64 0, .int .i64 0, .slice none 0 0, .int .i64 0])) [])) <|
    .st (.act none (.pset none 10 0 10 (.v 19))) .done) K40_8)) K40_3
@[simp] def W40_9 := @C.wpe _ _ K40_9.eq_1
def K40_10 : C := .cond 11 (.v 19) (.skip) (.exit 2)
@[simp] def W40_10 := @C.wpe _ _ K40_10.eq_1
def K40_11 : C := .seq (.seq (.pl <| .st (.ext 11 9) <|
    .st (.act none (.px (some 11) (.mv (.v 9)))) <|
    .st (.act none (.als 12 none 7)) <|
    .st (.act none (.pget (some 13) (some 12) 7 1 none)) <|
    .st (.act none (.px (some 14) (.mv (.v 8)))) <|
    .st (.act none (.px (some 15) (.ia 2 (.v 13) (.v 14)))) <|
    .st (.act none (.px (some 16) (.fa 1 (.v 15)))) <|
    .st (.act none (.ld (some 17) (.v 16) none)) <|
    .st (.act none (.px (some 18) (.lenV (.v 17)))) <|
    .st (.act none (.px (some 19) (.bin .lss (.v 11) (.v 18)))) .done) K40_10) K40_9
@[simp] def W40_11 := @C.wpe _ _ K40_11.eq_1
def K40_12 : C := .block 2 (.loop 11 [0, 1, 2, 4, 6, 10] K40_11)
@[simp] def W40_12 := @C.wpe _ _ K40_12.eq_1
def K40_13 : C := .seq (.block 1 (.seq (.pl <| .st (.ext 11 0) <|
    .st (.act none (.px (some 9) (.mv (.c (.int .i64 0))))) .done) K40_12)) K40_2
@[simp] def W40_13 := @C.wpe _ _ K40_13.eq_1
def K40_14 : C := .cond 11 (.v 15) (.skip) (.exit 0)
@[simp] def W40_14 := @C.wpe _ _ K40_14.eq_1
def K40_15 : C := .seq (.seq (.pl <| .st (.ext 11 5) <|
    .st (.act none (.px (some 11) (.mv (.v 8)))) <|
    .st (.act none (.als 12 none 7)) <|
    .st (.act none (.pget (some 13) (some 12) 7 1 none)) <|
    .st (.act none (.px (some 14) (.lenV (.v 13)))) <|
    .st (.act none (.px (some 15) (.bin .lss (.v 11) (.v 14)))) .done) K40_14) K40_13
@[simp] def W40_15 := @C.wpe _ _ K40_15.eq_1
def K40_16 : C := .block 0 (.loop 11 [0, 1, 2, 4, 6, 9, 10] K40_15)
@[simp] def W40_16 := @C.wpe _ _ K40_16.eq_1
def K40_17 : C := .seq (.seq (.pl <| .st (.ext 11 0) <|
    .st (.act none (.px (some 8) (.mv (.c (.int .i64 0))))) .done) K40_16) K40_1
@[simp] def W40_17 := @C.wpe _ _ K40_17.eq_1
def K40_18 : Pl := .st (.act none (.pnew 7 (.c (.agg #[.slice none 0 0, .slice none 0 0])) [])) <|
    .st (.act none (.pset none 7 0 2 (.v 12))) .done
@[simp] def W40_18 := @Pl.wpe _ _ K40_18.eq_1
def K40_19 : C := .seq (.pl <| .st (.ext 11 2) <|
    .st (.act none (.pget (some 11) none 2 0 (some 2))) <|
    .st (.act none (.ex (some 12) (.call fn_spec_l2Copy [.v 11]))) K40_18) K40_17
@[simp] def W40_19 := @C.wpe _ _ K40_19.eq_1
def K40_20 : C := .seq (.pl <| .st (.ext 11 1) <|
    .st (.act none (.px (some 11) (.build [.slice none 0 0, .slice none 0 0] []))) <|
    .st (.act none (.pset none 3 0 2 (.v 11))) <|
    .st (.act none (.px (some 4) (.mv (.c (.bool false))))) .done) (.ret)
@[simp] def W40_20 := @C.wpe _ _ K40_20.eq_1
def K40_21 : C := .cond 11 (.v 12) K40_20 (.skip)
@[simp] def W40_21 := @C.wpe _ _ K40_21.eq_1
def K40_22 : C := .seq (.seq (.pl <| .st (.ext 11 2) <|
    .st (.act none (.px (some 11) (.mv (.v 6)))) <|
    .st (.act none (.px (some 12) (.un .not (.v 11)))) .done) K40_21) K40_19
@[simp] def W40_22 := @C.wpe _ _ K40_22.eq_1
def K40_23 : Pl := .st (.act none (.px (some 14) (.mv (.v 13)))) <|
    .st (.act none (.px (some 15) (.extract 0 (.v 14)))) <|
    .st (.act none (.px (some 16) (.extract 1 (.v 14)))) <|
    .st (.act none (.px (some 5) (.mv (.v 15)))) <|
    .st (.act none (.px (some 6) (.mv (.v 16)))) .done
@[simp] def W40_23 := @Pl.wpe _ _ K40_23.eq_1
def K40_24 : C := .seq (.pl <| .st (.ext 11 6) <|
    .st (.act none (.pget (some 11) none 2 0 (some 2))) <|
    .st (.act none (.px (some 12) (.mv (.v 1)))) <|
    .st (.act none (.ex (some 13) (.call fn_spec_RelevantVars [.v 11, .v 12]))) K40_23) K40_22
@[simp] def W40_24 := @C.wpe _ _ K40_24.eq_1
def B_spec_SliceSystem : C := .seq (.pl <| .st (.ext 11 0) <|
    .st (.act none (.pnew 2 (.v 0) [])) <|
    .st (.act none (.pnew 3 (.c (.agg #[.slice none 0 0, .slice none 0 0])) [])) <|
    .st (.act none (.px (some 4) (.mv (.c (.bool false))))) .done) K40_24
@[simp] def WB_spec_SliceSystem := @C.wpe _ _ B_spec_SliceSystem.eq_1
def R_spec_SliceSystem : FIR := ⟨B_spec_SliceSystem, 11, [(3, some (some 2)), (4, none)]⟩
theorem IR_spec_SliceSystem : cfun Try.prog H_spec_SliceSystem Try.f40 = some R_spec_SliceSystem := by kernel_rfl
theorem EN_spec_SliceSystem {args : List Value} {h : Heap} {k : Value → Heap → Prop} (hargs : args.length = 2) (hw : B_spec_SliceSystem.wp Try.prog (retQ [(3, some (some 2)), (4, none)] k) (env0 args 11) h) : CallE Try.prog fn_spec_SliceSystem args h k := enter Try.func40 rfl IR_spec_SliceSystem hargs hw


end Go.Proofs.Ythgimpheeemooaa
