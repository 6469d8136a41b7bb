/-
  Texts of this proof, one behind the other.
-/
import Derived.Test.YtglnelcmcimljaaGreatYF5
set_option linter.all false
set_option linter.unusedVariables false
set_option linter.unusedSimpArgs false
set_option linter.defProp false
set_option maxRecDepth 1000000
namespace Go.Proofs.YtglnelcmcimljaaGreat
open Go
def H_impl_Accepts : Hint := ⟨[(0, false), (1, false), (2, true), (3, true), (4, false), (5, false)], []⟩
def K13_1 : Pl := .m 4 8 <|
 .x 5 (.mv (.c (.bool true))) .done
@[simp] def W13_1 := Pl.w K13_1.eq_1
def K13_2 : C := .seq (.pl <| .e 6 3 <|
 .o (.pget (some 6) none 2 0 (some 3)) <|
 .o (.pget (some 7) none 3 0 (some 2)) <|
 .c 8 (.call fn_impl_Automaton_accepts [.v 6, .v 7]) K13_1) (.ret)
@[simp] def W13_2 := C.w K13_2.eq_1
def K13_3 : C := .seq (.pl <| .e 6 0 <|
 .x 4 (.mv (.c (.bool false))) <|
 .x 5 (.mv (.c (.bool false))) .done) (.ret)
@[simp] def W13_3 := C.w K13_3.eq_1
def K13_4 : C := .cond 6 (.v 13) K13_3 (.skip)
@[simp] def W13_4 := C.w K13_4.eq_1
def K13_5 : Pl := .n 9 (.px (some 12) (.un .not (.v 11))) <|
 .x 13 (.pick (.v 9) (.c (.bool true)) (.v 12)) .done
@[simp] def W13_5 := Pl.w K13_5.eq_1
def K13_6 : Pl := .x 8 (.un .not (.v 7)) <|
 .m 9 8 <|
 .n 9 (.pget (some 10) none 3 0 (some 2)) <|
 .st (.act (some (.v 9, false)) (.ex (some 11) (.call fn_impl_LassoValid [.v 10]))) K13_5
@[simp] def W13_6 := Pl.w K13_6.eq_1
def K13_7 : C := .seq (.seq (.pl <| .e 6 8 <|
 .o (.pget (some 6) none 2 0 (some 3)) <|
 .c 7 (.call fn_impl_AutomatonValid [.v 6]) K13_6) K13_4) K13_2
@[simp] def W13_7 := C.w K13_7.eq_1
def B_impl_Accepts : C := .seq (.pl <| .e 6 0 <|
 .o (.pnew 2 (.v 0) []) <|
 .o (.pnew 3 (.v 1) []) <|
 .x 4 (.mv (.c (.bool false))) <|
 .x 5 (.mv (.c (.bool false))) .done) K13_7
@[simp] def WB_impl_Accepts := C.w B_impl_Accepts.eq_1
def R_impl_Accepts : FIR := ⟨B_impl_Accepts, 6, [(4, none), (5, none)]⟩
theorem IR_impl_Accepts : cfun Tryz.prog H_impl_Accepts Tryz.f13 = some R_impl_Accepts := by kernel_rfl
theorem EN_impl_Accepts : ENT Tryz.prog B_impl_Accepts [(4, none), (5, none)] 2 6 fn_impl_Accepts := fun hargs hw => enter Tryz.func13 rfl IR_impl_Accepts hargs hw
def H_impl_AutomatonValid : Hint := ⟨[(0, false), (1, true), (2, false), (3, false), (4, false), (6, false), (11, false), (12, false), (13, false)], [[0, 2, 5]]⟩
def K19_1 : Pl := .y 17 (.px (some 22) (.un .not (.v 21))) <|
 .x 23 (.pick (.v 17) (.v 22) (.c (.bool false))) <|
 .m 2 23 .done
@[simp] def W19_1 := Pl.w K19_1.eq_1
def K19_2 : Pl := .m 11 10 <|
 .y 11 (.als 12 none 1) <|
 .y 11 (.pget (some 13) (some 12) 1 2 none) <|
 .y 11 (.px (some 14) (.lenV (.v 13))) <|
 .y 11 (.px (some 15) (.bin .leq (.v 14) (.c (.int .i64 2048)))) <|
 .x 16 (.pick (.v 11) (.v 15) (.c (.bool false))) <|
 .m 17 16 <|
 .y 17 (.als 18 none 1) <|
 .y 17 (.pget (some 19) (some 18) 1 2 none) <|
 .y 17 (.px (some 20) (.mkf (.func fn_impl_AutomatonValid_1) [] [.v 3])) <|
 .st (.act (some (.v 17, true)) (.ex (some 21) (.call fn_slices_ContainsFunc_S_impl_Transition_impl_Transition [.v 19, .v 20]))) K19_1
@[simp] def W19_2 := Pl.w K19_2.eq_1
def K19_3 : C := .seq (.pl <| .e 9 15 <|
 .l 9 3 <|
 .c 10 (.call fn_impl_in [.v 9, .c (.int .i64 1), .c (.int .i64 64)]) K19_2) (.ret)
@[simp] def W19_3 := C.w K19_3.eq_1
def K19_4 : C := .pl <| .e 9 1 <|
 .x 9 (.bin .add (.v 8) (.c (.int .i64 1))) <|
 .m 8 9 .done
@[simp] def W19_4 := C.w K19_4.eq_1
def K19_5 : C := .pl <| .e 9 1 <|
 .m 9 5 <|
 .m 4 9 .done
@[simp] def W19_5 := C.w K19_5.eq_1
def K19_6 : C := .seq (.pl <| .e 9 0 <|
 .x 2 (.mv (.c (.bool false))) .done) (.ret)
@[simp] def W19_6 := C.w K19_6.eq_1
def K19_7 : C := .cond 9 (.v 15) K19_6 (.skip)
@[simp] def W19_7 := C.w K19_7.eq_1
def K19_8 : Pl := .x 15 (.un .not (.v 14)) .done
@[simp] def W19_8 := Pl.w K19_8.eq_1
def K19_9 : C := .seq (.seq (.pl <| .e 9 7 <|
 .m 9 5 <|
 .m 10 4 <|
 .x 11 (.bin .add (.v 10) (.c (.int .i64 1))) <|
 .l 12 3 <|
 .x 13 (.bin .sub (.v 12) (.c (.int .i64 1))) <|
 .c 14 (.call fn_impl_in [.v 9, .v 11, .v 13]) K19_8) K19_7) K19_5
@[simp] def W19_9 := C.w K19_9.eq_1
def K19_10 : C := .seq (.block 1 (.seq (.pl <| .e 9 2 <|
 .x 9 (.ia 1 (.v 6) (.v 8)) <|
 .l 10 9 <|
 .m 5 10 .done) K19_9)) K19_4
@[simp] def W19_10 := C.w K19_10.eq_1
def K19_11 : C := .seq (.cond 9 (.v 9) (.skip) (.exit 0)) K19_10
@[simp] def W19_11 := C.w K19_11.eq_1
def K19_12 : C := .seq (.pl <| .e 9 1 <|
 .x 9 (.bin .lss (.v 8) (.v 7)) .done) K19_11
@[simp] def W19_12 := C.w K19_12.eq_1
def K19_13 : C := .block 0 (.loop 9 [0, 2, 5] K19_12)
@[simp] def W19_13 := C.w K19_13.eq_1
def K19_14 : C := .seq (.seq (.pl <| .e 9 1 <|
 .a 9 1 <|
 .g 6 9 1 0 <|
 .x 7 (.lenV (.v 6)) <|
 .x 8 (.mv (.c (.int .i64 0))) .done) K19_13) K19_3
@[simp] def W19_14 := C.w K19_14.eq_1
def K19_15 : C := .seq (.pl <| .e 9 0 <|
 .x 4 (.mv (.c (.int .i64 (-1)))) .done) K19_14
@[simp] def W19_15 := C.w K19_15.eq_1
def K19_16 : Pl := .o (.ex none (.store 1 (.v 3) (.v 11))) .done
@[simp] def W19_16 := Pl.w K19_16.eq_1
def K19_17 : C := .seq (.pl <| .e 9 3 <|
 .a 9 1 <|
 .g 10 9 1 1 <|
 .x 11 (.lenV (.v 10)) <|
 .c 3 (.alloc (.c (.int .i64 0))) K19_16) K19_15
@[simp] def W19_17 := C.w K19_17.eq_1
def B_impl_AutomatonValid : C := .seq (.pl <| .e 9 0 <|
 .o (.pnew 1 (.v 0) []) <|
 .x 2 (.mv (.c (.bool false))) .done) K19_17
@[simp] def WB_impl_AutomatonValid := C.w B_impl_AutomatonValid.eq_1
def R_impl_AutomatonValid : FIR := ⟨B_impl_AutomatonValid, 9, [(2, none)]⟩
theorem IR_impl_AutomatonValid : cfun Tryz.prog H_impl_AutomatonValid Tryz.f19 = some R_impl_AutomatonValid := by kernel_rfl
theorem EN_impl_AutomatonValid : ENT Tryz.prog B_impl_AutomatonValid [(2, none)] 1 9 fn_impl_AutomatonValid := fun hargs hw => enter Tryz.func19 rfl IR_impl_AutomatonValid hargs hw
def H_impl_AutomatonValid_1 : Hint := ⟨[(0, false), (1, false), (2, true), (3, false)], []⟩
def K52_1 : Pl := .n 18 (.px (some 22) (.un .not (.v 21))) <|
 .x 23 (.pick (.v 18) (.c (.bool true)) (.v 22)) <|
 .m 24 23 <|
 .n 24 (.als 25 none 2) <|
 .n 24 (.pget (some 26) (some 25) 2 2 none) <|
 .n 24 (.px (some 27) (.bin .lss (.v 26) (.c (.int .i64 0)))) <|
 .x 28 (.pick (.v 24) (.c (.bool true)) (.v 27)) <|
 .m 29 28 <|
 .n 29 (.als 30 none 2) <|
 .n 29 (.pget (some 31) (some 30) 2 2 none) <|
 .n 29 (.als 32 none 2) <|
 .n 29 (.pget (some 33) (some 32) 2 1 none) <|
 .n 29 (.px (some 34) (.bin .andNot (.v 31) (.v 33))) <|
 .n 29 (.px (some 35) (.bin .neq (.v 34) (.c (.int .i64 0)))) <|
 .x 36 (.pick (.v 29) (.c (.bool true)) (.v 35)) <|
 .m 3 36 .done
@[simp] def W52_1 := Pl.w K52_1.eq_1
def K52_2 : Pl := .n 10 (.px (some 16) (.un .not (.v 15))) <|
 .x 17 (.pick (.v 10) (.c (.bool true)) (.v 16)) <|
 .m 18 17 <|
 .n 18 (.als 19 none 2) <|
 .n 18 (.pget (some 20) (some 19) 2 1 none) <|
 .st (.act (some (.v 18, false)) (.ex (some 21) (.call fn_impl_in [.v 20, .c (.int .i64 0), .c (.int .i64 7)]))) K52_1
@[simp] def W52_2 := Pl.w K52_2.eq_1
def K52_3 : Pl := .x 9 (.un .not (.v 8)) <|
 .m 10 9 <|
 .n 10 (.als 11 none 2) <|
 .n 10 (.pget (some 12) (some 11) 2 3 none) <|
 .n 10 (.ld (some 13) (.v 1) none) <|
 .n 10 (.px (some 14) (.bin .sub (.v 13) (.c (.int .i64 1)))) <|
 .st (.act (some (.v 10, false)) (.ex (some 15) (.call fn_impl_in [.v 12, .c (.int .i64 0), .v 14]))) K52_2
@[simp] def W52_3 := Pl.w K52_3.eq_1
def K52_4 : C := .seq (.pl <| .e 4 33 <|
 .a 4 2 <|
 .g 5 4 2 0 <|
 .l 6 1 <|
 .x 7 (.bin .sub (.v 6) (.c (.int .i64 1))) <|
 .c 8 (.call fn_impl_in [.v 5, .c (.int .i64 0), .v 7]) K52_3) (.ret)
@[simp] def W52_4 := C.w K52_4.eq_1
def B_impl_AutomatonValid_1 : C := .seq (.pl <| .e 4 0 <|
 .o (.pnew 2 (.v 0) []) <|
 .x 3 (.mv (.c (.bool false))) .done) K52_4
@[simp] def WB_impl_AutomatonValid_1 := C.w B_impl_AutomatonValid_1.eq_1
def R_impl_AutomatonValid_1 : FIR := ⟨B_impl_AutomatonValid_1, 4, [(3, none)]⟩
theorem IR_impl_AutomatonValid_1 : cfun Tryz.prog H_impl_AutomatonValid_1 Tryz.f52 = some R_impl_AutomatonValid_1 := by kernel_rfl
theorem EN_impl_AutomatonValid_1 : ENT Tryz.prog B_impl_AutomatonValid_1 [(3, none)] 2 4 fn_impl_AutomatonValid_1 := fun hargs hw => enter Tryz.func52 rfl IR_impl_AutomatonValid_1 hargs hw
def H_impl_Automaton_accepts : Hint := ⟨[(0, false), (1, false), (2, true), (3, true), (4, false), (5, false), (6, false), (7, false), (8, false), (9, false), (11, true), (12, false), (13, false), (14, false), (25, false), (26, false), (27, false), (33, false), (34, false), (35, false), (76, false), (77, false), (78, false)], [[0, 1, 4, 5, 8, 9, 10, 11, 12, 13, 17, 18, 19, 20, 21, 22], [0, 1, 4, 5, 10, 11, 12, 13, 20, 21, 22], [0, 1, 3, 4, 5, 7, 8, 9, 10, 12, 13, 14, 15, 16, 17, 18, 19]]⟩
def K41_1 : C := .seq (.pl <| .e 23 0 <|
 .x 4 (.mv (.c (.bool false))) .done) (.ret)
@[simp] def W41_1 := C.w K41_1.eq_1
def K41_2 : C := .pl <| .e 23 1 <|
 .x 23 (.bin .add (.v 22) (.c (.int .i64 1))) <|
 .m 22 23 .done
@[simp] def W41_2 := C.w K41_2.eq_1
def K41_3 : C := .seq (.pl <| .e 23 0 <|
 .x 4 (.mv (.c (.bool true))) .done) (.ret)
@[simp] def W41_3 := C.w K41_3.eq_1
def K41_4 : C := .cond 23 (.v 38) K41_3 (.skip)
@[simp] def W41_4 := C.w K41_4.eq_1
def K41_5 : C := .seq (.pl <| .e 23 16 <|
 .m 23 13 <|
 .m 24 23 <|
 .y 24 (.px (some 25) (.mv (.v 11))) <|
 .y 24 (.px (some 26) (.mv (.v 12))) <|
 .y 24 (.px (some 27) (.ia 1 (.v 25) (.v 26))) <|
 .y 24 (.ld (some 28) (.v 27) none) <|
 .x 29 (.pick (.v 24) (.v 28) (.c (.bool false))) <|
 .m 30 29 <|
 .y 30 (.als 31 none 2) <|
 .y 30 (.pget (some 32) (some 31) 2 1 none) <|
 .y 30 (.px (some 33) (.mv (.v 12))) <|
 .y 30 (.px (some 34) (.mv (.v 6))) <|
 .y 30 (.px (some 35) (.bin .rem (.v 33) (.v 34))) <|
 .y 30 (.px (some 36) (.ia 1 (.v 32) (.v 35))) <|
 .y 30 (.ld (some 37) (.v 36) none) <|
 .x 38 (.pick (.v 30) (.v 37) (.c (.bool false))) .done) K41_4
@[simp] def W41_5 := C.w K41_5.eq_1
def K41_6 : C := .seq (.block 5 (.seq (.pl <| .e 23 3 <|
 .m 23 22 <|
 .x 24 (.ia 1 (.v 20) (.v 22)) <|
 .l 25 24 <|
 .m 12 23 <|
 .m 13 25 .done) K41_5)) K41_2
@[simp] def W41_6 := C.w K41_6.eq_1
def K41_7 : C := .seq (.cond 23 (.v 23) (.skip) (.exit 4)) K41_6
@[simp] def W41_7 := C.w K41_7.eq_1
def K41_8 : C := .seq (.pl <| .e 23 1 <|
 .x 23 (.bin .lss (.v 22) (.v 21)) .done) K41_7
@[simp] def W41_8 := C.w K41_8.eq_1
def K41_9 : C := .block 4 (.loop 23 [0, 1, 3, 4, 5, 7, 8, 9, 10, 12, 13, 14, 15, 16, 17, 18, 19] K41_8)
@[simp] def W41_9 := C.w K41_9.eq_1
def K41_10 : Pl := .x 21 (.lenV (.v 20)) <|
 .x 22 (.mv (.c (.int .i64 0))) .done
@[simp] def W41_10 := Pl.w K41_10.eq_1
def K41_11 : C := .seq (.seq (.pl <| .e 23 3 <|
 .m 23 7 <|
 .a 24 2 <|
 .g 25 24 2 0 <|
 .c 20 (.call fn_impl_reachable [.v 23, .v 25]) K41_10) K41_9) K41_1
@[simp] def W41_11 := C.w K41_11.eq_1
def K41_12 : Pl := .m 11 24 .done
@[simp] def W41_12 := Pl.w K41_12.eq_1
def K41_13 : C := .seq (.pl <| .e 23 2 <|
 .m 23 7 <|
 .c 24 (.call fn_impl_cyclic [.v 23]) K41_12) K41_11
@[simp] def W41_13 := C.w K41_13.eq_1
def K41_14 : C := .pl <| .e 23 1 <|
 .x 23 (.bin .add (.v 16) (.c (.int .i64 1))) <|
 .m 16 23 .done
@[simp] def W41_14 := C.w K41_14.eq_1
def K41_15 : C := .pl <| .e 23 1 <|
 .x 23 (.bin .add (.v 19) (.c (.int .i64 1))) <|
 .m 19 23 .done
@[simp] def W41_15 := C.w K41_15.eq_1
def K41_16 : Pl := .x 49 (.ia 1 (.v 23) (.v 29)) <|
 .o (.ex none (.store 1 (.v 49) (.v 48))) .done
@[simp] def W41_16 := Pl.w K41_16.eq_1
def K41_17 : Pl := .st (.re 38 (.v 37) none none) <|
 .x 43 (.bin .mul (.v 41) (.v 42)) <|
 .x 46 (.bin .add (.v 43) (.v 45)) <|
 .o (.psl 47 [.int .i64 0] [(0, 1, .v 46)]) <|
 .c 48 (.app 8 1 [.int .i64 0] (.o (.v 38)) (.p 1 47)) K41_16
@[simp] def W41_17 := Pl.w K41_17.eq_1
def K41_18 : C := .pl <| .e 23 27 <|
 .m 23 7 <|
 .m 24 8 <|
 .m 25 6 <|
 .x 26 (.bin .mul (.v 24) (.v 25)) <|
 .a 27 10 <|
 .g 28 27 10 0 <|
 .x 29 (.bin .add (.v 26) (.v 28)) <|
 .m 30 7 <|
 .m 31 8 <|
 .m 32 6 <|
 .x 33 (.bin .mul (.v 31) (.v 32)) <|
 .a 34 10 <|
 .g 35 34 10 0 <|
 .x 36 (.bin .add (.v 33) (.v 35)) <|
 .x 37 (.ia 1 (.v 30) (.v 36)) <|
 .l 38 37 <|
 .o (.pget (some 39) none 3 0 (some 2)) <|
 .m 40 8 <|
 .m 42 6 <|
 .a 44 10 <|
 .g 45 44 10 3 <|
 .c 41 (.call fn_impl_Lasso_next [.v 39, .v 40]) K41_17
@[simp] def W41_18 := C.w K41_18.eq_1
def K41_19 : C := .cond 23 (.v 25) K41_18 (.skip)
@[simp] def W41_19 := C.w K41_19.eq_1
def K41_20 : C := .seq (.pl <| .e 23 3 <|
 .o (.pget (some 23) none 10 0 (some 4)) <|
 .m 24 9 <|
 .c 25 (.call fn_impl_Transition_takes [.v 23, .v 24]) .done) K41_19
@[simp] def W41_20 := C.w K41_20.eq_1
def K41_21 : C := .seq (.block 3 (.seq (.pl <| .e 23 2 <|
 .x 23 (.ia 4 (.v 17) (.v 19)) <|
 .o (.ld (some 24) (.v 23) (some 4)) <|
 .o (.pnew 10 (.c (.agg #[.int .i64 0, .int .i64 0, .int .i64 0, .int .i64 0])) []) <|
 .o (.pset none 10 0 4 (.v 24)) .done) K41_20)) K41_15
@[simp] def W41_21 := C.w K41_21.eq_1
def K41_22 : C := .seq (.cond 23 (.v 23) (.skip) (.exit 2)) K41_21
@[simp] def W41_22 := C.w K41_22.eq_1
def K41_23 : C := .seq (.pl <| .e 23 1 <|
 .x 23 (.bin .lss (.v 19) (.v 18)) .done) K41_22
@[simp] def W41_23 := C.w K41_23.eq_1
def K41_24 : C := .block 2 (.loop 23 [0, 1, 4, 5, 10, 11, 12, 13, 20, 21, 22] K41_23)
@[simp] def W41_24 := C.w K41_24.eq_1
def K41_25 : C := .seq (.pl <| .e 23 1 <|
 .a 23 2 <|
 .g 17 23 2 2 <|
 .x 18 (.lenV (.v 17)) <|
 .x 19 (.mv (.c (.int .i64 0))) .done) K41_24
@[simp] def W41_25 := C.w K41_25.eq_1
def K41_26 : C := .seq (.block 1 (.seq (.pl <| .e 23 3 <|
 .m 23 16 <|
 .x 24 (.ia 1 (.v 14) (.v 16)) <|
 .l 25 24 <|
 .m 8 23 <|
 .m 9 25 .done) K41_25)) K41_14
@[simp] def W41_26 := C.w K41_26.eq_1
def K41_27 : C := .seq (.cond 23 (.v 23) (.skip) (.exit 0)) K41_26
@[simp] def W41_27 := C.w K41_27.eq_1
def K41_28 : C := .seq (.pl <| .e 23 1 <|
 .x 23 (.bin .lss (.v 16) (.v 15)) .done) K41_27
@[simp] def W41_28 := C.w K41_28.eq_1
def K41_29 : C := .block 0 (.loop 23 [0, 1, 4, 5, 8, 9, 10, 11, 12, 13, 17, 18, 19, 20, 21, 22] K41_28)
@[simp] def W41_29 := C.w K41_29.eq_1
def K41_30 : C := .seq (.seq (.pl <| .e 23 0 <|
 .m 14 5 <|
 .x 15 (.lenV (.v 14)) <|
 .x 16 (.mv (.c (.int .i64 0))) .done) K41_29) K41_13
@[simp] def W41_30 := C.w K41_30.eq_1
def K41_31 : Pl := .m 7 27 .done
@[simp] def W41_31 := Pl.w K41_31.eq_1
def K41_32 : C := .seq (.pl <| .e 23 5 <|
 .m 23 5 <|
 .x 24 (.lenV (.v 23)) <|
 .m 25 6 <|
 .x 26 (.bin .mul (.v 24) (.v 25)) <|
 .c 27 (.mks 24 1 [.slice none 0 0] (.v 26) (.v 26)) K41_31) K41_30
@[simp] def W41_32 := C.w K41_32.eq_1
def K41_33 : Pl := .m 5 24 <|
 .m 6 27 .done
@[simp] def W41_33 := Pl.w K41_33.eq_1
def K41_34 : C := .seq (.pl <| .e 23 5 <|
 .o (.pget (some 23) none 3 0 (some 2)) <|
 .a 25 2 <|
 .g 26 25 2 1 <|
 .x 27 (.lenV (.v 26)) <|
 .c 24 (.call fn_impl_Lasso_all [.v 23]) K41_33) K41_32
@[simp] def W41_34 := C.w K41_34.eq_1
def B_impl_Automaton_accepts : C := .seq (.pl <| .e 23 0 <|
 .o (.pnew 2 (.v 0) []) <|
 .o (.pnew 3 (.v 1) []) <|
 .x 4 (.mv (.c (.bool false))) .done) K41_34
@[simp] def WB_impl_Automaton_accepts := C.w B_impl_Automaton_accepts.eq_1
def R_impl_Automaton_accepts : FIR := ⟨B_impl_Automaton_accepts, 23, [(4, none)]⟩
theorem IR_impl_Automaton_accepts : cfun Tryz.prog H_impl_Automaton_accepts Tryz.f41 = some R_impl_Automaton_accepts := by kernel_rfl
theorem EN_impl_Automaton_accepts : ENT Tryz.prog B_impl_Automaton_accepts [(4, none)] 2 23 fn_impl_Automaton_accepts := fun hargs hw => enter Tryz.func41 rfl IR_impl_Automaton_accepts hargs hw
def H_impl_LassoValid : Hint := ⟨[(0, false), (1, true), (2, false)], []⟩
def K40_1 : Pl := .x 22 (.pick (.v 17) (.v 21) (.c (.bool false))) <|
 .m 2 22 .done
@[simp] def W40_1 := Pl.w K40_1.eq_1
def K40_2 : Pl := .x 10 (.pick (.v 6) (.v 9) (.c (.bool false))) <|
 .m 11 10 <|
 .y 11 (.als 12 none 1) <|
 .y 11 (.pget (some 13) (some 12) 1 0 none) <|
 .y 11 (.px (some 14) (.lenV (.v 13))) <|
 .y 11 (.px (some 15) (.bin .leq (.v 14) (.c (.int .i64 80)))) <|
 .x 16 (.pick (.v 11) (.v 15) (.c (.bool false))) <|
 .m 17 16 <|
 .y 17 (.als 18 none 1) <|
 .y 17 (.pget (some 19) (some 18) 1 1 none) <|
 .y 17 (.px (some 20) (.lenV (.v 19))) <|
 .st (.act (some (.v 17, true)) (.ex (some 21) (.call fn_impl_in [.v 20, .c (.int .i64 1), .c (.int .i64 80)]))) K40_1
@[simp] def W40_2 := Pl.w K40_2.eq_1
def K40_3 : Pl := .m 6 5 <|
 .y 6 (.als 7 none 1) <|
 .y 6 (.pget (some 8) (some 7) 1 1 none) <|
 .st (.act (some (.v 6, true)) (.ex (some 9) (.call fn_impl_letters [.v 8]))) K40_2
@[simp] def W40_3 := Pl.w K40_3.eq_1
def K40_4 : C := .seq (.pl <| .e 3 20 <|
 .a 3 1 <|
 .g 4 3 1 0 <|
 .c 5 (.call fn_impl_letters [.v 4]) K40_3) (.ret)
@[simp] def W40_4 := C.w K40_4.eq_1
def B_impl_LassoValid : C := .seq (.pl <| .e 3 0 <|
 .o (.pnew 1 (.v 0) []) <|
 .x 2 (.mv (.c (.bool false))) .done) K40_4
@[simp] def WB_impl_LassoValid := C.w B_impl_LassoValid.eq_1
def R_impl_LassoValid : FIR := ⟨B_impl_LassoValid, 3, [(2, none)]⟩
theorem IR_impl_LassoValid : cfun Tryz.prog H_impl_LassoValid Tryz.f40 = some R_impl_LassoValid := by kernel_rfl
theorem EN_impl_LassoValid : ENT Tryz.prog B_impl_LassoValid [(2, none)] 1 3 fn_impl_LassoValid := fun hargs hw => enter Tryz.func40 rfl IR_impl_LassoValid hargs hw
def H_impl_Lasso_all : Hint := ⟨[(0, false), (1, true), (2, false)], []⟩
def K80_1 : Pl := .m 2 8 .done
@[simp] def W80_1 := Pl.w K80_1.eq_1
def K80_2 : Pl := .c 8 (.call fn_slices_Concat_S_int_int [.v 7]) K80_1
@[simp] def W80_2 := Pl.w K80_2.eq_1
def K80_3 : C := .seq (.pl <| .e 3 6 <|
 .a 3 1 <|
 .g 4 3 1 0 <|
 .a 5 1 <|
 .g 6 5 1 1 <|
 .c 7 (.bls 1 2 [.slice none 0 0] [(0, 1, .v 4), (1, 1, .v 6)]) K80_2) (.ret)
@[simp] def W80_3 := C.w K80_3.eq_1
def B_impl_Lasso_all : C := .seq (.pl <| .e 3 0 <|
 .o (.pnew 1 (.v 0) []) <|
 .x 2 (.mv (.c (.slice none 0 0))) .done) K80_3
@[simp] def WB_impl_Lasso_all := C.w B_impl_Lasso_all.eq_1
def R_impl_Lasso_all : FIR := ⟨B_impl_Lasso_all, 3, [(2, none)]⟩
theorem IR_impl_Lasso_all : cfun Tryz.prog H_impl_Lasso_all Tryz.f80 = some R_impl_Lasso_all := by kernel_rfl
theorem EN_impl_Lasso_all : ENT Tryz.prog B_impl_Lasso_all [(2, none)] 1 3 fn_impl_Lasso_all := fun hargs hw => enter Tryz.func80 rfl IR_impl_Lasso_all hargs hw
def H_impl_Lasso_next : Hint := ⟨[(0, false), (1, false), (2, true), (4, false)], []⟩
def K82_1 : C := .seq (.pl <| .e 4 2 <|
 .m 4 1 <|
 .x 5 (.bin .add (.v 4) (.c (.int .i64 1))) <|
 .m 3 5 .done) (.ret)
@[simp] def W82_1 := C.w K82_1.eq_1
def K82_2 : C := .seq (.pl <| .e 4 3 <|
 .a 4 2 <|
 .g 5 4 2 0 <|
 .x 6 (.lenV (.v 5)) <|
 .m 3 6 .done) (.ret)
@[simp] def W82_2 := C.w K82_2.eq_1
def K82_3 : C := .cond 4 (.v 13) K82_2 (.skip)
@[simp] def W82_3 := C.w K82_3.eq_1
def K82_4 : C := .seq (.seq (.pl <| .e 4 10 <|
 .m 4 1 <|
 .x 5 (.bin .add (.v 4) (.c (.int .i64 1))) <|
 .a 6 2 <|
 .g 7 6 2 0 <|
 .x 8 (.lenV (.v 7)) <|
 .a 9 2 <|
 .g 10 9 2 1 <|
 .x 11 (.lenV (.v 10)) <|
 .x 12 (.bin .add (.v 8) (.v 11)) <|
 .x 13 (.bin .eql (.v 5) (.v 12)) .done) K82_3) K82_1
@[simp] def W82_4 := C.w K82_4.eq_1
def B_impl_Lasso_next : C := .seq (.pl <| .e 4 0 <|
 .o (.pnew 2 (.v 0) []) <|
 .x 3 (.mv (.c (.int .i64 0))) .done) K82_4
@[simp] def WB_impl_Lasso_next := C.w B_impl_Lasso_next.eq_1
def R_impl_Lasso_next : FIR := ⟨B_impl_Lasso_next, 4, [(3, none)]⟩
theorem IR_impl_Lasso_next : cfun Tryz.prog H_impl_Lasso_next Tryz.f82 = some R_impl_Lasso_next := by kernel_rfl
theorem EN_impl_Lasso_next : ENT Tryz.prog B_impl_Lasso_next [(3, none)] 2 4 fn_impl_Lasso_next := fun hargs hw => enter Tryz.func82 rfl IR_impl_Lasso_next hargs hw
def H_impl_Transition_takes : Hint := ⟨[(0, false), (1, false), (2, true), (4, false)], []⟩
def K81_1 : C := .seq (.pl <| .e 4 7 <|
 .m 4 1 <|
 .a 5 2 <|
 .g 6 5 2 1 <|
 .x 7 (.bin .and (.v 4) (.v 6)) <|
 .a 8 2 <|
 .g 9 8 2 2 <|
 .x 10 (.bin .eql (.v 7) (.v 9)) <|
 .m 3 10 .done) (.ret)
@[simp] def W81_1 := C.w K81_1.eq_1
def B_impl_Transition_takes : C := .seq (.pl <| .e 4 0 <|
 .o (.pnew 2 (.v 0) []) <|
 .x 3 (.mv (.c (.bool false))) .done) K81_1
@[simp] def WB_impl_Transition_takes := C.w B_impl_Transition_takes.eq_1
def R_impl_Transition_takes : FIR := ⟨B_impl_Transition_takes, 4, [(3, none)]⟩
theorem IR_impl_Transition_takes : cfun Tryz.prog H_impl_Transition_takes Tryz.f81 = some R_impl_Transition_takes := by kernel_rfl
theorem EN_impl_Transition_takes : ENT Tryz.prog B_impl_Transition_takes [(3, none)] 2 4 fn_impl_Transition_takes := fun hargs hw => enter Tryz.func81 rfl IR_impl_Transition_takes hargs hw
def H_impl_clone_int : Hint := ⟨[(0, false), (2, false)], []⟩
def K78_1 : Pl := .m 1 4 .done
@[simp] def W78_1 := Pl.w K78_1.eq_1
def K78_2 : Pl := .c 4 (.call fn_slices_Clip_S_int_int [.v 3]) K78_1
@[simp] def W78_2 := Pl.w K78_2.eq_1
def K78_3 : C := .seq (.pl <| .e 2 3 <|
 .m 2 0 <|
 .c 3 (.call fn_slices_Clone_S_int_int [.v 2]) K78_2) (.ret)
@[simp] def W78_3 := C.w K78_3.eq_1
def B_impl_clone_int : C := .seq (.pl <| .e 2 0 <|
 .x 1 (.mv (.c (.slice none 0 0))) .done) K78_3
@[simp] def WB_impl_clone_int := C.w B_impl_clone_int.eq_1
def R_impl_clone_int : FIR := ⟨B_impl_clone_int, 2, [(1, none)]⟩
theorem IR_impl_clone_int : cfun Tryz.prog H_impl_clone_int Tryz.f78 = some R_impl_clone_int := by kernel_rfl
theorem EN_impl_clone_int : ENT Tryz.prog B_impl_clone_int [(1, none)] 1 2 fn_impl_clone_int := fun hargs hw => enter Tryz.func78 rfl IR_impl_clone_int hargs hw
def H_impl_components : Hint := ⟨[(0, false), (1, false), (2, false), (3, false), (4, false), (5, false), (6, false), (7, false), (8, false), (9, false), (10, false), (11, false), (12, false), (13, false), (14, false), (15, false), (17, false), (27, false), (28, false), (36, false), (37, false), (50, false), (51, false), (52, false)], [[0, 2, 7, 8, 9, 10, 11, 12, 13, 14, 15, 16, 19, 20, 21, 22, 23], [0, 1, 2, 3, 5, 7, 8, 9, 10, 12, 13, 14, 15, 16, 17, 18, 21, 22, 23], [0, 1, 2, 3, 4, 5, 7, 8, 9, 10, 11, 12, 14, 15, 16, 17, 18, 19, 20]]⟩
def K117_1 : C := .seq (.pl <| .e 24 1 <|
 .l 24 6 <|
 .m 2 24 .done) (.ret)
@[simp] def W117_1 := C.w K117_1.eq_1
def K117_2 : C := .pl <| .e 24 1 <|
 .x 24 (.bin .add (.v 23) (.c (.int .i64 1))) <|
 .m 23 24 .done
@[simp] def W117_2 := C.w K117_2.eq_1
def K117_3 : Pl := .x 29 (.ia 1 (.v 24) (.v 25)) <|
 .o (.ex none (.store 1 (.v 29) (.v 28))) .done
@[simp] def W117_3 := Pl.w K117_3.eq_1
def K117_4 : C := .pl <| .e 24 6 <|
 .l 24 6 <|
 .m 25 14 <|
 .m 26 13 <|
 .m 27 15 <|
 .c 28 (.mget (.one .i) (.int .i64 0) false (.v 26) (.v 27)) K117_3
@[simp] def W117_4 := C.w K117_4.eq_1
def K117_5 : Pl := .o (.ex none (.mput (.one .i) (.v 24) (.v 25) (.v 27))) .done
@[simp] def W117_5 := Pl.w K117_5.eq_1
def K117_6 : C := .pl <| .e 24 4 <|
 .m 24 13 <|
 .m 25 15 <|
 .m 26 13 <|
 .c 27 (.mlen (.v 26)) K117_5
@[simp] def W117_6 := C.w K117_6.eq_1
def K117_7 : C := .cond 24 (.v 25) K117_6 (.skip)
@[simp] def W117_7 := C.w K117_7.eq_1
def K117_8 : C := .seq (.pl <| .e 24 2 <|
 .m 24 16 <|
 .x 25 (.un .not (.v 24)) .done) K117_7
@[simp] def W117_8 := C.w K117_8.eq_1
def K117_9 : Pl := .m 27 26 <|
 .x 28 (.extract 0 (.v 27)) <|
 .x 29 (.extract 1 (.v 27)) <|
 .m 30 28 <|
 .m 16 29 .done
@[simp] def W117_9 := Pl.w K117_9.eq_1
def K117_10 : C := .seq (.seq (.pl <| .e 24 7 <|
 .m 24 13 <|
 .m 25 15 <|
 .c 26 (.mget (.one .i) (.int .i64 0) true (.v 24) (.v 25)) K117_9) K117_8) K117_4
@[simp] def W117_10 := C.w K117_10.eq_1
def K117_11 : C := .seq (.block 5 (.seq (.pl <| .e 24 3 <|
 .m 24 23 <|
 .x 25 (.ia 1 (.v 21) (.v 23)) <|
 .l 26 25 <|
 .m 14 24 <|
 .m 15 26 .done) K117_10)) K117_2
@[simp] def W117_11 := C.w K117_11.eq_1
def K117_12 : C := .seq (.cond 24 (.v 24) (.skip) (.exit 4)) K117_11
@[simp] def W117_12 := C.w K117_12.eq_1
def K117_13 : C := .seq (.pl <| .e 24 1 <|
 .x 24 (.bin .lss (.v 23) (.v 22)) .done) K117_12
@[simp] def W117_13 := C.w K117_13.eq_1
def K117_14 : C := .block 4 (.loop 24 [0, 1, 2, 3, 4, 5, 7, 8, 9, 10, 11, 12, 14, 15, 16, 17, 18, 19, 20] K117_13)
@[simp] def W117_14 := C.w K117_14.eq_1
def K117_15 : C := .seq (.seq (.pl <| .e 24 0 <|
 .l 21 6 <|
 .x 22 (.lenV (.v 21)) <|
 .x 23 (.mv (.c (.int .i64 0))) .done) K117_14) K117_1
@[simp] def W117_15 := C.w K117_15.eq_1
def K117_16 : Pl := .m 13 24 .done
@[simp] def W117_16 := Pl.w K117_16.eq_1
def K117_17 : C := .seq (.pl <| .e 24 1 <|
 .c 24 (.mkm) K117_16) K117_15
@[simp] def W117_17 := C.w K117_17.eq_1
def K117_18 : C := .pl <| .e 24 1 <|
 .x 24 (.bin .add (.v 20) (.c (.int .i64 1))) <|
 .m 20 24 .done
@[simp] def W117_18 := C.w K117_18.eq_1
def K117_19 : C := .pl <| .e 24 3 <|
 .l 24 11 <|
 .m 25 12 <|
 .c 26 (.callv (.v 24) [.v 25]) .done
@[simp] def W117_19 := C.w K117_19.eq_1
def K117_20 : C := .cond 24 (.v 28) K117_19 (.skip)
@[simp] def W117_20 := C.w K117_20.eq_1
def K117_21 : C := .seq (.pl <| .e 24 5 <|
 .l 24 4 <|
 .m 25 12 <|
 .x 26 (.ia 1 (.v 24) (.v 25)) <|
 .l 27 26 <|
 .x 28 (.bin .eql (.v 27) (.c (.int .i64 0))) .done) K117_20
@[simp] def W117_21 := C.w K117_21.eq_1
def K117_22 : C := .seq (.block 3 (.seq (.pl <| .e 24 1 <|
 .m 24 20 <|
 .m 12 24 .done) K117_21)) K117_18
@[simp] def W117_22 := C.w K117_22.eq_1
def K117_23 : C := .seq (.cond 24 (.v 24) (.skip) (.exit 2)) K117_22
@[simp] def W117_23 := C.w K117_23.eq_1
def K117_24 : C := .seq (.pl <| .e 24 1 <|
 .x 24 (.bin .lss (.v 20) (.v 19)) .done) K117_23
@[simp] def W117_24 := C.w K117_24.eq_1
def K117_25 : C := .block 2 (.loop 24 [0, 1, 2, 3, 5, 7, 8, 9, 10, 12, 13, 14, 15, 16, 17, 18, 21, 22, 23] K117_24)
@[simp] def W117_25 := C.w K117_25.eq_1
def K117_26 : C := .seq (.seq (.pl <| .e 24 0 <|
 .m 19 3 <|
 .x 20 (.mv (.c (.int .i64 0))) .done) K117_25) K117_17
@[simp] def W117_26 := C.w K117_26.eq_1
def K117_27 : C := .seq (.pl <| .e 24 1 <|
 .x 24 (.mkf (.func fn_impl_components_1) [] [.v 9, .v 4, .v 5, .v 8, .v 1, .v 11, .v 6, .v 10]) <|
 .o (.ex none (.store 1 (.v 11) (.v 24))) .done) K117_26
@[simp] def W117_27 := C.w K117_27.eq_1
def K117_28 : C := .seq (.pl <| .e 24 0 <|
 .c 11 (.alloc (.c (.nilFunc))) .done) K117_27
@[simp] def W117_28 := C.w K117_28.eq_1
def K117_29 : Pl := .o (.ex none (.store 1 (.v 10) (.c (.int .i64 0)))) .done
@[simp] def W117_29 := Pl.w K117_29.eq_1
def K117_30 : Pl := .o (.ex none (.store 1 (.v 9) (.c (.int .i64 0)))) K117_29
@[simp] def W117_30 := Pl.w K117_30.eq_1
def K117_31 : Pl := .c 10 (.alloc (.c (.int .i64 0))) K117_30
@[simp] def W117_31 := Pl.w K117_31.eq_1
def K117_32 : C := .seq (.pl <| .e 24 0 <|
 .c 9 (.alloc (.c (.int .i64 0))) K117_31) K117_28
@[simp] def W117_32 := C.w K117_32.eq_1
def K117_33 : C := .seq (.pl <| .e 24 0 <|
 .c 8 (.alloc (.c (.slice none 0 0))) .done) K117_32
@[simp] def W117_33 := C.w K117_33.eq_1
def K117_34 : C := .pl <| .e 24 1 <|
 .x 24 (.bin .add (.v 18) (.c (.int .i64 1))) <|
 .m 18 24 .done
@[simp] def W117_34 := C.w K117_34.eq_1
def K117_35 : C := .pl <| .e 24 3 <|
 .l 24 6 <|
 .m 25 7 <|
 .x 26 (.ia 1 (.v 24) (.v 25)) <|
 .o (.ex none (.store 1 (.v 26) (.c (.int .i64 (-1))))) .done
@[simp] def W117_35 := C.w K117_35.eq_1
def K117_36 : C := .seq (.block 1 (.seq (.pl <| .e 24 1 <|
 .m 24 18 <|
 .m 7 24 .done) K117_35)) K117_34
@[simp] def W117_36 := C.w K117_36.eq_1
def K117_37 : C := .seq (.cond 24 (.v 24) (.skip) (.exit 0)) K117_36
@[simp] def W117_37 := C.w K117_37.eq_1
def K117_38 : C := .seq (.pl <| .e 24 1 <|
 .x 24 (.bin .lss (.v 18) (.v 17)) .done) K117_37
@[simp] def W117_38 := C.w K117_38.eq_1
def K117_39 : C := .block 0 (.loop 24 [0, 2, 7, 8, 9, 10, 11, 12, 13, 14, 15, 16, 19, 20, 21, 22, 23] K117_38)
@[simp] def W117_39 := C.w K117_39.eq_1
def K117_40 : C := .seq (.seq (.pl <| .e 24 1 <|
 .l 24 6 <|
 .x 17 (.lenV (.v 24)) <|
 .x 18 (.mv (.c (.int .i64 0))) .done) K117_39) K117_33
@[simp] def W117_40 := C.w K117_40.eq_1
def K117_41 : Pl := .o (.ex none (.store 1 (.v 6) (.v 29))) .done
@[simp] def W117_41 := Pl.w K117_41.eq_1
def K117_42 : Pl := .o (.ex none (.store 1 (.v 5) (.v 27))) K117_41
@[simp] def W117_42 := Pl.w K117_42.eq_1
def K117_43 : Pl := .o (.ex none (.store 1 (.v 4) (.v 25))) K117_42
@[simp] def W117_43 := Pl.w K117_43.eq_1
def K117_44 : Pl := .c 6 (.alloc (.c (.slice none 0 0))) K117_43
@[simp] def W117_44 := Pl.w K117_44.eq_1
def K117_45 : Pl := .c 5 (.alloc (.c (.slice none 0 0))) K117_44
@[simp] def W117_45 := Pl.w K117_45.eq_1
def K117_46 : Pl := .c 4 (.alloc (.c (.slice none 0 0))) K117_45
@[simp] def W117_46 := Pl.w K117_46.eq_1
def K117_47 : Pl := .m 28 3 <|
 .c 29 (.mks 8 1 [.int .i64 0] (.v 28) (.v 28)) K117_46
@[simp] def W117_47 := Pl.w K117_47.eq_1
def K117_48 : Pl := .m 26 3 <|
 .c 27 (.mks 8 1 [.int .i64 0] (.v 26) (.v 26)) K117_47
@[simp] def W117_48 := Pl.w K117_48.eq_1
def K117_49 : C := .seq (.pl <| .e 24 6 <|
 .m 24 3 <|
 .c 25 (.mks 8 1 [.int .i64 0] (.v 24) (.v 24)) K117_48) K117_40
@[simp] def W117_49 := C.w K117_49.eq_1
def K117_50 : C := .seq (.pl <| .e 24 2 <|
 .l 24 1 <|
 .x 25 (.lenV (.v 24)) <|
 .m 3 25 .done) K117_49
@[simp] def W117_50 := C.w K117_50.eq_1
def K117_51 : Pl := .x 2 (.mv (.c (.slice none 0 0))) .done
@[simp] def W117_51 := Pl.w K117_51.eq_1
def B_impl_components : C := .seq (.pl <| .e 24 0 <|
 .c 1 (.alloc (.v 0)) K117_51) K117_50
@[simp] def WB_impl_components := C.w B_impl_components.eq_1
def R_impl_components : FIR := ⟨B_impl_components, 24, [(2, none)]⟩
theorem IR_impl_components : cfun Tryz.prog H_impl_components Tryz.f117 = some R_impl_components := by kernel_rfl
theorem EN_impl_components : ENT Tryz.prog B_impl_components [(2, none)] 1 24 fn_impl_components := fun hargs hw => enter Tryz.func117 rfl IR_impl_components hargs hw
def H_impl_components_1 : Hint := ⟨[(0, false), (1, false), (2, false), (3, false), (4, false), (5, false), (6, false), (7, false), (8, false), (11, false), (12, false), (30, false), (31, false), (32, false)], [[1, 5, 9, 10], [1, 2, 3, 5, 6, 9, 11, 12, 13]]⟩
def K143_1 : C := .pl <| .e 14 2 <|
 .l 14 8 <|
 .x 15 (.bin .add (.v 14) (.c (.int .i64 1))) <|
 .o (.ex none (.store 1 (.v 8) (.v 15))) .done
@[simp] def W143_1 := C.w K143_1.eq_1
def K143_2 : C := .pl <| .e 14 4 <|
 .l 14 7 <|
 .m 15 10 <|
 .l 16 8 <|
 .x 17 (.ia 1 (.v 14) (.v 15)) <|
 .o (.ex none (.store 1 (.v 17) (.v 16))) .done
@[simp] def W143_2 := C.w K143_2.eq_1
def K143_3 : C := .seq (.pl <| .e 14 5 <|
 .l 14 4 <|
 .l 15 4 <|
 .x 16 (.lenV (.v 15)) <|
 .x 17 (.bin .sub (.v 16) (.c (.int .i64 1))) <|
 .x 18 (.sliceV 1 (.v 14) none (some (.v 17)) none) <|
 .o (.ex none (.store 1 (.v 4) (.v 18))) .done) K143_2
@[simp] def W143_3 := C.w K143_3.eq_1
def K143_4 : C := .block 4 (.seq (.pl <| .e 14 6 <|
 .l 14 4 <|
 .l 15 4 <|
 .x 16 (.lenV (.v 15)) <|
 .x 17 (.bin .sub (.v 16) (.c (.int .i64 1))) <|
 .x 18 (.ia 1 (.v 14) (.v 17)) <|
 .l 19 18 <|
 .m 10 19 .done) K143_3)
@[simp] def W143_4 := C.w K143_4.eq_1
def K143_5 : C := .cond 14 (.v 16) (.skip) (.exit 3)
@[simp] def W143_5 := C.w K143_5.eq_1
def K143_6 : C := .seq (.seq (.pl <| .e 14 3 <|
 .m 14 10 <|
 .m 15 0 <|
 .x 16 (.bin .neq (.v 14) (.v 15)) .done) K143_5) K143_4
@[simp] def W143_6 := C.w K143_6.eq_1
def K143_7 : C := .block 3 (.loop 14 [1, 2, 3, 5, 6, 9, 11, 12, 13] K143_6)
@[simp] def W143_7 := C.w K143_7.eq_1
def K143_8 : C := .seq (.seq (.pl <| .e 14 0 <|
 .x 10 (.mv (.c (.int .i64 (-1)))) .done) K143_7) K143_1
@[simp] def W143_8 := C.w K143_8.eq_1
def K143_9 : C := .cond 14 (.v 22) K143_8 (.skip)
@[simp] def W143_9 := C.w K143_9.eq_1
def K143_10 : C := .seq (.pl <| .e 14 9 <|
 .l 14 3 <|
 .m 15 0 <|
 .x 16 (.ia 1 (.v 14) (.v 15)) <|
 .l 17 16 <|
 .l 18 2 <|
 .m 19 0 <|
 .x 20 (.ia 1 (.v 18) (.v 19)) <|
 .l 21 20 <|
 .x 22 (.bin .eql (.v 17) (.v 21)) .done) K143_9
@[simp] def W143_10 := C.w K143_10.eq_1
def K143_11 : C := .pl <| .e 14 1 <|
 .x 14 (.bin .add (.v 13) (.c (.int .i64 1))) <|
 .m 13 14 .done
@[simp] def W143_11 := C.w K143_11.eq_1
def K143_12 : C := .pl <| .e 14 12 <|
 .l 14 3 <|
 .m 15 0 <|
 .l 16 3 <|
 .m 17 0 <|
 .x 18 (.ia 1 (.v 16) (.v 17)) <|
 .l 19 18 <|
 .l 20 3 <|
 .m 21 9 <|
 .x 22 (.ia 1 (.v 20) (.v 21)) <|
 .l 23 22 <|
 .x 24 (.minI (.v 19) (.v 23)) <|
 .x 25 (.ia 1 (.v 14) (.v 15)) <|
 .o (.ex none (.store 1 (.v 25) (.v 24))) .done
@[simp] def W143_12 := C.w K143_12.eq_1
def K143_13 : C := .seq (.pl <| .e 14 3 <|
 .l 14 6 <|
 .m 15 9 <|
 .c 16 (.callv (.v 14) [.v 15]) .done) K143_12
@[simp] def W143_13 := C.w K143_13.eq_1
def K143_14 : C := .pl <| .e 14 12 <|
 .l 14 3 <|
 .m 15 0 <|
 .l 16 3 <|
 .m 17 0 <|
 .x 18 (.ia 1 (.v 16) (.v 17)) <|
 .l 19 18 <|
 .l 20 2 <|
 .m 21 9 <|
 .x 22 (.ia 1 (.v 20) (.v 21)) <|
 .l 23 22 <|
 .x 24 (.minI (.v 19) (.v 23)) <|
 .x 25 (.ia 1 (.v 14) (.v 15)) <|
 .o (.ex none (.store 1 (.v 25) (.v 24))) .done
@[simp] def W143_14 := C.w K143_14.eq_1
def K143_15 : C := .cond 14 (.v 19) K143_14 (.skip)
@[simp] def W143_15 := C.w K143_15.eq_1
def K143_16 : C := .seq (.pl <| .e 14 6 <|
 .l 14 7 <|
 .m 15 9 <|
 .x 16 (.ia 1 (.v 14) (.v 15)) <|
 .l 17 16 <|
 .x 18 (.bin .lss (.v 17) (.c (.int .i64 0))) <|
 .m 19 18 .done) K143_15
@[simp] def W143_16 := C.w K143_16.eq_1
def K143_17 : C := .cond 14 (.v 19) K143_13 K143_16
@[simp] def W143_17 := C.w K143_17.eq_1
def K143_18 : C := .block 2 (.seq (.pl <| .e 14 6 <|
 .l 14 2 <|
 .m 15 9 <|
 .x 16 (.ia 1 (.v 14) (.v 15)) <|
 .l 17 16 <|
 .x 18 (.bin .eql (.v 17) (.c (.int .i64 0))) <|
 .m 19 18 .done) K143_17)
@[simp] def W143_18 := C.w K143_18.eq_1
def K143_19 : C := .seq (.block 1 (.seq (.pl <| .e 14 2 <|
 .x 14 (.ia 1 (.v 11) (.v 13)) <|
 .l 15 14 <|
 .m 9 15 .done) K143_18)) K143_11
@[simp] def W143_19 := C.w K143_19.eq_1
def K143_20 : C := .seq (.cond 14 (.v 14) (.skip) (.exit 0)) K143_19
@[simp] def W143_20 := C.w K143_20.eq_1
def K143_21 : C := .seq (.pl <| .e 14 1 <|
 .x 14 (.bin .lss (.v 13) (.v 12)) .done) K143_20
@[simp] def W143_21 := C.w K143_21.eq_1
def K143_22 : C := .block 0 (.loop 14 [1, 5, 9, 10] K143_21)
@[simp] def W143_22 := C.w K143_22.eq_1
def K143_23 : C := .seq (.seq (.pl <| .e 14 3 <|
 .l 14 5 <|
 .m 15 0 <|
 .x 16 (.ia 1 (.v 14) (.v 15)) <|
 .l 11 16 <|
 .x 12 (.lenV (.v 11)) <|
 .x 13 (.mv (.c (.int .i64 0))) .done) K143_22) K143_10
@[simp] def W143_23 := C.w K143_23.eq_1
def K143_24 : Pl := .o (.ex none (.store 1 (.v 4) (.v 17))) .done
@[simp] def W143_24 := Pl.w K143_24.eq_1
def K143_25 : C := .seq (.pl <| .e 14 4 <|
 .l 14 4 <|
 .m 15 0 <|
 .o (.psl 16 [.int .i64 0] [(0, 1, .v 15)]) <|
 .c 17 (.app 8 1 [.int .i64 0] (.o (.v 14)) (.p 1 16)) K143_24) K143_23
@[simp] def W143_25 := C.w K143_25.eq_1
def K143_26 : Pl := .st (.re 16 (.v 3) none none) <|
 .st (.re 19 (.v 1) none none) <|
 .x 21 (.ia 1 (.v 16) (.v 17)) <|
 .o (.ex none (.store 1 (.v 21) (.v 19))) .done
@[simp] def W143_26 := Pl.w K143_26.eq_1
def K143_27 : C := .seq (.pl <| .e 14 8 <|
 .l 14 2 <|
 .m 15 0 <|
 .l 16 3 <|
 .m 17 0 <|
 .l 18 1 <|
 .l 19 1 <|
 .x 20 (.ia 1 (.v 14) (.v 15)) <|
 .o (.ex none (.store 1 (.v 20) (.v 18))) K143_26) K143_25
@[simp] def W143_27 := C.w K143_27.eq_1
def B_impl_components_1 : C := .seq (.pl <| .e 14 2 <|
 .l 14 1 <|
 .x 15 (.bin .add (.v 14) (.c (.int .i64 1))) <|
 .o (.ex none (.store 1 (.v 1) (.v 15))) .done) K143_27
@[simp] def WB_impl_components_1 := C.w B_impl_components_1.eq_1
def R_impl_components_1 : FIR := ⟨B_impl_components_1, 14, []⟩
theorem IR_impl_components_1 : cfun Tryz.prog H_impl_components_1 Tryz.f143 = some R_impl_components_1 := by kernel_rfl
theorem EN_impl_components_1 : ENT Tryz.prog B_impl_components_1 [] 9 14 fn_impl_components_1 := fun hargs hw => enter Tryz.func143 rfl IR_impl_components_1 hargs hw
def H_impl_cyclic : Hint := ⟨[(0, false), (2, false), (3, false), (4, false), (6, false), (7, false), (8, false), (14, false), (15, false), (16, false), (31, false), (32, false)], [[1, 4, 5, 6, 10, 11], [1, 4, 6, 7, 8, 9]]⟩
def K73_1 : C := .seq (.pl <| .e 12 1 <|
 .m 12 5 <|
 .m 1 12 .done) (.ret)
@[simp] def W73_1 := C.w K73_1.eq_1
def K73_2 : C := .pl <| .e 12 1 <|
 .x 12 (.bin .add (.v 11) (.c (.int .i64 1))) <|
 .m 11 12 .done
@[simp] def W73_2 := C.w K73_2.eq_1
def K73_3 : Pl := .x 29 (.pick (.v 22) (.c (.bool true)) (.v 28)) <|
 .x 30 (.ia 1 (.v 12) (.v 13)) <|
 .o (.ex none (.store 1 (.v 30) (.v 29))) .done
@[simp] def W73_3 := Pl.w K73_3.eq_1
def K73_4 : C := .pl <| .e 12 19 <|
 .m 12 5 <|
 .m 13 6 <|
 .m 14 3 <|
 .m 15 2 <|
 .m 16 6 <|
 .x 17 (.ia 1 (.v 15) (.v 16)) <|
 .l 18 17 <|
 .x 19 (.ia 1 (.v 14) (.v 18)) <|
 .l 20 19 <|
 .x 21 (.bin .gtr (.v 20) (.c (.int .i64 1))) <|
 .m 22 21 <|
 .n 22 (.px (some 23) (.mv (.v 0))) <|
 .n 22 (.px (some 24) (.mv (.v 6))) <|
 .n 22 (.px (some 25) (.ia 1 (.v 23) (.v 24))) <|
 .n 22 (.ld (some 26) (.v 25) none) <|
 .n 22 (.px (some 27) (.mv (.v 6))) <|
 .st (.act (some (.v 22, false)) (.ex (some 28) (.call fn_slices_Contains_S_int_int [.v 26, .v 27]))) K73_3
@[simp] def W73_4 := C.w K73_4.eq_1
def K73_5 : C := .seq (.block 3 (.seq (.pl <| .e 12 1 <|
 .m 12 11 <|
 .m 6 12 .done) K73_4)) K73_2
@[simp] def W73_5 := C.w K73_5.eq_1
def K73_6 : C := .seq (.cond 12 (.v 12) (.skip) (.exit 2)) K73_5
@[simp] def W73_6 := C.w K73_6.eq_1
def K73_7 : C := .seq (.pl <| .e 12 1 <|
 .x 12 (.bin .lss (.v 11) (.v 10)) .done) K73_6
@[simp] def W73_7 := C.w K73_7.eq_1
def K73_8 : C := .block 2 (.loop 12 [1, 4, 6, 7, 8, 9] K73_7)
@[simp] def W73_8 := C.w K73_8.eq_1
def K73_9 : C := .seq (.seq (.pl <| .e 12 1 <|
 .m 12 0 <|
 .x 10 (.lenV (.v 12)) <|
 .x 11 (.mv (.c (.int .i64 0))) .done) K73_8) K73_1
@[simp] def W73_9 := C.w K73_9.eq_1
def K73_10 : Pl := .m 5 14 .done
@[simp] def W73_10 := Pl.w K73_10.eq_1
def K73_11 : C := .seq (.pl <| .e 12 3 <|
 .m 12 0 <|
 .x 13 (.lenV (.v 12)) <|
 .c 14 (.mks 1 1 [.bool false] (.v 13) (.v 13)) K73_10) K73_9
@[simp] def W73_11 := C.w K73_11.eq_1
def K73_12 : C := .pl <| .e 12 1 <|
 .x 12 (.bin .add (.v 9) (.c (.int .i64 1))) <|
 .m 9 12 .done
@[simp] def W73_12 := C.w K73_12.eq_1
def K73_13 : C := .pl <| .e 12 6 <|
 .m 12 3 <|
 .m 13 4 <|
 .x 14 (.ia 1 (.v 12) (.v 13)) <|
 .l 15 14 <|
 .x 16 (.bin .add (.v 15) (.c (.int .i64 1))) <|
 .x 17 (.ia 1 (.v 12) (.v 13)) <|
 .o (.ex none (.store 1 (.v 17) (.v 16))) .done
@[simp] def W73_13 := C.w K73_13.eq_1
def K73_14 : C := .seq (.block 1 (.seq (.pl <| .e 12 2 <|
 .x 12 (.ia 1 (.v 7) (.v 9)) <|
 .l 13 12 <|
 .m 4 13 .done) K73_13)) K73_12
@[simp] def W73_14 := C.w K73_14.eq_1
def K73_15 : C := .seq (.cond 12 (.v 12) (.skip) (.exit 0)) K73_14
@[simp] def W73_15 := C.w K73_15.eq_1
def K73_16 : C := .seq (.pl <| .e 12 1 <|
 .x 12 (.bin .lss (.v 9) (.v 8)) .done) K73_15
@[simp] def W73_16 := C.w K73_16.eq_1
def K73_17 : C := .block 0 (.loop 12 [1, 4, 5, 6, 10, 11] K73_16)
@[simp] def W73_17 := C.w K73_17.eq_1
def K73_18 : C := .seq (.seq (.pl <| .e 12 0 <|
 .m 7 2 <|
 .x 8 (.lenV (.v 7)) <|
 .x 9 (.mv (.c (.int .i64 0))) .done) K73_17) K73_11
@[simp] def W73_18 := C.w K73_18.eq_1
def K73_19 : Pl := .m 3 14 .done
@[simp] def W73_19 := Pl.w K73_19.eq_1
def K73_20 : C := .seq (.pl <| .e 12 3 <|
 .m 12 0 <|
 .x 13 (.lenV (.v 12)) <|
 .c 14 (.mks 8 1 [.int .i64 0] (.v 13) (.v 13)) K73_19) K73_18
@[simp] def W73_20 := C.w K73_20.eq_1
def K73_21 : Pl := .m 2 13 .done
@[simp] def W73_21 := Pl.w K73_21.eq_1
def K73_22 : C := .seq (.pl <| .e 12 2 <|
 .m 12 0 <|
 .c 13 (.call fn_impl_components [.v 12]) K73_21) K73_20
@[simp] def W73_22 := C.w K73_22.eq_1
def B_impl_cyclic : C := .seq (.pl <| .e 12 0 <|
 .x 1 (.mv (.c (.slice none 0 0))) .done) K73_22
@[simp] def WB_impl_cyclic := C.w B_impl_cyclic.eq_1
def R_impl_cyclic : FIR := ⟨B_impl_cyclic, 12, [(1, none)]⟩
theorem IR_impl_cyclic : cfun Tryz.prog H_impl_cyclic Tryz.f73 = some R_impl_cyclic := by kernel_rfl
theorem EN_impl_cyclic : ENT Tryz.prog B_impl_cyclic [(1, none)] 1 12 fn_impl_cyclic := fun hargs hw => enter Tryz.func73 rfl IR_impl_cyclic hargs hw
def H_impl_in : Hint := ⟨[(0, false), (1, false), (2, false), (6, false)], []⟩
def K50_1 : C := .seq (.pl <| .e 4 8 <|
 .m 4 0 <|
 .m 5 1 <|
 .x 6 (.bin .geq (.v 4) (.v 5)) <|
 .m 7 6 <|
 .y 7 (.px (some 8) (.mv (.v 0))) <|
 .y 7 (.px (some 9) (.mv (.v 2))) <|
 .y 7 (.px (some 10) (.bin .leq (.v 8) (.v 9))) <|
 .x 11 (.pick (.v 7) (.v 10) (.c (.bool false))) <|
 .m 3 11 .done) (.ret)
@[simp] def W50_1 := C.w K50_1.eq_1
def B_impl_in : C := .seq (.pl <| .e 4 0 <|
 .x 3 (.mv (.c (.bool false))) .done) K50_1
@[simp] def WB_impl_in := C.w B_impl_in.eq_1
def R_impl_in : FIR := ⟨B_impl_in, 4, [(3, none)]⟩
theorem IR_impl_in : cfun Tryz.prog H_impl_in Tryz.f50 = some R_impl_in := by kernel_rfl
theorem EN_impl_in : ENT Tryz.prog B_impl_in [(3, none)] 3 4 fn_impl_in := fun hargs hw => enter Tryz.func50 rfl IR_impl_in hargs hw
def H_impl_letters : Hint := ⟨[(0, false), (2, false)], []⟩
def K63_1 : Pl := .x 4 (.un .not (.v 3)) <|
 .m 1 4 .done
@[simp] def W63_1 := Pl.w K63_1.eq_1
def K63_2 : C := .seq (.pl <| .e 2 3 <|
 .m 2 0 <|
 .c 3 (.call fn_slices_ContainsFunc_S_int_int [.v 2, .c (.func (.func 113) #[] #[])]) K63_1) (.ret)
@[simp] def W63_2 := C.w K63_2.eq_1
def B_impl_letters : C := .seq (.pl <| .e 2 0 <|
 .x 1 (.mv (.c (.bool false))) .done) K63_2
@[simp] def WB_impl_letters := C.w B_impl_letters.eq_1
def R_impl_letters : FIR := ⟨B_impl_letters, 2, [(1, none)]⟩
theorem IR_impl_letters : cfun Tryz.prog H_impl_letters Tryz.f63 = some R_impl_letters := by kernel_rfl
theorem EN_impl_letters : ENT Tryz.prog B_impl_letters [(1, none)] 1 2 fn_impl_letters := fun hargs hw => enter Tryz.func63 rfl IR_impl_letters hargs hw
def H_impl_letters_1 : Hint := ⟨[(0, false), (2, false)], []⟩
def K113_1 : Pl := .x 4 (.un .not (.v 3)) <|
 .m 1 4 .done
@[simp] def W113_1 := Pl.w K113_1.eq_1
def K113_2 : C := .seq (.pl <| .e 2 3 <|
 .m 2 0 <|
 .c 3 (.call fn_impl_in [.v 2, .c (.int .i64 0), .c (.int .i64 7)]) K113_1) (.ret)
@[simp] def W113_2 := C.w K113_2.eq_1
def B_impl_letters_1 : C := .seq (.pl <| .e 2 0 <|
 .x 1 (.mv (.c (.bool false))) .done) K113_2
@[simp] def WB_impl_letters_1 := C.w B_impl_letters_1.eq_1
def R_impl_letters_1 : FIR := ⟨B_impl_letters_1, 2, [(1, none)]⟩
theorem IR_impl_letters_1 : cfun Tryz.prog H_impl_letters_1 Tryz.f113 = some R_impl_letters_1 := by kernel_rfl
theorem EN_impl_letters_1 : ENT Tryz.prog B_impl_letters_1 [(1, none)] 1 2 fn_impl_letters_1 := fun hargs hw => enter Tryz.func113 rfl IR_impl_letters_1 hargs hw
def H_impl_reachable : Hint := ⟨[(0, false), (1, false), (4, false), (5, false), (6, false), (8, false), (9, false), (11, false), (17, false), (18, false), (19, false), (44, false), (45, false), (46, false)], [[1, 2, 5, 6, 7, 11, 12, 13], [1, 2, 5, 6, 7, 8, 9, 10, 11, 12, 13], [1, 2, 5, 6, 7, 8, 9, 10]]⟩
def K74_1 : C := .seq (.pl <| .e 14 1 <|
 .m 14 3 <|
 .m 2 14 .done) (.ret)
@[simp] def W74_1 := C.w K74_1.eq_1
def K74_2 : C := .pl <| .e 14 1 <|
 .x 14 (.bin .add (.v 13) (.c (.int .i64 1))) <|
 .m 13 14 .done
@[simp] def W74_2 := C.w K74_2.eq_1
def K74_3 : Pl := .m 4 17 .done
@[simp] def W74_3 := Pl.w K74_3.eq_1
def K74_4 : C := .pl <| .e 14 4 <|
 .m 14 4 <|
 .m 15 7 <|
 .o (.psl 16 [.int .i64 0] [(0, 1, .v 15)]) <|
 .c 17 (.app 8 1 [.int .i64 0] (.o (.v 14)) (.p 1 16)) K74_3
@[simp] def W74_4 := C.w K74_4.eq_1
def K74_5 : C := .seq (.pl <| .e 14 3 <|
 .m 14 3 <|
 .m 15 7 <|
 .x 16 (.ia 1 (.v 14) (.v 15)) <|
 .o (.ex none (.store 1 (.v 16) (.c (.bool true)))) .done) K74_4
@[simp] def W74_5 := C.w K74_5.eq_1
def K74_6 : C := .cond 14 (.v 18) K74_5 (.skip)
@[simp] def W74_6 := C.w K74_6.eq_1
def K74_7 : C := .seq (.pl <| .e 14 5 <|
 .m 14 3 <|
 .m 15 7 <|
 .x 16 (.ia 1 (.v 14) (.v 15)) <|
 .l 17 16 <|
 .x 18 (.un .not (.v 17)) .done) K74_6
@[simp] def W74_7 := C.w K74_7.eq_1
def K74_8 : C := .seq (.block 5 (.seq (.pl <| .e 14 2 <|
 .x 14 (.ia 1 (.v 11) (.v 13)) <|
 .l 15 14 <|
 .m 7 15 .done) K74_7)) K74_2
@[simp] def W74_8 := C.w K74_8.eq_1
def K74_9 : C := .seq (.cond 14 (.v 14) (.skip) (.exit 4)) K74_8
@[simp] def W74_9 := C.w K74_9.eq_1
def K74_10 : C := .seq (.pl <| .e 14 1 <|
 .x 14 (.bin .lss (.v 13) (.v 12)) .done) K74_9
@[simp] def W74_10 := C.w K74_10.eq_1
def K74_11 : C := .block 4 (.loop 14 [1, 2, 5, 6, 7, 8, 9, 10] K74_10)
@[simp] def W74_11 := C.w K74_11.eq_1
def K74_12 : C := .seq (.pl <| .e 14 3 <|
 .m 14 0 <|
 .m 15 6 <|
 .x 16 (.ia 1 (.v 14) (.v 15)) <|
 .l 11 16 <|
 .x 12 (.lenV (.v 11)) <|
 .x 13 (.mv (.c (.int .i64 0))) .done) K74_11
@[simp] def W74_12 := C.w K74_12.eq_1
def K74_13 : C := .seq (.pl <| .e 14 5 <|
 .m 14 4 <|
 .m 15 4 <|
 .x 16 (.lenV (.v 15)) <|
 .x 17 (.bin .sub (.v 16) (.c (.int .i64 1))) <|
 .x 18 (.sliceV 1 (.v 14) none (some (.v 17)) none) <|
 .m 4 18 .done) K74_12
@[simp] def W74_13 := C.w K74_13.eq_1
def K74_14 : C := .block 3 (.seq (.pl <| .e 14 6 <|
 .m 14 4 <|
 .m 15 4 <|
 .x 16 (.lenV (.v 15)) <|
 .x 17 (.bin .sub (.v 16) (.c (.int .i64 1))) <|
 .x 18 (.ia 1 (.v 14) (.v 17)) <|
 .l 19 18 <|
 .m 6 19 .done) K74_13)
@[simp] def W74_14 := C.w K74_14.eq_1
def K74_15 : C := .cond 14 (.v 16) (.skip) (.exit 2)
@[simp] def W74_15 := C.w K74_15.eq_1
def K74_16 : C := .seq (.seq (.pl <| .e 14 3 <|
 .m 14 4 <|
 .x 15 (.lenV (.v 14)) <|
 .x 16 (.bin .gtr (.v 15) (.c (.int .i64 0))) .done) K74_15) K74_14
@[simp] def W74_16 := C.w K74_16.eq_1
def K74_17 : C := .seq (.block 2 (.loop 14 [1, 2, 5, 6, 7, 8, 9, 10, 11, 12, 13] K74_16)) K74_1
@[simp] def W74_17 := C.w K74_17.eq_1
def K74_18 : C := .pl <| .e 14 1 <|
 .x 14 (.bin .add (.v 10) (.c (.int .i64 1))) <|
 .m 10 14 .done
@[simp] def W74_18 := C.w K74_18.eq_1
def K74_19 : C := .pl <| .e 14 3 <|
 .m 14 3 <|
 .m 15 5 <|
 .x 16 (.ia 1 (.v 14) (.v 15)) <|
 .o (.ex none (.store 1 (.v 16) (.c (.bool true)))) .done
@[simp] def W74_19 := C.w K74_19.eq_1
def K74_20 : C := .seq (.block 1 (.seq (.pl <| .e 14 2 <|
 .x 14 (.ia 1 (.v 8) (.v 10)) <|
 .l 15 14 <|
 .m 5 15 .done) K74_19)) K74_18
@[simp] def W74_20 := C.w K74_20.eq_1
def K74_21 : C := .seq (.cond 14 (.v 14) (.skip) (.exit 0)) K74_20
@[simp] def W74_21 := C.w K74_21.eq_1
def K74_22 : C := .seq (.pl <| .e 14 1 <|
 .x 14 (.bin .lss (.v 10) (.v 9)) .done) K74_21
@[simp] def W74_22 := C.w K74_22.eq_1
def K74_23 : C := .block 0 (.loop 14 [1, 2, 5, 6, 7, 11, 12, 13] K74_22)
@[simp] def W74_23 := C.w K74_23.eq_1
def K74_24 : C := .seq (.seq (.pl <| .e 14 0 <|
 .m 8 1 <|
 .x 9 (.lenV (.v 8)) <|
 .x 10 (.mv (.c (.int .i64 0))) .done) K74_23) K74_17
@[simp] def W74_24 := C.w K74_24.eq_1
def K74_25 : Pl := .m 4 15 .done
@[simp] def W74_25 := Pl.w K74_25.eq_1
def K74_26 : C := .seq (.pl <| .e 14 2 <|
 .m 14 1 <|
 .c 15 (.call fn_impl_clone_int [.v 14]) K74_25) K74_24
@[simp] def W74_26 := C.w K74_26.eq_1
def K74_27 : Pl := .m 3 16 .done
@[simp] def W74_27 := Pl.w K74_27.eq_1
def K74_28 : C := .seq (.pl <| .e 14 3 <|
 .m 14 0 <|
 .x 15 (.lenV (.v 14)) <|
 .c 16 (.mks 1 1 [.bool false] (.v 15) (.v 15)) K74_27) K74_26
@[simp] def W74_28 := C.w K74_28.eq_1
def B_impl_reachable : C := .seq (.pl <| .e 14 0 <|
 .x 2 (.mv (.c (.slice none 0 0))) .done) K74_28
@[simp] def WB_impl_reachable := C.w B_impl_reachable.eq_1
def R_impl_reachable : FIR := ⟨B_impl_reachable, 14, [(2, none)]⟩
theorem IR_impl_reachable : cfun Tryz.prog H_impl_reachable Tryz.f74 = some R_impl_reachable := by kernel_rfl
theorem EN_impl_reachable : ENT Tryz.prog B_impl_reachable [(2, none)] 2 14 fn_impl_reachable := fun hargs hw => enter Tryz.func74 rfl IR_impl_reachable hargs hw
def H_slices_Clip_S_int_int : Hint := ⟨[(0, false), (2, false)], []⟩
def K38_1 : C := .seq (.pl <| .e 2 6 <|
 .m 2 0 <|
 .m 3 0 <|
 .x 4 (.lenV (.v 3)) <|
 .m 5 0 <|
 .x 6 (.lenV (.v 5)) <|
 .x 7 (.sliceV 1 (.v 2) none (some (.v 4)) (some (.v 6))) <|
 .m 1 7 .done) (.ret)
@[simp] def W38_1 := C.w K38_1.eq_1
def B_slices_Clip_S_int_int : C := .seq (.pl <| .e 2 0 <|
 .x 1 (.mv (.c (.slice none 0 0))) .done) K38_1
@[simp] def WB_slices_Clip_S_int_int := C.w B_slices_Clip_S_int_int.eq_1
def R_slices_Clip_S_int_int : FIR := ⟨B_slices_Clip_S_int_int, 2, [(1, none)]⟩
theorem IR_slices_Clip_S_int_int : cfun Tryz.prog H_slices_Clip_S_int_int Tryz.f38 = some R_slices_Clip_S_int_int := by kernel_rfl
theorem EN_slices_Clip_S_int_int : ENT Tryz.prog B_slices_Clip_S_int_int [(1, none)] 1 2 fn_slices_Clip_S_int_int := fun hargs hw => enter Tryz.func38 rfl IR_slices_Clip_S_int_int hargs hw
def H_slices_Clone_S_int_int : Hint := ⟨[(0, false), (2, false)], []⟩
def K124_1 : Pl := .m 1 4 .done
@[simp] def W124_1 := Pl.w K124_1.eq_1
def K124_2 : C := .seq (.pl <| .e 2 3 <|
 .o (.psl 2 [] []) <|
 .m 3 0 <|
 .c 4 (.app 8 1 [.int .i64 0] (.p 0 2) (.o (.v 3))) K124_1) (.ret)
@[simp] def W124_2 := C.w K124_2.eq_1
def K124_3 : C := .seq (.pl <| .e 2 0 <|
 .x 1 (.mv (.c (.slice none 0 0))) .done) (.ret)
@[simp] def W124_3 := C.w K124_3.eq_1
def K124_4 : C := .cond 2 (.v 3) K124_3 (.skip)
@[simp] def W124_4 := C.w K124_4.eq_1
def K124_5 : C := .seq (.seq (.pl <| .e 2 2 <|
 .m 2 0 <|
 .x 3 (.isNil false (.v 2)) .done) K124_4) K124_2
@[simp] def W124_5 := C.w K124_5.eq_1
def B_slices_Clone_S_int_int : C := .seq (.pl <| .e 2 0 <|
 .x 1 (.mv (.c (.slice none 0 0))) .done) K124_5
@[simp] def WB_slices_Clone_S_int_int := C.w B_slices_Clone_S_int_int.eq_1
def R_slices_Clone_S_int_int : FIR := ⟨B_slices_Clone_S_int_int, 2, [(1, none)]⟩
theorem IR_slices_Clone_S_int_int : cfun Tryz.prog H_slices_Clone_S_int_int Tryz.f124 = some R_slices_Clone_S_int_int := by kernel_rfl
theorem EN_slices_Clone_S_int_int : ENT Tryz.prog B_slices_Clone_S_int_int [(1, none)] 1 2 fn_slices_Clone_S_int_int := fun hargs hw => enter Tryz.func124 rfl IR_slices_Clone_S_int_int hargs hw
def H_slices_Concat_S_int_int : Hint := ⟨[(0, false), (2, false), (3, false), (5, false), (6, false), (8, false), (9, false), (10, false), (11, false), (25, false), (26, false), (27, false)], [[1, 3, 4, 5, 9, 10, 11], [0, 1, 2, 3, 5, 6, 7, 8]]⟩
def K39_1 : C := .seq (.pl <| .e 12 1 <|
 .m 12 4 <|
 .m 1 12 .done) (.ret)
@[simp] def W39_1 := C.w K39_1.eq_1
def K39_2 : C := .pl <| .e 12 1 <|
 .x 12 (.bin .add (.v 11) (.c (.int .i64 1))) <|
 .m 11 12 .done
@[simp] def W39_2 := C.w K39_2.eq_1
def K39_3 : Pl := .m 4 14 .done
@[simp] def W39_3 := Pl.w K39_3.eq_1
def K39_4 : C := .pl <| .e 12 3 <|
 .m 12 4 <|
 .m 13 5 <|
 .c 14 (.app 8 1 [.int .i64 0] (.o (.v 12)) (.o (.v 13))) K39_3
@[simp] def W39_4 := C.w K39_4.eq_1
def K39_5 : C := .seq (.block 3 (.seq (.pl <| .e 12 2 <|
 .x 12 (.ia 1 (.v 9) (.v 11)) <|
 .l 13 12 <|
 .m 5 13 .done) K39_4)) K39_2
@[simp] def W39_5 := C.w K39_5.eq_1
def K39_6 : C := .seq (.cond 12 (.v 12) (.skip) (.exit 2)) K39_5
@[simp] def W39_6 := C.w K39_6.eq_1
def K39_7 : C := .seq (.pl <| .e 12 1 <|
 .x 12 (.bin .lss (.v 11) (.v 10)) .done) K39_6
@[simp] def W39_7 := C.w K39_7.eq_1
def K39_8 : C := .block 2 (.loop 12 [0, 1, 2, 3, 5, 6, 7, 8] K39_7)
@[simp] def W39_8 := C.w K39_8.eq_1
def K39_9 : C := .seq (.seq (.pl <| .e 12 0 <|
 .m 9 0 <|
 .x 10 (.lenV (.v 9)) <|
 .x 11 (.mv (.c (.int .i64 0))) .done) K39_8) K39_1
@[simp] def W39_9 := C.w K39_9.eq_1
def K39_10 : Pl := .m 4 13 .done
@[simp] def W39_10 := Pl.w K39_10.eq_1
def K39_11 : C := .seq (.pl <| .e 12 2 <|
 .m 12 2 <|
 .c 13 (.call fn_slices_Grow_S_int_int [.c (.slice none 0 0), .v 12]) K39_10) K39_9
@[simp] def W39_11 := C.w K39_11.eq_1
def K39_12 : C := .pl <| .e 12 1 <|
 .x 12 (.bin .add (.v 8) (.c (.int .i64 1))) <|
 .m 8 12 .done
@[simp] def W39_12 := C.w K39_12.eq_1
def K39_13 : C := .pl <| .e 12 1 <|
 .o (.px none (.extract 0 (.c (.tuple #[])))) <|
 .o (.px none (.extract 0 (.c (.tuple #[])))) .done
@[simp] def W39_13 := C.w K39_13.eq_1
def K39_14 : C := .cond 12 (.v 13) K39_13 (.skip)
@[simp] def W39_14 := C.w K39_14.eq_1
def K39_15 : C := .seq (.pl <| .e 12 2 <|
 .m 12 2 <|
 .x 13 (.bin .lss (.v 12) (.c (.int .i64 0))) .done) K39_14
@[simp] def W39_15 := C.w K39_15.eq_1
def K39_16 : C := .seq (.pl <| .e 12 4 <|
 .m 12 2 <|
 .m 13 3 <|
 .x 14 (.lenV (.v 13)) <|
 .x 15 (.bin .add (.v 12) (.v 14)) <|
 .m 2 15 .done) K39_15
@[simp] def W39_16 := C.w K39_16.eq_1
def K39_17 : C := .seq (.block 1 (.seq (.pl <| .e 12 2 <|
 .x 12 (.ia 1 (.v 6) (.v 8)) <|
 .l 13 12 <|
 .m 3 13 .done) K39_16)) K39_12
@[simp] def W39_17 := C.w K39_17.eq_1
def K39_18 : C := .seq (.cond 12 (.v 12) (.skip) (.exit 0)) K39_17
@[simp] def W39_18 := C.w K39_18.eq_1
def K39_19 : C := .seq (.pl <| .e 12 1 <|
 .x 12 (.bin .lss (.v 8) (.v 7)) .done) K39_18
@[simp] def W39_19 := C.w K39_19.eq_1
def K39_20 : C := .block 0 (.loop 12 [1, 3, 4, 5, 9, 10, 11] K39_19)
@[simp] def W39_20 := C.w K39_20.eq_1
def K39_21 : C := .seq (.seq (.pl <| .e 12 0 <|
 .m 6 0 <|
 .x 7 (.lenV (.v 6)) <|
 .x 8 (.mv (.c (.int .i64 0))) .done) K39_20) K39_11
@[simp] def W39_21 := C.w K39_21.eq_1
def K39_22 : C := .seq (.pl <| .e 12 0 <|
 .x 2 (.mv (.c (.int .i64 0))) .done) K39_21
@[simp] def W39_22 := C.w K39_22.eq_1
def B_slices_Concat_S_int_int : C := .seq (.pl <| .e 12 0 <|
 .x 1 (.mv (.c (.slice none 0 0))) .done) K39_22
@[simp] def WB_slices_Concat_S_int_int := C.w B_slices_Concat_S_int_int.eq_1
def R_slices_Concat_S_int_int : FIR := ⟨B_slices_Concat_S_int_int, 12, [(1, none)]⟩
theorem IR_slices_Concat_S_int_int : cfun Tryz.prog H_slices_Concat_S_int_int Tryz.f39 = some R_slices_Concat_S_int_int := by kernel_rfl
theorem EN_slices_Concat_S_int_int : ENT Tryz.prog B_slices_Concat_S_int_int [(1, none)] 1 12 fn_slices_Concat_S_int_int := fun hargs hw => enter Tryz.func39 rfl IR_slices_Concat_S_int_int hargs hw
def H_slices_ContainsFunc_S_impl_Transition_impl_Transition : Hint := ⟨[(0, false), (1, false), (4, false)], []⟩
def K51_1 : Pl := .x 6 (.bin .geq (.v 5) (.c (.int .i64 0))) <|
 .m 2 6 .done
@[simp] def W51_1 := Pl.w K51_1.eq_1
def K51_2 : C := .seq (.pl <| .e 3 4 <|
 .m 3 0 <|
 .m 4 1 <|
 .c 5 (.call fn_slices_IndexFunc_S_impl_Transition_impl_Transition [.v 3, .v 4]) K51_1) (.ret)
@[simp] def W51_2 := C.w K51_2.eq_1
def B_slices_ContainsFunc_S_impl_Transition_impl_Transition : C := .seq (.pl <| .e 3 0 <|
 .x 2 (.mv (.c (.bool false))) .done) K51_2
@[simp] def WB_slices_ContainsFunc_S_impl_Transition_impl_Transition := C.w B_slices_ContainsFunc_S_impl_Transition_impl_Transition.eq_1
def R_slices_ContainsFunc_S_impl_Transition_impl_Transition : FIR := ⟨B_slices_ContainsFunc_S_impl_Transition_impl_Transition, 3, [(2, none)]⟩
theorem IR_slices_ContainsFunc_S_impl_Transition_impl_Transition : cfun Tryz.prog H_slices_ContainsFunc_S_impl_Transition_impl_Transition Tryz.f51 = some R_slices_ContainsFunc_S_impl_Transition_impl_Transition := by kernel_rfl
theorem EN_slices_ContainsFunc_S_impl_Transition_impl_Transition : ENT Tryz.prog B_slices_ContainsFunc_S_impl_Transition_impl_Transition [(2, none)] 2 3 fn_slices_ContainsFunc_S_impl_Transition_impl_Transition := fun hargs hw => enter Tryz.func51 rfl IR_slices_ContainsFunc_S_impl_Transition_impl_Transition hargs hw
def H_slices_ContainsFunc_S_int_int : Hint := ⟨[(0, false), (1, false), (4, false)], []⟩
def K112_1 : Pl := .x 6 (.bin .geq (.v 5) (.c (.int .i64 0))) <|
 .m 2 6 .done
@[simp] def W112_1 := Pl.w K112_1.eq_1
def K112_2 : C := .seq (.pl <| .e 3 4 <|
 .m 3 0 <|
 .m 4 1 <|
 .c 5 (.call fn_slices_IndexFunc_S_int_int [.v 3, .v 4]) K112_1) (.ret)
@[simp] def W112_2 := C.w K112_2.eq_1
def B_slices_ContainsFunc_S_int_int : C := .seq (.pl <| .e 3 0 <|
 .x 2 (.mv (.c (.bool false))) .done) K112_2
@[simp] def WB_slices_ContainsFunc_S_int_int := C.w B_slices_ContainsFunc_S_int_int.eq_1
def R_slices_ContainsFunc_S_int_int : FIR := ⟨B_slices_ContainsFunc_S_int_int, 3, [(2, none)]⟩
theorem IR_slices_ContainsFunc_S_int_int : cfun Tryz.prog H_slices_ContainsFunc_S_int_int Tryz.f112 = some R_slices_ContainsFunc_S_int_int := by kernel_rfl
theorem EN_slices_ContainsFunc_S_int_int : ENT Tryz.prog B_slices_ContainsFunc_S_int_int [(2, none)] 2 3 fn_slices_ContainsFunc_S_int_int := fun hargs hw => enter Tryz.func112 rfl IR_slices_ContainsFunc_S_int_int hargs hw
def H_slices_Contains_S_int_int : Hint := ⟨[(0, false), (1, false), (4, false)], []⟩
def K118_1 : Pl := .x 6 (.bin .geq (.v 5) (.c (.int .i64 0))) <|
 .m 2 6 .done
@[simp] def W118_1 := Pl.w K118_1.eq_1
def K118_2 : C := .seq (.pl <| .e 3 4 <|
 .m 3 0 <|
 .m 4 1 <|
 .c 5 (.call fn_slices_Index_S_int_int [.v 3, .v 4]) K118_1) (.ret)
@[simp] def W118_2 := C.w K118_2.eq_1
def B_slices_Contains_S_int_int : C := .seq (.pl <| .e 3 0 <|
 .x 2 (.mv (.c (.bool false))) .done) K118_2
@[simp] def WB_slices_Contains_S_int_int := C.w B_slices_Contains_S_int_int.eq_1
def R_slices_Contains_S_int_int : FIR := ⟨B_slices_Contains_S_int_int, 3, [(2, none)]⟩
theorem IR_slices_Contains_S_int_int : cfun Tryz.prog H_slices_Contains_S_int_int Tryz.f118 = some R_slices_Contains_S_int_int := by kernel_rfl
theorem EN_slices_Contains_S_int_int : ENT Tryz.prog B_slices_Contains_S_int_int [(2, none)] 2 3 fn_slices_Contains_S_int_int := fun hargs hw => enter Tryz.func118 rfl IR_slices_Contains_S_int_int hargs hw
def H_slices_Grow_S_int_int : Hint := ⟨[(0, false), (1, false), (4, false)], []⟩
def K79_1 : C := .seq (.pl <| .e 3 1 <|
 .m 3 0 <|
 .m 2 3 .done) (.ret)
@[simp] def W79_1 := C.w K79_1.eq_1
def K79_2 : Pl := .m 9 0 <|
 .x 10 (.lenV (.v 9)) <|
 .x 11 (.sliceV 1 (.v 8) none (some (.v 10)) none) <|
 .m 0 11 .done
@[simp] def W79_2 := Pl.w K79_2.eq_1
def K79_3 : C := .pl <| .e 3 9 <|
 .m 3 0 <|
 .m 4 0 <|
 .x 5 (.capV (.v 4)) <|
 .x 6 (.sliceV 1 (.v 3) none (some (.v 5)) none) <|
 .m 7 1 <|
 .c 8 (.app 8 1 [.int .i64 0] (.o (.v 6)) (.z (.v 7) 8 [.int .i64 0])) K79_2
@[simp] def W79_3 := C.w K79_3.eq_1
def K79_4 : C := .cond 3 (.v 4) K79_3 (.skip)
@[simp] def W79_4 := C.w K79_4.eq_1
def K79_5 : C := .seq (.pl <| .e 3 2 <|
 .m 3 1 <|
 .x 4 (.bin .gtr (.v 3) (.c (.int .i64 0))) .done) K79_4
@[simp] def W79_5 := C.w K79_5.eq_1
def K79_6 : C := .seq (.seq (.pl <| .e 3 7 <|
 .m 3 1 <|
 .m 4 0 <|
 .x 5 (.capV (.v 4)) <|
 .m 6 0 <|
 .x 7 (.lenV (.v 6)) <|
 .x 8 (.bin .sub (.v 5) (.v 7)) <|
 .x 9 (.bin .sub (.v 3) (.v 8)) <|
 .m 1 9 .done) K79_5) K79_1
@[simp] def W79_6 := C.w K79_6.eq_1
def K79_7 : C := .pl <| .e 3 1 <|
 .o (.px none (.extract 0 (.c (.tuple #[])))) <|
 .o (.px none (.extract 0 (.c (.tuple #[])))) .done
@[simp] def W79_7 := C.w K79_7.eq_1
def K79_8 : C := .cond 3 (.v 4) K79_7 (.skip)
@[simp] def W79_8 := C.w K79_8.eq_1
def K79_9 : C := .seq (.seq (.pl <| .e 3 2 <|
 .m 3 1 <|
 .x 4 (.bin .lss (.v 3) (.c (.int .i64 0))) .done) K79_8) K79_6
@[simp] def W79_9 := C.w K79_9.eq_1
def B_slices_Grow_S_int_int : C := .seq (.pl <| .e 3 0 <|
 .x 2 (.mv (.c (.slice none 0 0))) .done) K79_9
@[simp] def WB_slices_Grow_S_int_int := C.w B_slices_Grow_S_int_int.eq_1
def R_slices_Grow_S_int_int : FIR := ⟨B_slices_Grow_S_int_int, 3, [(2, none)]⟩
theorem IR_slices_Grow_S_int_int : cfun Tryz.prog H_slices_Grow_S_int_int Tryz.f79 = some R_slices_Grow_S_int_int := by kernel_rfl
theorem EN_slices_Grow_S_int_int : ENT Tryz.prog B_slices_Grow_S_int_int [(2, none)] 2 3 fn_slices_Grow_S_int_int := fun hargs hw => enter Tryz.func79 rfl IR_slices_Grow_S_int_int hargs hw
def H_slices_IndexFunc_S_impl_Transition_impl_Transition : Hint := ⟨[(0, false), (1, false), (4, false), (5, false), (7, false), (8, false)], [[2, 3]]⟩
def K93_1 : C := .seq (.pl <| .e 6 0 <|
 .x 2 (.mv (.c (.int .i64 (-1)))) .done) (.ret)
@[simp] def W93_1 := C.w K93_1.eq_1
def K93_2 : C := .pl <| .e 6 1 <|
 .x 6 (.bin .add (.v 5) (.c (.int .i64 1))) <|
 .m 5 6 .done
@[simp] def W93_2 := C.w K93_2.eq_1
def K93_3 : C := .seq (.pl <| .e 6 1 <|
 .m 6 3 <|
 .m 2 6 .done) (.ret)
@[simp] def W93_3 := C.w K93_3.eq_1
def K93_4 : C := .cond 6 (.v 11) K93_3 (.skip)
@[simp] def W93_4 := C.w K93_4.eq_1
def K93_5 : C := .seq (.pl <| .e 6 6 <|
 .m 6 1 <|
 .m 7 0 <|
 .m 8 3 <|
 .x 9 (.ia 4 (.v 7) (.v 8)) <|
 .o (.ld (some 10) (.v 9) (some 4)) <|
 .c 11 (.callv (.v 6) [.v 10]) .done) K93_4
@[simp] def W93_5 := C.w K93_5.eq_1
def K93_6 : C := .seq (.block 1 (.seq (.pl <| .e 6 1 <|
 .m 6 5 <|
 .m 3 6 .done) K93_5)) K93_2
@[simp] def W93_6 := C.w K93_6.eq_1
def K93_7 : C := .seq (.cond 6 (.v 6) (.skip) (.exit 0)) K93_6
@[simp] def W93_7 := C.w K93_7.eq_1
def K93_8 : C := .seq (.pl <| .e 6 1 <|
 .x 6 (.bin .lss (.v 5) (.v 4)) .done) K93_7
@[simp] def W93_8 := C.w K93_8.eq_1
def K93_9 : C := .block 0 (.loop 6 [2, 3] K93_8)
@[simp] def W93_9 := C.w K93_9.eq_1
def K93_10 : C := .seq (.seq (.pl <| .e 6 1 <|
 .m 6 0 <|
 .x 4 (.lenV (.v 6)) <|
 .x 5 (.mv (.c (.int .i64 0))) .done) K93_9) K93_1
@[simp] def W93_10 := C.w K93_10.eq_1
def B_slices_IndexFunc_S_impl_Transition_impl_Transition : C := .seq (.pl <| .e 6 0 <|
 .x 2 (.mv (.c (.int .i64 0))) .done) K93_10
@[simp] def WB_slices_IndexFunc_S_impl_Transition_impl_Transition := C.w B_slices_IndexFunc_S_impl_Transition_impl_Transition.eq_1
def R_slices_IndexFunc_S_impl_Transition_impl_Transition : FIR := ⟨B_slices_IndexFunc_S_impl_Transition_impl_Transition, 6, [(2, none)]⟩
theorem IR_slices_IndexFunc_S_impl_Transition_impl_Transition : cfun Tryz.prog H_slices_IndexFunc_S_impl_Transition_impl_Transition Tryz.f93 = some R_slices_IndexFunc_S_impl_Transition_impl_Transition := by kernel_rfl
theorem EN_slices_IndexFunc_S_impl_Transition_impl_Transition : ENT Tryz.prog B_slices_IndexFunc_S_impl_Transition_impl_Transition [(2, none)] 2 6 fn_slices_IndexFunc_S_impl_Transition_impl_Transition := fun hargs hw => enter Tryz.func93 rfl IR_slices_IndexFunc_S_impl_Transition_impl_Transition hargs hw
def H_slices_IndexFunc_S_int_int : Hint := ⟨[(0, false), (1, false), (4, false), (5, false), (7, false), (8, false)], [[2, 3]]⟩
def K142_1 : C := .seq (.pl <| .e 6 0 <|
 .x 2 (.mv (.c (.int .i64 (-1)))) .done) (.ret)
@[simp] def W142_1 := C.w K142_1.eq_1
def K142_2 : C := .pl <| .e 6 1 <|
 .x 6 (.bin .add (.v 5) (.c (.int .i64 1))) <|
 .m 5 6 .done
@[simp] def W142_2 := C.w K142_2.eq_1
def K142_3 : C := .seq (.pl <| .e 6 1 <|
 .m 6 3 <|
 .m 2 6 .done) (.ret)
@[simp] def W142_3 := C.w K142_3.eq_1
def K142_4 : C := .cond 6 (.v 11) K142_3 (.skip)
@[simp] def W142_4 := C.w K142_4.eq_1
def K142_5 : C := .seq (.pl <| .e 6 6 <|
 .m 6 1 <|
 .m 7 0 <|
 .m 8 3 <|
 .x 9 (.ia 1 (.v 7) (.v 8)) <|
 .l 10 9 <|
 .c 11 (.callv (.v 6) [.v 10]) .done) K142_4
@[simp] def W142_5 := C.w K142_5.eq_1
def K142_6 : C := .seq (.block 1 (.seq (.pl <| .e 6 1 <|
 .m 6 5 <|
 .m 3 6 .done) K142_5)) K142_2
@[simp] def W142_6 := C.w K142_6.eq_1
def K142_7 : C := .seq (.cond 6 (.v 6) (.skip) (.exit 0)) K142_6
@[simp] def W142_7 := C.w K142_7.eq_1
def K142_8 : C := .seq (.pl <| .e 6 1 <|
 .x 6 (.bin .lss (.v 5) (.v 4)) .done) K142_7
@[simp] def W142_8 := C.w K142_8.eq_1
def K142_9 : C := .block 0 (.loop 6 [2, 3] K142_8)
@[simp] def W142_9 := C.w K142_9.eq_1
def K142_10 : C := .seq (.seq (.pl <| .e 6 1 <|
 .m 6 0 <|
 .x 4 (.lenV (.v 6)) <|
 .x 5 (.mv (.c (.int .i64 0))) .done) K142_9) K142_1
@[simp] def W142_10 := C.w K142_10.eq_1
def B_slices_IndexFunc_S_int_int : C := .seq (.pl <| .e 6 0 <|
 .x 2 (.mv (.c (.int .i64 0))) .done) K142_10
@[simp] def WB_slices_IndexFunc_S_int_int := C.w B_slices_IndexFunc_S_int_int.eq_1
def R_slices_IndexFunc_S_int_int : FIR := ⟨B_slices_IndexFunc_S_int_int, 6, [(2, none)]⟩
theorem IR_slices_IndexFunc_S_int_int : cfun Tryz.prog H_slices_IndexFunc_S_int_int Tryz.f142 = some R_slices_IndexFunc_S_int_int := by kernel_rfl
theorem EN_slices_IndexFunc_S_int_int : ENT Tryz.prog B_slices_IndexFunc_S_int_int [(2, none)] 2 6 fn_slices_IndexFunc_S_int_int := fun hargs hw => enter Tryz.func142 rfl IR_slices_IndexFunc_S_int_int hargs hw
def H_slices_Index_S_int_int : Hint := ⟨[(0, false), (1, false), (4, false), (5, false), (7, false), (8, false)], [[2, 3]]⟩
def K144_1 : C := .seq (.pl <| .e 6 0 <|
 .x 2 (.mv (.c (.int .i64 (-1)))) .done) (.ret)
@[simp] def W144_1 := C.w K144_1.eq_1
def K144_2 : C := .pl <| .e 6 1 <|
 .x 6 (.bin .add (.v 5) (.c (.int .i64 1))) <|
 .m 5 6 .done
@[simp] def W144_2 := C.w K144_2.eq_1
def K144_3 : C := .seq (.pl <| .e 6 1 <|
 .m 6 3 <|
 .m 2 6 .done) (.ret)
@[simp] def W144_3 := C.w K144_3.eq_1
def K144_4 : C := .cond 6 (.v 11) K144_3 (.skip)
@[simp] def W144_4 := C.w K144_4.eq_1
def K144_5 : C := .seq (.pl <| .e 6 6 <|
 .m 6 1 <|
 .m 7 0 <|
 .m 8 3 <|
 .x 9 (.ia 1 (.v 7) (.v 8)) <|
 .l 10 9 <|
 .x 11 (.bin .eql (.v 6) (.v 10)) .done) K144_4
@[simp] def W144_5 := C.w K144_5.eq_1
def K144_6 : C := .seq (.block 1 (.seq (.pl <| .e 6 1 <|
 .m 6 5 <|
 .m 3 6 .done) K144_5)) K144_2
@[simp] def W144_6 := C.w K144_6.eq_1
def K144_7 : C := .seq (.cond 6 (.v 6) (.skip) (.exit 0)) K144_6
@[simp] def W144_7 := C.w K144_7.eq_1
def K144_8 : C := .seq (.pl <| .e 6 1 <|
 .x 6 (.bin .lss (.v 5) (.v 4)) .done) K144_7
@[simp] def W144_8 := C.w K144_8.eq_1
def K144_9 : C := .block 0 (.loop 6 [2, 3] K144_8)
@[simp] def W144_9 := C.w K144_9.eq_1
def K144_10 : C := .seq (.seq (.pl <| .e 6 1 <|
 .m 6 0 <|
 .x 4 (.lenV (.v 6)) <|
 .x 5 (.mv (.c (.int .i64 0))) .done) K144_9) K144_1
@[simp] def W144_10 := C.w K144_10.eq_1
def B_slices_Index_S_int_int : C := .seq (.pl <| .e 6 0 <|
 .x 2 (.mv (.c (.int .i64 0))) .done) K144_10
@[simp] def WB_slices_Index_S_int_int := C.w B_slices_Index_S_int_int.eq_1
def R_slices_Index_S_int_int : FIR := ⟨B_slices_Index_S_int_int, 6, [(2, none)]⟩
theorem IR_slices_Index_S_int_int : cfun Tryz.prog H_slices_Index_S_int_int Tryz.f144 = some R_slices_Index_S_int_int := by kernel_rfl
theorem EN_slices_Index_S_int_int : ENT Tryz.prog B_slices_Index_S_int_int [(2, none)] 2 6 fn_slices_Index_S_int_int := fun hargs hw => enter Tryz.func144 rfl IR_slices_Index_S_int_int hargs hw
end Go.Proofs.YtglnelcmcimljaaGreat

namespace Go.Proofs.YtglnelcmcimljaaGreat
open Go
def H_impl_Automaton_live : Hint := ⟨[(0, false), (1, true), (2, false), (3, false), (4, false), (5, false), (6, false), (7, false), (8, false), (17, false), (18, false), (24, false), (25, false), (26, false)], [[0, 2, 6, 7, 8, 11, 12, 13], [0, 2, 7, 8]]⟩
def K36_1 : C := .seq (.pl <| .e 14 1 <|
 .m 14 5 <|
 .m 2 14 .done) (.ret)
@[simp] def W36_1 := C.w K36_1.eq_1
def K36_2 : C := .pl <| .e 14 1 <|
 .x 14 (.bin .add (.v 10) (.c (.int .i64 1))) <|
 .m 10 14 .done
@[simp] def W36_2 := C.w K36_2.eq_1
def K36_3 : C := .pl <| .e 14 1 <|
 .x 14 (.bin .add (.v 13) (.c (.int .i64 1))) <|
 .m 13 14 .done
@[simp] def W36_3 := C.w K36_3.eq_1
def K36_4 : C := .pl <| .e 14 23 <|
 .m 14 5 <|
 .m 15 6 <|
 .m 16 5 <|
 .m 17 6 <|
 .x 18 (.ia 1 (.v 16) (.v 17)) <|
 .l 19 18 <|
 .m 20 19 <|
 .n 20 (.px (some 21) (.mv (.v 8))) <|
 .n 20 (.px (some 22) (.mv (.v 21))) <|
 .y 22 (.px (some 23) (.mv (.v 4))) <|
 .y 22 (.px (some 24) (.mv (.v 7))) <|
 .y 22 (.px (some 25) (.ia 1 (.v 23) (.v 24))) <|
 .y 22 (.ld (some 26) (.v 25) none) <|
 .n 20 (.px (some 27) (.pick (.v 22) (.v 26) (.c (.bool false)))) <|
 .n 20 (.px (some 28) (.mv (.v 27))) <|
 .y 28 (.als 29 none 1) <|
 .y 28 (.pget (some 30) (some 29) 1 1 none) <|
 .y 28 (.px (some 31) (.mv (.v 7))) <|
 .y 28 (.px (some 32) (.ia 1 (.v 30) (.v 31))) <|
 .y 28 (.ld (some 33) (.v 32) none) <|
 .n 20 (.px (some 34) (.pick (.v 28) (.v 33) (.c (.bool false)))) <|
 .x 35 (.pick (.v 20) (.c (.bool true)) (.v 34)) <|
 .x 36 (.ia 1 (.v 14) (.v 15)) <|
 .o (.ex none (.store 1 (.v 36) (.v 35))) .done
@[simp] def W36_4 := C.w K36_4.eq_1
def K36_5 : C := .seq (.block 3 (.seq (.pl <| .e 14 3 <|
 .m 14 13 <|
 .x 15 (.ia 1 (.v 11) (.v 13)) <|
 .l 16 15 <|
 .m 7 14 <|
 .m 8 16 .done) K36_4)) K36_3
@[simp] def W36_5 := C.w K36_5.eq_1
def K36_6 : C := .seq (.cond 14 (.v 14) (.skip) (.exit 2)) K36_5
@[simp] def W36_6 := C.w K36_6.eq_1
def K36_7 : C := .seq (.pl <| .e 14 1 <|
 .x 14 (.bin .lss (.v 13) (.v 12)) .done) K36_6
@[simp] def W36_7 := C.w K36_7.eq_1
def K36_8 : C := .block 2 (.loop 14 [0, 2, 7, 8] K36_7)
@[simp] def W36_8 := C.w K36_8.eq_1
def K36_9 : Pl := .x 12 (.lenV (.v 11)) <|
 .x 13 (.mv (.c (.int .i64 0))) .done
@[simp] def W36_9 := Pl.w K36_9.eq_1
def K36_10 : Pl := .c 11 (.call fn_impl_reachable [.v 14, .v 16]) K36_9
@[simp] def W36_10 := Pl.w K36_10.eq_1
def K36_11 : C := .seq (.pl <| .e 14 3 <|
 .m 14 3 <|
 .m 15 6 <|
 .c 16 (.bls 1 1 [.int .i64 0] [(0, 1, .v 15)]) K36_10) K36_8
@[simp] def W36_11 := C.w K36_11.eq_1
def K36_12 : C := .seq (.block 1 (.seq (.pl <| .e 14 1 <|
 .m 14 10 <|
 .m 6 14 .done) K36_11)) K36_2
@[simp] def W36_12 := C.w K36_12.eq_1
def K36_13 : C := .seq (.cond 14 (.v 14) (.skip) (.exit 0)) K36_12
@[simp] def W36_13 := C.w K36_13.eq_1
def K36_14 : C := .seq (.pl <| .e 14 1 <|
 .x 14 (.bin .lss (.v 10) (.v 9)) .done) K36_13
@[simp] def W36_14 := C.w K36_14.eq_1
def K36_15 : C := .block 0 (.loop 14 [0, 2, 6, 7, 8, 11, 12, 13] K36_14)
@[simp] def W36_15 := C.w K36_15.eq_1
def K36_16 : C := .seq (.seq (.pl <| .e 14 1 <|
 .m 14 3 <|
 .x 9 (.lenV (.v 14)) <|
 .x 10 (.mv (.c (.int .i64 0))) .done) K36_15) K36_1
@[simp] def W36_16 := C.w K36_16.eq_1
def K36_17 : Pl := .m 5 16 .done
@[simp] def W36_17 := Pl.w K36_17.eq_1
def K36_18 : C := .seq (.pl <| .e 14 3 <|
 .m 14 3 <|
 .x 15 (.lenV (.v 14)) <|
 .c 16 (.mks 1 1 [.bool false] (.v 15) (.v 15)) K36_17) K36_16
@[simp] def W36_18 := C.w K36_18.eq_1
def K36_19 : Pl := .m 4 15 .done
@[simp] def W36_19 := Pl.w K36_19.eq_1
def K36_20 : C := .seq (.pl <| .e 14 2 <|
 .m 14 3 <|
 .c 15 (.call fn_impl_cyclic [.v 14]) K36_19) K36_18
@[simp] def W36_20 := C.w K36_20.eq_1
def K36_21 : Pl := .m 3 15 .done
@[simp] def W36_21 := Pl.w K36_21.eq_1
def K36_22 : C := .seq (.pl <| .e 14 2 <|
 .o (.pget (some 14) none 1 0 (some 3)) <|
 .c 15 (.call fn_impl_Automaton_next [.v 14]) K36_21) K36_20
@[simp] def W36_22 := C.w K36_22.eq_1
def B_impl_Automaton_live : C := .seq (.pl <| .e 14 0 <|
 .o (.pnew 1 (.v 0) []) <|
 .x 2 (.mv (.c (.slice none 0 0))) .done) K36_22
@[simp] def WB_impl_Automaton_live := C.w B_impl_Automaton_live.eq_1
def R_impl_Automaton_live : FIR := ⟨B_impl_Automaton_live, 14, [(2, none)]⟩
theorem IR_impl_Automaton_live : cfun Tryz.prog H_impl_Automaton_live Tryz.f36 = some R_impl_Automaton_live := by kernel_rfl
theorem EN_impl_Automaton_live : ENT Tryz.prog B_impl_Automaton_live [(2, none)] 1 14 fn_impl_Automaton_live := fun hargs hw => enter Tryz.func36 rfl IR_impl_Automaton_live hargs hw
def H_impl_Automaton_next : Hint := ⟨[(0, false), (1, true), (2, false), (3, false), (5, true), (11, false), (12, false), (13, false)], [[0, 1, 2, 4]]⟩
def K72_1 : C := .seq (.pl <| .e 8 1 <|
 .m 8 3 <|
 .m 2 8 .done) (.ret)
@[simp] def W72_1 := C.w K72_1.eq_1
def K72_2 : C := .pl <| .e 8 1 <|
 .x 8 (.bin .add (.v 7) (.c (.int .i64 1))) <|
 .m 7 8 .done
@[simp] def W72_2 := C.w K72_2.eq_1
def K72_3 : Pl := .x 20 (.ia 1 (.v 8) (.v 10)) <|
 .o (.ex none (.store 1 (.v 20) (.v 19))) .done
@[simp] def W72_3 := Pl.w K72_3.eq_1
def K72_4 : C := .pl <| .e 8 13 <|
 .m 8 3 <|
 .a 9 4 <|
 .g 10 9 4 0 <|
 .m 11 3 <|
 .a 12 4 <|
 .g 13 12 4 0 <|
 .x 14 (.ia 1 (.v 11) (.v 13)) <|
 .l 15 14 <|
 .a 16 4 <|
 .g 17 16 4 3 <|
 .o (.psl 18 [.int .i64 0] [(0, 1, .v 17)]) <|
 .c 19 (.app 8 1 [.int .i64 0] (.o (.v 15)) (.p 1 18)) K72_3
@[simp] def W72_4 := C.w K72_4.eq_1
def K72_5 : C := .seq (.block 1 (.seq (.pl <| .e 8 2 <|
 .x 8 (.ia 4 (.v 5) (.v 7)) <|
 .o (.ld (some 9) (.v 8) (some 4)) <|
 .o (.pnew 4 (.c (.agg #[.int .i64 0, .int .i64 0, .int .i64 0, .int .i64 0])) []) <|
 .o (.pset none 4 0 4 (.v 9)) .done) K72_4)) K72_2
@[simp] def W72_5 := C.w K72_5.eq_1
def K72_6 : C := .seq (.cond 8 (.v 8) (.skip) (.exit 0)) K72_5
@[simp] def W72_6 := C.w K72_6.eq_1
def K72_7 : C := .seq (.pl <| .e 8 1 <|
 .x 8 (.bin .lss (.v 7) (.v 6)) .done) K72_6
@[simp] def W72_7 := C.w K72_7.eq_1
def K72_8 : C := .block 0 (.loop 8 [0, 1, 2, 4] K72_7)
@[simp] def W72_8 := C.w K72_8.eq_1
def K72_9 : C := .seq (.seq (.pl <| .e 8 1 <|
 .a 8 1 <|
 .g 5 8 1 2 <|
 .x 6 (.lenV (.v 5)) <|
 .x 7 (.mv (.c (.int .i64 0))) .done) K72_8) K72_1
@[simp] def W72_9 := C.w K72_9.eq_1
def K72_10 : Pl := .m 3 11 .done
@[simp] def W72_10 := Pl.w K72_10.eq_1
def K72_11 : C := .seq (.pl <| .e 8 4 <|
 .a 8 1 <|
 .g 9 8 1 1 <|
 .x 10 (.lenV (.v 9)) <|
 .c 11 (.mks 24 1 [.slice none 0 0] (.v 10) (.v 10)) K72_10) K72_9
@[simp] def W72_11 := C.w K72_11.eq_1
def B_impl_Automaton_next : C := .seq (.pl <| .e 8 0 <|
 .o (.pnew 1 (.v 0) []) <|
 .x 2 (.mv (.c (.slice none 0 0))) .done) K72_11
@[simp] def WB_impl_Automaton_next := C.w B_impl_Automaton_next.eq_1
def R_impl_Automaton_next : FIR := ⟨B_impl_Automaton_next, 8, [(2, none)]⟩
theorem IR_impl_Automaton_next : cfun Tryz.prog H_impl_Automaton_next Tryz.f72 = some R_impl_Automaton_next := by kernel_rfl
theorem EN_impl_Automaton_next : ENT Tryz.prog B_impl_Automaton_next [(2, none)] 1 8 fn_impl_Automaton_next := fun hargs hw => enter Tryz.func72 rfl IR_impl_Automaton_next hargs hw
def H_spec_LiveStates : Hint := ⟨[(0, false), (1, true), (2, false), (3, false), (4, false), (5, false), (6, false), (7, false), (8, false)], [[0, 2, 6, 7, 8], [0, 2]]⟩
def K69_1 : C := .seq (.pl <| .e 9 1 <|
 .m 9 3 <|
 .m 2 9 .done) (.ret)
@[simp] def W69_1 := C.w K69_1.eq_1
def K69_2 : C := .pl <| .e 9 2 <|
 .m 9 5 <|
 .x 10 (.bin .add (.v 9) (.c (.int .i64 1))) <|
 .m 5 10 .done
@[simp] def W69_2 := C.w K69_2.eq_1
def K69_3 : Pl := .m 3 12 .done
@[simp] def W69_3 := Pl.w K69_3.eq_1
def K69_4 : C := .pl <| .e 9 4 <|
 .m 9 3 <|
 .m 10 7 <|
 .o (.psl 11 [.bool false] [(0, 1, .v 10)]) <|
 .c 12 (.app 1 1 [.bool false] (.o (.v 9)) (.p 1 11)) K69_3
@[simp] def W69_4 := C.w K69_4.eq_1
def K69_5 : C := .pl <| .e 9 2 <|
 .m 9 8 <|
 .x 10 (.bin .add (.v 9) (.c (.int .i64 1))) <|
 .m 8 10 .done
@[simp] def W69_5 := C.w K69_5.eq_1
def K69_6 : Pl := .x 24 (.pick (.v 17) (.v 23) (.c (.bool false))) <|
 .m 7 24 .done
@[simp] def W69_6 := Pl.w K69_6.eq_1
def K69_7 : C := .seq (.block 3 (.pl <| .e 9 16 <|
 .a 9 1 <|
 .g 10 9 1 1 <|
 .m 11 6 <|
 .m 12 8 <|
 .x 13 (.ia 1 (.v 11) (.v 12)) <|
 .l 14 13 <|
 .x 15 (.ia 1 (.v 10) (.v 14)) <|
 .l 16 15 <|
 .m 17 16 <|
 .y 17 (.px (some 18) (.mv (.v 4))) <|
 .y 17 (.px (some 19) (.mv (.v 6))) <|
 .y 17 (.px (some 20) (.mv (.v 8))) <|
 .y 17 (.px (some 21) (.ia 1 (.v 19) (.v 20))) <|
 .y 17 (.ld (some 22) (.v 21) none) <|
 .st (.act (some (.v 17, true)) (.ex (some 23) (.call fn_spec_l7Loop [.v 18, .v 22]))) K69_6)) K69_5
@[simp] def W69_7 := C.w K69_7.eq_1
def K69_8 : C := .cond 9 (.v 16) (.skip) (.exit 2)
@[simp] def W69_8 := C.w K69_8.eq_1
def K69_9 : C := .seq (.seq (.pl <| .e 9 8 <|
 .m 9 8 <|
 .m 10 6 <|
 .x 11 (.lenV (.v 10)) <|
 .x 12 (.bin .lss (.v 9) (.v 11)) <|
 .m 13 12 <|
 .y 13 (.px (some 14) (.mv (.v 7))) <|
 .y 13 (.px (some 15) (.un .not (.v 14))) <|
 .x 16 (.pick (.v 13) (.v 15) (.c (.bool false))) .done) K69_8) K69_7
@[simp] def W69_9 := C.w K69_9.eq_1
def K69_10 : C := .block 2 (.loop 9 [0, 2] K69_9)
@[simp] def W69_10 := C.w K69_10.eq_1
def K69_11 : C := .seq (.seq (.pl <| .e 9 0 <|
 .x 8 (.mv (.c (.int .i64 0))) .done) K69_10) K69_4
@[simp] def W69_11 := C.w K69_11.eq_1
def K69_12 : C := .seq (.pl <| .e 9 0 <|
 .x 7 (.mv (.c (.bool false))) .done) K69_11
@[simp] def W69_12 := C.w K69_12.eq_1
def K69_13 : Pl := .m 6 12 .done
@[simp] def W69_13 := Pl.w K69_13.eq_1
def K69_14 : Pl := .c 12 (.call fn_spec_l7Reach [.v 9, .v 11]) K69_13
@[simp] def W69_14 := Pl.w K69_14.eq_1
def K69_15 : C := .seq (.block 1 (.seq (.pl <| .e 9 4 <|
 .m 9 4 <|
 .m 10 5 <|
 .c 11 (.bls 1 1 [.int .i64 0] [(0, 1, .v 10)]) K69_14) K69_12)) K69_2
@[simp] def W69_15 := C.w K69_15.eq_1
def K69_16 : C := .cond 9 (.v 13) (.skip) (.exit 0)
@[simp] def W69_16 := C.w K69_16.eq_1
def K69_17 : C := .seq (.seq (.pl <| .e 9 5 <|
 .m 9 5 <|
 .a 10 1 <|
 .g 11 10 1 1 <|
 .x 12 (.lenV (.v 11)) <|
 .x 13 (.bin .lss (.v 9) (.v 12)) .done) K69_16) K69_15
@[simp] def W69_17 := C.w K69_17.eq_1
def K69_18 : C := .block 0 (.loop 9 [0, 2, 6, 7, 8] K69_17)
@[simp] def W69_18 := C.w K69_18.eq_1
def K69_19 : C := .seq (.seq (.pl <| .e 9 0 <|
 .x 5 (.mv (.c (.int .i64 0))) .done) K69_18) K69_1
@[simp] def W69_19 := C.w K69_19.eq_1
def K69_20 : Pl := .m 4 10 .done
@[simp] def W69_20 := Pl.w K69_20.eq_1
def K69_21 : C := .seq (.pl <| .e 9 2 <|
 .o (.pget (some 9) none 1 0 (some 3)) <|
 .c 10 (.call fn_spec_l7Next [.v 9]) K69_20) K69_19
@[simp] def W69_21 := C.w K69_21.eq_1
def K69_22 : C := .seq (.pl <| .e 9 1 <|
 .m 9 3 <|
 .m 2 9 .done) (.ret)
@[simp] def W69_22 := C.w K69_22.eq_1
def K69_23 : C := .cond 9 (.v 11) K69_22 (.skip)
@[simp] def W69_23 := C.w K69_23.eq_1
def K69_24 : Pl := .x 11 (.un .not (.v 10)) .done
@[simp] def W69_24 := Pl.w K69_24.eq_1
def K69_25 : C := .seq (.seq (.pl <| .e 9 3 <|
 .o (.pget (some 9) none 1 0 (some 3)) <|
 .c 10 (.call fn_spec_AutomatonValid [.v 9]) K69_24) K69_23) K69_21
@[simp] def W69_25 := C.w K69_25.eq_1
def K69_26 : Pl := .m 3 9 .done
@[simp] def W69_26 := Pl.w K69_26.eq_1
def K69_27 : C := .seq (.pl <| .e 9 1 <|
 .c 9 (.bls 1 0 [.bool false] []) K69_26) K69_25
@[simp] def W69_27 := C.w K69_27.eq_1
def B_spec_LiveStates : C := .seq (.pl <| .e 9 0 <|
 .o (.pnew 1 (.v 0) []) <|
 .x 2 (.mv (.c (.slice none 0 0))) .done) K69_27
@[simp] def WB_spec_LiveStates := C.w B_spec_LiveStates.eq_1
def R_spec_LiveStates : FIR := ⟨B_spec_LiveStates, 9, [(2, none)]⟩
theorem IR_spec_LiveStates : cfun Tryz.prog H_spec_LiveStates Tryz.f69 = some R_spec_LiveStates := by kernel_rfl
theorem EN_spec_LiveStates : ENT Tryz.prog B_spec_LiveStates [(2, none)] 1 9 fn_spec_LiveStates := fun hargs hw => enter Tryz.func69 rfl IR_spec_LiveStates hargs hw
def H_spec_l4In : Hint := ⟨[(0, false), (1, false), (4, false), (5, false)], [[2]]⟩
def K115_1 : C := .seq (.pl <| .e 4 0 <|
 .x 2 (.mv (.c (.bool false))) .done) (.ret)
@[simp] def W115_1 := C.w K115_1.eq_1
def K115_2 : C := .pl <| .e 4 2 <|
 .m 4 3 <|
 .x 5 (.bin .add (.v 4) (.c (.int .i64 1))) <|
 .m 3 5 .done
@[simp] def W115_2 := C.w K115_2.eq_1
def K115_3 : C := .seq (.pl <| .e 4 0 <|
 .x 2 (.mv (.c (.bool true))) .done) (.ret)
@[simp] def W115_3 := C.w K115_3.eq_1
def K115_4 : C := .cond 4 (.v 9) K115_3 (.skip)
@[simp] def W115_4 := C.w K115_4.eq_1
def K115_5 : C := .seq (.block 1 (.seq (.pl <| .e 4 6 <|
 .m 4 0 <|
 .m 5 3 <|
 .x 6 (.ia 1 (.v 4) (.v 5)) <|
 .l 7 6 <|
 .m 8 1 <|
 .x 9 (.bin .eql (.v 7) (.v 8)) .done) K115_4)) K115_2
@[simp] def W115_5 := C.w K115_5.eq_1
def K115_6 : C := .cond 4 (.v 7) (.skip) (.exit 0)
@[simp] def W115_6 := C.w K115_6.eq_1
def K115_7 : C := .seq (.seq (.pl <| .e 4 4 <|
 .m 4 3 <|
 .m 5 0 <|
 .x 6 (.lenV (.v 5)) <|
 .x 7 (.bin .lss (.v 4) (.v 6)) .done) K115_6) K115_5
@[simp] def W115_7 := C.w K115_7.eq_1
def K115_8 : C := .block 0 (.loop 4 [2] K115_7)
@[simp] def W115_8 := C.w K115_8.eq_1
def K115_9 : C := .seq (.seq (.pl <| .e 4 0 <|
 .x 3 (.mv (.c (.int .i64 0))) .done) K115_8) K115_1
@[simp] def W115_9 := C.w K115_9.eq_1
def B_spec_l4In : C := .seq (.pl <| .e 4 0 <|
 .x 2 (.mv (.c (.bool false))) .done) K115_9
@[simp] def WB_spec_l4In := C.w B_spec_l4In.eq_1
def R_spec_l4In : FIR := ⟨B_spec_l4In, 4, [(2, none)]⟩
theorem IR_spec_l4In : cfun Tryz.prog H_spec_l4In Tryz.f115 = some R_spec_l4In := by kernel_rfl
theorem EN_spec_l4In : ENT Tryz.prog B_spec_l4In [(2, none)] 2 4 fn_spec_l4In := fun hargs hw => enter Tryz.func115 rfl IR_spec_l4In hargs hw
def H_spec_l7Loop : Hint := ⟨[(0, false), (1, false), (4, false), (5, false), (6, false), (7, false), (8, false), (9, false)], [[2, 4, 5, 6, 7], [2, 3, 7]]⟩
def K114_1 : C := .seq (.pl <| .e 8 0 <|
 .x 2 (.mv (.c (.bool false))) .done) (.ret)
@[simp] def W114_1 := C.w K114_1.eq_1
def K114_2 : C := .pl <| .e 8 2 <|
 .m 8 6 <|
 .x 9 (.bin .add (.v 8) (.c (.int .i64 1))) <|
 .m 6 9 .done
@[simp] def W114_2 := C.w K114_2.eq_1
def K114_3 : Pl := .m 5 13 .done
@[simp] def W114_3 := Pl.w K114_3.eq_1
def K114_4 : C := .pl <| .e 8 6 <|
 .m 8 5 <|
 .m 9 0 <|
 .m 10 7 <|
 .x 11 (.ia 1 (.v 9) (.v 10)) <|
 .l 12 11 <|
 .c 13 (.app 8 1 [.int .i64 0] (.o (.v 8)) (.o (.v 12))) K114_3
@[simp] def W114_4 := C.w K114_4.eq_1
def K114_5 : C := .seq (.pl <| .e 8 3 <|
 .m 8 4 <|
 .m 9 7 <|
 .x 10 (.ia 1 (.v 8) (.v 9)) <|
 .o (.ex none (.store 1 (.v 10) (.c (.bool true)))) .done) K114_4
@[simp] def W114_5 := C.w K114_5.eq_1
def K114_6 : C := .cond 8 (.v 12) K114_5 (.skip)
@[simp] def W114_6 := C.w K114_6.eq_1
def K114_7 : C := .seq (.pl <| .e 8 5 <|
 .m 8 4 <|
 .m 9 7 <|
 .x 10 (.ia 1 (.v 8) (.v 9)) <|
 .l 11 10 <|
 .x 12 (.un .not (.v 11)) .done) K114_6
@[simp] def W114_7 := C.w K114_7.eq_1
def K114_8 : C := .seq (.pl <| .e 8 0 <|
 .x 2 (.mv (.c (.bool true))) .done) (.ret)
@[simp] def W114_8 := C.w K114_8.eq_1
def K114_9 : C := .cond 8 (.v 10) K114_8 (.skip)
@[simp] def W114_9 := C.w K114_9.eq_1
def K114_10 : C := .seq (.seq (.pl <| .e 8 3 <|
 .m 8 7 <|
 .m 9 1 <|
 .x 10 (.bin .eql (.v 8) (.v 9)) .done) K114_9) K114_7
@[simp] def W114_10 := C.w K114_10.eq_1
def K114_11 : C := .seq (.block 3 (.seq (.pl <| .e 8 4 <|
 .m 8 5 <|
 .m 9 6 <|
 .x 10 (.ia 1 (.v 8) (.v 9)) <|
 .l 11 10 <|
 .m 7 11 .done) K114_10)) K114_2
@[simp] def W114_11 := C.w K114_11.eq_1
def K114_12 : C := .cond 8 (.v 11) (.skip) (.exit 2)
@[simp] def W114_12 := C.w K114_12.eq_1
def K114_13 : C := .seq (.seq (.pl <| .e 8 4 <|
 .m 8 6 <|
 .m 9 5 <|
 .x 10 (.lenV (.v 9)) <|
 .x 11 (.bin .lss (.v 8) (.v 10)) .done) K114_12) K114_11
@[simp] def W114_13 := C.w K114_13.eq_1
def K114_14 : C := .block 2 (.loop 8 [2, 3, 7] K114_13)
@[simp] def W114_14 := C.w K114_14.eq_1
def K114_15 : C := .seq (.seq (.pl <| .e 8 0 <|
 .x 6 (.mv (.c (.int .i64 0))) .done) K114_14) K114_1
@[simp] def W114_15 := C.w K114_15.eq_1
def K114_16 : Pl := .m 5 13 .done
@[simp] def W114_16 := Pl.w K114_16.eq_1
def K114_17 : C := .seq (.pl <| .e 8 6 <|
 .o (.psl 8 [] []) <|
 .m 9 0 <|
 .m 10 1 <|
 .x 11 (.ia 1 (.v 9) (.v 10)) <|
 .l 12 11 <|
 .c 13 (.app 8 1 [.int .i64 0] (.p 0 8) (.o (.v 12))) K114_16) K114_15
@[simp] def W114_17 := C.w K114_17.eq_1
def K114_18 : Pl := .m 4 10 .done
@[simp] def W114_18 := Pl.w K114_18.eq_1
def K114_19 : C := .seq (.pl <| .e 8 3 <|
 .m 8 0 <|
 .x 9 (.lenV (.v 8)) <|
 .c 10 (.mks 1 1 [.bool false] (.v 9) (.v 9)) K114_18) K114_17
@[simp] def W114_19 := C.w K114_19.eq_1
def K114_20 : C := .pl <| .e 8 2 <|
 .m 8 3 <|
 .x 9 (.bin .add (.v 8) (.c (.int .i64 1))) <|
 .m 3 9 .done
@[simp] def W114_20 := C.w K114_20.eq_1
def K114_21 : C := .seq (.pl <| .e 8 0 <|
 .x 2 (.mv (.c (.bool true))) .done) (.ret)
@[simp] def W114_21 := C.w K114_21.eq_1
def K114_22 : C := .cond 8 (.v 16) K114_21 (.skip)
@[simp] def W114_22 := C.w K114_22.eq_1
def K114_23 : C := .seq (.block 1 (.seq (.pl <| .e 8 9 <|
 .m 8 0 <|
 .m 9 1 <|
 .x 10 (.ia 1 (.v 8) (.v 9)) <|
 .l 11 10 <|
 .m 12 3 <|
 .x 13 (.ia 1 (.v 11) (.v 12)) <|
 .l 14 13 <|
 .m 15 1 <|
 .x 16 (.bin .eql (.v 14) (.v 15)) .done) K114_22)) K114_20
@[simp] def W114_23 := C.w K114_23.eq_1
def K114_24 : C := .cond 8 (.v 14) (.skip) (.exit 0)
@[simp] def W114_24 := C.w K114_24.eq_1
def K114_25 : C := .seq (.seq (.pl <| .e 8 7 <|
 .m 8 3 <|
 .m 9 0 <|
 .m 10 1 <|
 .x 11 (.ia 1 (.v 9) (.v 10)) <|
 .l 12 11 <|
 .x 13 (.lenV (.v 12)) <|
 .x 14 (.bin .lss (.v 8) (.v 13)) .done) K114_24) K114_23
@[simp] def W114_25 := C.w K114_25.eq_1
def K114_26 : C := .block 0 (.loop 8 [2, 4, 5, 6, 7] K114_25)
@[simp] def W114_26 := C.w K114_26.eq_1
def K114_27 : C := .seq (.seq (.pl <| .e 8 0 <|
 .x 3 (.mv (.c (.int .i64 0))) .done) K114_26) K114_19
@[simp] def W114_27 := C.w K114_27.eq_1
def B_spec_l7Loop : C := .seq (.pl <| .e 8 0 <|
 .x 2 (.mv (.c (.bool false))) .done) K114_27
@[simp] def WB_spec_l7Loop := C.w B_spec_l7Loop.eq_1
def R_spec_l7Loop : FIR := ⟨B_spec_l7Loop, 8, [(2, none)]⟩
theorem IR_spec_l7Loop : cfun Tryz.prog H_spec_l7Loop Tryz.f114 = some R_spec_l7Loop := by kernel_rfl
theorem EN_spec_l7Loop : ENT Tryz.prog B_spec_l7Loop [(2, none)] 2 8 fn_spec_l7Loop := fun hargs hw => enter Tryz.func114 rfl IR_spec_l7Loop hargs hw
def H_spec_l7Next : Hint := ⟨[(0, false), (1, true), (2, false), (3, false), (4, false), (5, true)], [[0, 2, 5]]⟩
def K96_1 : C := .seq (.pl <| .e 6 1 <|
 .m 6 3 <|
 .m 2 6 .done) (.ret)
@[simp] def W96_1 := C.w K96_1.eq_1
def K96_2 : C := .pl <| .e 6 2 <|
 .m 6 4 <|
 .x 7 (.bin .add (.v 6) (.c (.int .i64 1))) <|
 .m 4 7 .done
@[simp] def W96_2 := C.w K96_2.eq_1
def K96_3 : Pl := .x 18 (.ia 1 (.v 6) (.v 8)) <|
 .o (.ex none (.store 1 (.v 18) (.v 17))) .done
@[simp] def W96_3 := Pl.w K96_3.eq_1
def K96_4 : C := .pl <| .e 6 13 <|
 .m 6 3 <|
 .a 7 5 <|
 .g 8 7 5 0 <|
 .m 9 3 <|
 .a 10 5 <|
 .g 11 10 5 0 <|
 .x 12 (.ia 1 (.v 9) (.v 11)) <|
 .l 13 12 <|
 .a 14 5 <|
 .g 15 14 5 3 <|
 .o (.psl 16 [.int .i64 0] [(0, 1, .v 15)]) <|
 .c 17 (.app 8 1 [.int .i64 0] (.o (.v 13)) (.p 1 16)) K96_3
@[simp] def W96_4 := C.w K96_4.eq_1
def K96_5 : C := .cond 6 (.v 14) K96_4 (.skip)
@[simp] def W96_5 := C.w K96_5.eq_1
def K96_6 : Pl := .x 14 (.un .not (.v 13)) .done
@[simp] def W96_6 := Pl.w K96_6.eq_1
def K96_7 : C := .seq (.pl <| .e 6 9 <|
 .m 6 3 <|
 .a 7 5 <|
 .g 8 7 5 0 <|
 .x 9 (.ia 1 (.v 6) (.v 8)) <|
 .l 10 9 <|
 .a 11 5 <|
 .g 12 11 5 3 <|
 .c 13 (.call fn_spec_l4In [.v 10, .v 12]) K96_6) K96_5
@[simp] def W96_7 := C.w K96_7.eq_1
def K96_8 : C := .seq (.block 1 (.seq (.pl <| .e 6 5 <|
 .a 6 1 <|
 .g 7 6 1 2 <|
 .m 8 4 <|
 .x 9 (.ia 4 (.v 7) (.v 8)) <|
 .o (.ld (some 10) (.v 9) (some 4)) <|
 .o (.pnew 5 (.c (.agg #[.int .i64 0, .int .i64 0, .int .i64 0, .int .i64 0])) []) <|
 .o (.pset none 5 0 4 (.v 10)) .done) K96_7)) K96_2
@[simp] def W96_8 := C.w K96_8.eq_1
def K96_9 : C := .cond 6 (.v 10) (.skip) (.exit 0)
@[simp] def W96_9 := C.w K96_9.eq_1
def K96_10 : C := .seq (.seq (.pl <| .e 6 5 <|
 .m 6 4 <|
 .a 7 1 <|
 .g 8 7 1 2 <|
 .x 9 (.lenV (.v 8)) <|
 .x 10 (.bin .lss (.v 6) (.v 9)) .done) K96_9) K96_8
@[simp] def W96_10 := C.w K96_10.eq_1
def K96_11 : C := .block 0 (.loop 6 [0, 2, 5] K96_10)
@[simp] def W96_11 := C.w K96_11.eq_1
def K96_12 : C := .seq (.seq (.pl <| .e 6 0 <|
 .x 4 (.mv (.c (.int .i64 0))) .done) K96_11) K96_1
@[simp] def W96_12 := C.w K96_12.eq_1
def K96_13 : Pl := .m 3 9 .done
@[simp] def W96_13 := Pl.w K96_13.eq_1
def K96_14 : C := .seq (.pl <| .e 6 4 <|
 .a 6 1 <|
 .g 7 6 1 1 <|
 .x 8 (.lenV (.v 7)) <|
 .c 9 (.mks 24 1 [.slice none 0 0] (.v 8) (.v 8)) K96_13) K96_12
@[simp] def W96_14 := C.w K96_14.eq_1
def B_spec_l7Next : C := .seq (.pl <| .e 6 0 <|
 .o (.pnew 1 (.v 0) []) <|
 .x 2 (.mv (.c (.slice none 0 0))) .done) K96_14
@[simp] def WB_spec_l7Next := C.w B_spec_l7Next.eq_1
def R_spec_l7Next : FIR := ⟨B_spec_l7Next, 6, [(2, none)]⟩
theorem IR_spec_l7Next : cfun Tryz.prog H_spec_l7Next Tryz.f96 = some R_spec_l7Next := by kernel_rfl
theorem EN_spec_l7Next : ENT Tryz.prog B_spec_l7Next [(2, none)] 1 6 fn_spec_l7Next := fun hargs hw => enter Tryz.func96 rfl IR_spec_l7Next hargs hw
def H_spec_l7Reach : Hint := ⟨[(0, false), (1, false), (4, false), (5, false), (6, false), (7, false), (8, false), (9, false), (10, false)], [[2, 6, 7, 8], [1, 2, 5, 7, 8], [1, 2, 5, 8]]⟩
def K95_1 : C := .seq (.pl <| .e 9 1 <|
 .m 9 4 <|
 .m 2 9 .done) (.ret)
@[simp] def W95_1 := C.w K95_1.eq_1
def K95_2 : C := .pl <| .e 9 2 <|
 .m 9 6 <|
 .x 10 (.bin .add (.v 9) (.c (.int .i64 1))) <|
 .m 6 10 .done
@[simp] def W95_2 := C.w K95_2.eq_1
def K95_3 : C := .pl <| .e 9 2 <|
 .m 9 7 <|
 .x 10 (.bin .add (.v 9) (.c (.int .i64 1))) <|
 .m 7 10 .done
@[simp] def W95_3 := C.w K95_3.eq_1
def K95_4 : Pl := .m 4 12 .done
@[simp] def W95_4 := Pl.w K95_4.eq_1
def K95_5 : C := .pl <| .e 9 4 <|
 .m 9 4 <|
 .m 10 8 <|
 .o (.psl 11 [.int .i64 0] [(0, 1, .v 10)]) <|
 .c 12 (.app 8 1 [.int .i64 0] (.o (.v 9)) (.p 1 11)) K95_4
@[simp] def W95_5 := C.w K95_5.eq_1
def K95_6 : C := .seq (.pl <| .e 9 3 <|
 .m 9 3 <|
 .m 10 8 <|
 .x 11 (.ia 1 (.v 9) (.v 10)) <|
 .o (.ex none (.store 1 (.v 11) (.c (.bool true)))) .done) K95_5
@[simp] def W95_6 := C.w K95_6.eq_1
def K95_7 : C := .cond 9 (.v 13) K95_6 (.skip)
@[simp] def W95_7 := C.w K95_7.eq_1
def K95_8 : C := .seq (.pl <| .e 9 5 <|
 .m 9 3 <|
 .m 10 8 <|
 .x 11 (.ia 1 (.v 9) (.v 10)) <|
 .l 12 11 <|
 .x 13 (.un .not (.v 12)) .done) K95_7
@[simp] def W95_8 := C.w K95_8.eq_1
def K95_9 : C := .seq (.block 5 (.seq (.pl <| .e 9 10 <|
 .m 9 0 <|
 .m 10 4 <|
 .m 11 6 <|
 .x 12 (.ia 1 (.v 10) (.v 11)) <|
 .l 13 12 <|
 .x 14 (.ia 1 (.v 9) (.v 13)) <|
 .l 15 14 <|
 .m 16 7 <|
 .x 17 (.ia 1 (.v 15) (.v 16)) <|
 .l 18 17 <|
 .m 8 18 .done) K95_8)) K95_3
@[simp] def W95_9 := C.w K95_9.eq_1
def K95_10 : C := .cond 9 (.v 18) (.skip) (.exit 4)
@[simp] def W95_10 := C.w K95_10.eq_1
def K95_11 : C := .seq (.seq (.pl <| .e 9 10 <|
 .m 9 7 <|
 .m 10 0 <|
 .m 11 4 <|
 .m 12 6 <|
 .x 13 (.ia 1 (.v 11) (.v 12)) <|
 .l 14 13 <|
 .x 15 (.ia 1 (.v 10) (.v 14)) <|
 .l 16 15 <|
 .x 17 (.lenV (.v 16)) <|
 .x 18 (.bin .lss (.v 9) (.v 17)) .done) K95_10) K95_9
@[simp] def W95_11 := C.w K95_11.eq_1
def K95_12 : C := .block 4 (.loop 9 [1, 2, 5, 8] K95_11)
@[simp] def W95_12 := C.w K95_12.eq_1
def K95_13 : C := .seq (.block 3 (.seq (.pl <| .e 9 0 <|
 .x 7 (.mv (.c (.int .i64 0))) .done) K95_12)) K95_2
@[simp] def W95_13 := C.w K95_13.eq_1
def K95_14 : C := .cond 9 (.v 12) (.skip) (.exit 2)
@[simp] def W95_14 := C.w K95_14.eq_1
def K95_15 : C := .seq (.seq (.pl <| .e 9 4 <|
 .m 9 6 <|
 .m 10 4 <|
 .x 11 (.lenV (.v 10)) <|
 .x 12 (.bin .lss (.v 9) (.v 11)) .done) K95_14) K95_13
@[simp] def W95_15 := C.w K95_15.eq_1
def K95_16 : C := .block 2 (.loop 9 [1, 2, 5, 7, 8] K95_15)
@[simp] def W95_16 := C.w K95_16.eq_1
def K95_17 : C := .seq (.seq (.pl <| .e 9 0 <|
 .x 6 (.mv (.c (.int .i64 0))) .done) K95_16) K95_1
@[simp] def W95_17 := C.w K95_17.eq_1
def K95_18 : C := .pl <| .e 9 2 <|
 .m 9 5 <|
 .x 10 (.bin .add (.v 9) (.c (.int .i64 1))) <|
 .m 5 10 .done
@[simp] def W95_18 := C.w K95_18.eq_1
def K95_19 : Pl := .m 4 15 .done
@[simp] def W95_19 := Pl.w K95_19.eq_1
def K95_20 : C := .pl <| .e 9 7 <|
 .m 9 4 <|
 .m 10 1 <|
 .m 11 5 <|
 .x 12 (.ia 1 (.v 10) (.v 11)) <|
 .l 13 12 <|
 .o (.psl 14 [.int .i64 0] [(0, 1, .v 13)]) <|
 .c 15 (.app 8 1 [.int .i64 0] (.o (.v 9)) (.p 1 14)) K95_19
@[simp] def W95_20 := C.w K95_20.eq_1
def K95_21 : C := .seq (.pl <| .e 9 6 <|
 .m 9 3 <|
 .m 10 1 <|
 .m 11 5 <|
 .x 12 (.ia 1 (.v 10) (.v 11)) <|
 .l 13 12 <|
 .x 14 (.ia 1 (.v 9) (.v 13)) <|
 .o (.ex none (.store 1 (.v 14) (.c (.bool true)))) .done) K95_20
@[simp] def W95_21 := C.w K95_21.eq_1
def K95_22 : C := .cond 9 (.v 16) K95_21 (.skip)
@[simp] def W95_22 := C.w K95_22.eq_1
def K95_23 : C := .seq (.block 1 (.seq (.pl <| .e 9 8 <|
 .m 9 3 <|
 .m 10 1 <|
 .m 11 5 <|
 .x 12 (.ia 1 (.v 10) (.v 11)) <|
 .l 13 12 <|
 .x 14 (.ia 1 (.v 9) (.v 13)) <|
 .l 15 14 <|
 .x 16 (.un .not (.v 15)) .done) K95_22)) K95_18
@[simp] def W95_23 := C.w K95_23.eq_1
def K95_24 : C := .cond 9 (.v 12) (.skip) (.exit 0)
@[simp] def W95_24 := C.w K95_24.eq_1
def K95_25 : C := .seq (.seq (.pl <| .e 9 4 <|
 .m 9 5 <|
 .m 10 1 <|
 .x 11 (.lenV (.v 10)) <|
 .x 12 (.bin .lss (.v 9) (.v 11)) .done) K95_24) K95_23
@[simp] def W95_25 := C.w K95_25.eq_1
def K95_26 : C := .block 0 (.loop 9 [2, 6, 7, 8] K95_25)
@[simp] def W95_26 := C.w K95_26.eq_1
def K95_27 : C := .seq (.seq (.pl <| .e 9 0 <|
 .x 5 (.mv (.c (.int .i64 0))) .done) K95_26) K95_17
@[simp] def W95_27 := C.w K95_27.eq_1
def K95_28 : Pl := .m 4 9 .done
@[simp] def W95_28 := Pl.w K95_28.eq_1
def K95_29 : C := .seq (.pl <| .e 9 1 <|
 .c 9 (.bls 1 0 [.int .i64 0] []) K95_28) K95_27
@[simp] def W95_29 := C.w K95_29.eq_1
def K95_30 : Pl := .m 3 11 .done
@[simp] def W95_30 := Pl.w K95_30.eq_1
def K95_31 : C := .seq (.pl <| .e 9 3 <|
 .m 9 0 <|
 .x 10 (.lenV (.v 9)) <|
 .c 11 (.mks 1 1 [.bool false] (.v 10) (.v 10)) K95_30) K95_29
@[simp] def W95_31 := C.w K95_31.eq_1
def B_spec_l7Reach : C := .seq (.pl <| .e 9 0 <|
 .x 2 (.mv (.c (.slice none 0 0))) .done) K95_31
@[simp] def WB_spec_l7Reach := C.w B_spec_l7Reach.eq_1
def R_spec_l7Reach : FIR := ⟨B_spec_l7Reach, 9, [(2, none)]⟩
theorem IR_spec_l7Reach : cfun Tryz.prog H_spec_l7Reach Tryz.f95 = some R_spec_l7Reach := by kernel_rfl
theorem EN_spec_l7Reach : ENT Tryz.prog B_spec_l7Reach [(2, none)] 2 9 fn_spec_l7Reach := fun hargs hw => enter Tryz.func95 rfl IR_spec_l7Reach hargs hw
end Go.Proofs.YtglnelcmcimljaaGreat

namespace Go.Proofs.YtglnelcmcimljaaGreat
open Go
end Go.Proofs.YtglnelcmcimljaaGreat

namespace Go.Proofs.YtglnelcmcimljaaGreat
open Go
theorem c_Clone_int {h : Heap} {a : Value} {x : List Int} (Ra : Rep h a x) (hs : x.length ≤ 1073741824) : CallE Tryz.prog fn_slices_Clone_S_int_int [a] h (fun v h' => HS h [ow v x] h') := by
  refine CallE.gen fun k hk => EN_slices_Clone_S_int_int rfl ?_
  obtain ⟨b, hb, hb2⟩ := Ra.isNil
  simp -implicitDefEqProofs (disch:=first|omega|(simp only[LnZ];omega))[wrap64, hb]
  refine IteW.mk (fun h1 => ?_) (fun h1 => ?_)
  · simp -implicitDefEqProofs (disch:=first|omega|(simp only[LnZ];omega))[wrap64]
    have h2 : x = [] := hb2 h1
    subst h2
    exact RetK.keep (hk _ _ HS.init.nil_ow)
  · simp -implicitDefEqProofs (disch:=first|omega|(simp only[LnZ];omega))[wrap64]
    refine HS.init.appPL (α := Int) (l2 := x) (u := a) rfl rfl Ra rfl rfl (by omega) fun v h1 H => ?_
    simp -implicitDefEqProofs (disch:=first|omega|(simp only[LnZ];omega))[wrap64]
    exact RetK.keep (hk _ _ H)
theorem c_Clip_int {g h : Heap} {Γ : List HP} {a : Value} {x : List Int} (H : HS g (ow a x :: Γ) h) : CallE Tryz.prog fn_slices_Clip_S_int_int [a] h (fun v h' => HS g (ow v x :: Γ) h') := by
  refine CallE.gen fun k hk => EN_slices_Clip_S_int_int rfl ?_
  obtain ⟨v', h1, h2⟩ := H.clip (esz := 1) (k := .i64)
  simp -implicitDefEqProofs (disch:=first|omega|(simp only[LnZ];omega))[wrap64, H.rep.I, h1]
  exact RetK.keep (hk _ _ h2)
theorem c_clone_int {h : Heap} {a : Value} {x : List Int} (Ra : Rep h a x) (hs : x.length ≤ 1073741824) : CallE Tryz.prog fn_impl_clone_int [a] h (fun v h' => HS h [ow v x] h') := by
  refine CallE.gen fun k hk => EN_impl_clone_int rfl ?_
  simp -implicitDefEqProofs (disch:=first|omega|(simp only[LnZ];omega))[wrap64]
  refine (c_Clone_int Ra hs).go ?_
  intro v h1 H
  simp -implicitDefEqProofs (disch:=first|omega|(simp only[LnZ];omega))[wrap64]
  refine (c_Clip_int H).go ?_
  intro v' h2 H
  simp -implicitDefEqProofs (disch:=first|omega|(simp only[LnZ];omega))[wrap64]
  exact RetK.keep (hk _ _ H)
theorem c_IndexFunc_impl_Transition {h : Heap} {a fv : Value} {x : List Tr} (Ra : Rep h a x) {f : FuncId} {c1 c2 : List Value} (hf : fnOf fv = some (f, c1, c2)) (p : Tr → Bool)
    (hp : ∀ h1, h.le h1 → ∀ (i : Nat) (hi : i < x.length) (u : Value), Rep h1 u x[i] → CallE Tryz.prog f (c1 ++ u :: c2) h1 (fun v h' => h1.le h' ∧ v = .bool (p x[i]))) :
    CallE Tryz.prog fn_slices_IndexFunc_S_impl_Transition_impl_Transition [a, fv] h (fun v h' => h.le h' ∧ v = .int .i64 (match x.findIdx? p with | some i => (i : Int) | none => -1)) := by
  refine CallE.gen fun k hk => EN_slices_IndexFunc_S_impl_Transition_impl_Transition rfl ?_
  have hL := Ra.lt
  simp -implicitDefEqProofs (disch:=first|omega|(simp only[LnZ];omega))[wrap64, Ra.len]
  refine wp_count x.length (fun i e h' => e = [some a, some fv, none, none, some (.int .i64 x.length), some (.int .i64 i)] ∧ h.le h' ∧ ∀ (j : Nat) (hj : j < x.length), j < i → p x[j] = false) ⟨rfl, Heap.le.refl h, fun j _ hj => absurd hj (Nat.not_lt_zero j)⟩ ?_
  rintro J i _ h1 hJ hi ⟨rfl, hl, hn⟩
  simp -implicitDefEqProofs (disch:=first|omega|(simp only[LnZ];omega))[wrap64]
  refine IteW.mk (fun hlt => ?_) (fun hge => ?_)
  · have hlx : i < x.length := by omega
    obtain ⟨u, hu, Ru⟩ := (Ra.le hl).ld hlx
    change hload _ (some (elp 4 a i)) (some 4) = some u at hu
    simp -implicitDefEqProofs (disch:=first|omega|(simp only[LnZ];omega))[wrap64, (Ra.le hl).X (n := 4) rfl, hu, hf]
    refine (hp h1 hl i hlx u Ru).go ?_
    rintro _ h2 ⟨hl2, rfl⟩
    simp -implicitDefEqProofs (disch:=first|omega|(simp only[LnZ];omega))[wrap64]
    refine IteW.mk (fun hq => ?_) (fun hq => ?_)
    · simp -implicitDefEqProofs (disch:=first|omega|(simp only[LnZ];omega))[wrap64]
      refine RetK.keep (hk _ _ ⟨hl.trans hl2, ?_⟩)
      have h3 : x.findIdx? p = some i := by
        rw [List.findIdx?_eq_some_iff_getElem]
        exact ⟨hlx, hq, fun j hj => by rw [hn j (by omega) hj]; simp⟩
      rw [h3]
    · simp -implicitDefEqProofs (disch:=first|omega|(simp only[LnZ];omega))[wrap64]
      refine hJ _ _ hlx ⟨rfl, hl.trans hl2, fun j hj hji => ?_⟩
      by_cases hji2 : j = i
      · subst hji2; simpa using hq
      · exact hn j hj (by omega)
  · simp -implicitDefEqProofs (disch:=first|omega|(simp only[LnZ];omega))[wrap64]
    refine RetK.keep (hk _ _ ⟨hl, ?_⟩)
    have h3 : x.findIdx? p = none := by
      rw [List.findIdx?_eq_none_iff]
      intro y hy
      obtain ⟨j, hj, rfl⟩ := List.mem_iff_getElem.1 hy
      exact hn j hj (by omega)
    rw [h3]
theorem c_ContainsFunc_impl_Transition {h : Heap} {a fv : Value} {x : List Tr} (Ra : Rep h a x) {f : FuncId} {c1 c2 : List Value} (hf : fnOf fv = some (f, c1, c2)) (p : Tr → Bool)
    (hp : ∀ h1, h.le h1 → ∀ (i : Nat) (hi : i < x.length) (u : Value), Rep h1 u x[i] → CallE Tryz.prog f (c1 ++ u :: c2) h1 (fun v h' => h1.le h' ∧ v = .bool (p x[i]))) :
    CallE Tryz.prog fn_slices_ContainsFunc_S_impl_Transition_impl_Transition [a, fv] h (fun v h' => h.le h' ∧ v = .bool (x.any p)) := by
  refine CallE.gen fun k hk => EN_slices_ContainsFunc_S_impl_Transition_impl_Transition rfl ?_
  simp -implicitDefEqProofs (disch:=first|omega|(simp only[LnZ];omega))[wrap64]
  refine (c_IndexFunc_impl_Transition Ra hf p hp).go ?_
  rintro _ h1 ⟨hl, rfl⟩
  simp -implicitDefEqProofs (disch:=first|omega|(simp only[LnZ];omega))[wrap64]
  refine RetK.keep (hk _ _ ⟨hl, ?_⟩)
  congr 1
  rw [← List.findIdx?_isSome]
  cases x.findIdx? p <;> simp
end Go.Proofs.YtglnelcmcimljaaGreat

namespace Go.Proofs.YtglnelcmcimljaaGreat
open Go
theorem empty_ow {g h : Heap} {Γ : List HP} (H : HS g Γ h) : HS g (ow (.agg #[.slice none 0 0, .slice none 0 0, .slice none 0 0]) Aut.empty :: Γ) h :=
  HS.mkAut (a := Aut.empty) H.nil_ow.nil_ow.nil_ow
theorem c_in {h : Heap} {n lo hi : Int} : CallE Tryz.prog fn_impl_in [.int .i64 n, .int .i64 lo, .int .i64 hi] h (fun u h' => h' = h ∧ u = .bool (decide (lo ≤ n ∧ n ≤ hi))) := by
  refine CallE.gen fun k hk => EN_impl_in rfl ?_
  by_cases h1 : lo ≤ n
  · simp -implicitDefEqProofs (disch:=first|omega|(simp only[LnZ];omega))[wrap64, h1]
    exact RetK.keep (hk _ _ ⟨rfl, by simp [h1]⟩)
  · simp -implicitDefEqProofs (disch:=first|omega|(simp only[LnZ];omega))[wrap64, h1]
    exact RetK.keep (hk _ _ ⟨rfl, by simp [h1]⟩)
theorem c_l7Edge {h : Heap} {v : Value} {t : Tr} (Rt : Rep h v t) {n : Int} : CallE Tryz.prog fn_spec_l7Edge [v, .int .i64 n] h (fun u h' => h' = h ∧ u = .bool (decide (t.Ok n))) := by
  rw [(Rep_Tr.1 Rt).1]
  refine CallE.gen fun k hk => EN_spec_l7Edge rfl ?_
  unfold Tr.Ok at hk
  by_cases h1 : 0 ≤ t.frm
  case neg => simp -implicitDefEqProofs (disch:=first|omega|(simp only[LnZ];omega))[wrap64, Tr.v, h1]; exact RetK.keep (hk _ _ ⟨rfl, by simp [h1]⟩)
  by_cases h2 : t.frm < n
  case neg => simp -implicitDefEqProofs (disch:=first|omega|(simp only[LnZ];omega))[wrap64, Tr.v, h1, h2]; exact RetK.keep (hk _ _ ⟨rfl, by simp [h2]⟩)
  by_cases h3 : 0 ≤ t.to
  case neg => simp -implicitDefEqProofs (disch:=first|omega|(simp only[LnZ];omega))[wrap64, Tr.v, h1, h2, h3]; exact RetK.keep (hk _ _ ⟨rfl, by simp [h3]⟩)
  by_cases h4 : t.to < n
  case neg => simp -implicitDefEqProofs (disch:=first|omega|(simp only[LnZ];omega))[wrap64, Tr.v, h1, h2, h3, h4]; exact RetK.keep (hk _ _ ⟨rfl, by simp [h4]⟩)
  by_cases h5 : 0 ≤ t.care
  case neg => simp -implicitDefEqProofs (disch:=first|omega|(simp only[LnZ];omega))[wrap64, Tr.v, h1, h2, h3, h4, h5]; exact RetK.keep (hk _ _ ⟨rfl, by simp [h5]⟩)
  by_cases h6 : t.care ≤ 7
  case neg => simp -implicitDefEqProofs (disch:=first|omega|(simp only[LnZ];omega))[wrap64, Tr.v, h1, h2, h3, h4, h5, h6]; exact RetK.keep (hk _ _ ⟨rfl, by simp [h6]⟩)
  by_cases h7 : 0 ≤ t.value
  case neg => simp -implicitDefEqProofs (disch:=first|omega|(simp only[LnZ];omega))[wrap64, Tr.v, h1, h2, h3, h4, h5, h6, h7]; exact RetK.keep (hk _ _ ⟨rfl, by simp [h7]⟩)
  simp -implicitDefEqProofs (disch:=first|omega|(simp only[LnZ];omega))[wrap64, Tr.v, h1, h2, h3, h4, h5, h6, h7]
  exact RetK.keep (hk _ _ ⟨rfl, by simp [h1, h2, h3, h4, h5, h6, h7]⟩)
end Go.Proofs.YtglnelcmcimljaaGreat

namespace Go.Proofs.YtglnelcmcimljaaGreat
open Go
theorem i64_toInt (x : BitVec 64) : IntKind.i64.wrap (x.toNat : Int) = x.toInt := by
  rw [IntKind.wrap_i64, BitVec.toInt_eq_toNat_bmod, Int.bmod_def]
  have := x.isLt
  split <;> omega
theorem ofInt_toInt {v : Int} (h1 : -9223372036854775808 ≤ v) (h2 : v < 9223372036854775808) : (BitVec.ofInt 64 v).toInt = v := by
  rw [BitVec.toInt_ofInt, Int.bmod_def]; split <;> omega
theorem bits_in {v c : Int} (h1 : -9223372036854775808 ≤ v) (h2 : v < 9223372036854775808) : andNotI .i64 v c = 0 ↔ andI .i64 v c = v := by
  show IntKind.i64.wrap ((BitVec.ofInt 64 v &&& ~~~ BitVec.ofInt 64 c).toNat : Int) = 0 ↔ IntKind.i64.wrap ((BitVec.ofInt 64 v &&& BitVec.ofInt 64 c).toNat : Int) = v
  have hv := ofInt_toInt h1 h2
  rw [i64_toInt, i64_toInt]
  generalize BitVec.ofInt 64 v = x at *
  generalize BitVec.ofInt 64 c = y at *
  subst hv
  rw [BitVec.toInt_inj, show (0 : Int) = (0#64).toInt from rfl, BitVec.toInt_inj]
  constructor
  · intro h
    apply BitVec.eq_of_getLsbD_eq
    intro i hi
    have h3 := congrArg (fun z => z.getLsbD i) h
    simp only [BitVec.getLsbD_and, BitVec.getLsbD_not, hi, decide_true, Bool.true_and, BitVec.getLsbD_zero] at h3
    rw [BitVec.getLsbD_and]
    cases h4 : x.getLsbD i <;> cases h5 : y.getLsbD i <;> simp_all
  · intro h
    apply BitVec.eq_of_getLsbD_eq
    intro i hi
    have h3 := congrArg (fun z => z.getLsbD i) h
    simp only [BitVec.getLsbD_and] at h3
    rw [BitVec.getLsbD_and, BitVec.getLsbD_not, BitVec.getLsbD_zero]
    cases h4 : x.getLsbD i <;> cases h5 : y.getLsbD i <;> simp_all
theorem c_AutomatonValid_1 {h : Heap} {v : Value} {t : Tr} (Rt : Rep h v t) {b : Nat} {n : Int} (hn : 1 ≤ n ∧ n < 4611686018427387904) (hb : hload h (some (.pointer (some ⟨b, 0, none⟩))) none = some (.int .i64 n)) :
    CallE Tryz.prog fn_impl_AutomatonValid_1 [v, .pointer (some ⟨b, 0, none⟩)] h (fun u h' => h' = h ∧ u = .bool (!decide (t.Ok n))) := by
  have ht := (Rep_Tr.1 Rt).2
  rw [(Rep_Tr.1 Rt).1]
  have e0 := ht.value
  refine CallE.gen fun k hk => EN_impl_AutomatonValid_1 rfl ?_
  simp -implicitDefEqProofs (disch:=first|omega|(simp only[LnZ];omega))[wrap64, Tr.v, hb]
  refine c_in.go ?_
  rintro _ _ ⟨rfl, rfl⟩
  by_cases h1 : 0 ≤ t.frm ∧ t.frm ≤ n - 1
  case neg =>
    simp -implicitDefEqProofs (disch:=first|omega|(simp only[LnZ];omega))[wrap64, h1]
    have hno : ¬ t.Ok n := fun ho => h1 (by unfold Tr.Ok at ho; omega)
    exact RetK.keep (hk _ _ ⟨rfl, by simp [hno]⟩)
  simp -implicitDefEqProofs (disch:=first|omega|(simp only[LnZ];omega))[wrap64, h1, hb]
  refine c_in.go ?_
  rintro _ _ ⟨rfl, rfl⟩
  by_cases h2 : 0 ≤ t.to ∧ t.to ≤ n - 1
  case neg =>
    simp -implicitDefEqProofs (disch:=first|omega|(simp only[LnZ];omega))[wrap64, h2]
    have hno : ¬ t.Ok n := fun ho => h2 (by unfold Tr.Ok at ho; omega)
    exact RetK.keep (hk _ _ ⟨rfl, by simp [hno]⟩)
  simp -implicitDefEqProofs (disch:=first|omega|(simp only[LnZ];omega))[wrap64, h2]
  refine c_in.go ?_
  rintro _ _ ⟨rfl, rfl⟩
  by_cases h3 : 0 ≤ t.care ∧ t.care ≤ 7
  case neg =>
    simp -implicitDefEqProofs (disch:=first|omega|(simp only[LnZ];omega))[wrap64, h3]
    have hno : ¬ t.Ok n := fun ho => h3 (by unfold Tr.Ok at ho; omega)
    exact RetK.keep (hk _ _ ⟨rfl, by simp [hno]⟩)
  by_cases h4 : t.value < 0
  case pos =>
    simp -implicitDefEqProofs (disch:=first|omega|(simp only[LnZ];omega))[wrap64, h3, h4]
    have hno : ¬ t.Ok n := fun ho => by unfold Tr.Ok at ho; omega
    exact RetK.keep (hk _ _ ⟨rfl, by simp [hno]⟩)
  simp -implicitDefEqProofs (disch:=first|omega|(simp only[LnZ];omega))[wrap64, h3, h4]
  refine RetK.keep (hk _ _ ⟨rfl, ?_⟩)
  have h5 := bits_in (c := t.care) e0.1 e0.2
  by_cases h6 : andNotI .i64 t.value t.care = 0
  · have hyes : t.Ok n := ⟨by omega, by omega, by omega, by omega, by omega, by omega, by omega, h5.1 h6⟩
    simp [h6, hyes]
  · have hno : ¬ t.Ok n := fun h => h6 (h5.2 h.2.2.2.2.2.2.2)
    simp [h6, hno]
theorem drop_cons {α : Type} {l : List α} {i : Nat} (hi : i < l.length) : l.drop i = l[i] :: l.drop (i + 1) := List.drop_eq_getElem_cons hi
theorem incr_cons {n lo x : Int} {l : List Int} : incr n lo (x :: l) ↔ lo < x ∧ x < n ∧ incr n x l := Iff.rfl
theorem c_AutomatonValid {h : Heap} {v : Value} {a : Aut} (Ra : Rep h v a) : CallE Tryz.prog fn_impl_AutomatonValid [v] h (fun u h' => h.le h' ∧ u = .bool (decide a.Ok)) := by
  obtain ⟨v1, v2, v3, rfl, R1, R2, R3⟩ := Rep_Aut.1 Ra
  refine CallE.gen fun k hk => EN_impl_AutomatonValid rfl ?_
  have l1 := R1.lt
  have l2 := R2.lt
  simp -implicitDefEqProofs (disch:=first|omega|(simp only[LnZ];omega))[wrap64, R1.len, R2.len, R3.len]
  refine HS.init.alloc rfl fun b h1 H => ?_
  simp -implicitDefEqProofs (disch:=first|omega|(simp only[LnZ];omega))[wrap64]
  refine H.bxst (u := .int .i64 a.acc.length) rfl rfl rfl rfl (by simp) fun h2 H => ?_
  simp only [setC, cells_int, List.take_zero, List.nil_append] at H
  simp -implicitDefEqProofs (disch:=first|omega|(simp only[LnZ];omega))[wrap64, R1.len, R2.len, R3.len]
  have H : HS h [bx b [.int .i64 a.acc.length]] h2 := H
  refine wp_count a.init.length (fun i e h' => h' = h2 ∧ ∃ last : Int, e = [none, some (.agg #[v1, v2, v3]), none, some (.pointer (some ⟨b, 0, none⟩)), some (.int .i64 last), none, some v1, some (.int .i64 a.init.length), some (.int .i64 i)] ∧
      -1 ≤ last ∧ last < 4611686018427387904 ∧ (incr a.acc.length (-1) a.init ↔ incr a.acc.length last (a.init.drop i))) ⟨rfl, -1, rfl, by omega, by omega, by simp⟩ ?_
  rintro J i _ _ hJ hi ⟨rfl, last, rfl, hl1, hl2, hin⟩
  simp -implicitDefEqProofs (disch:=first|omega|(simp only[LnZ];omega))[wrap64]
  refine IteW.mk (fun hlt => ?_) (fun hge => ?_)
  · have hlx : i < a.init.length := by omega
    simp -implicitDefEqProofs (disch:=first|omega|(simp only[LnZ];omega))[wrap64, (R1.on H).I, H.bxld0]
    refine c_in.go ?_
    rintro _ _ ⟨rfl, rfl⟩
    simp -implicitDefEqProofs (disch:=first|omega|(simp only[LnZ];omega))[wrap64]
    rw [drop_cons hlx, incr_cons] at hin
    refine IteW.mk (fun hn => ?_) (fun hn => ?_)
    · simp -implicitDefEqProofs (disch:=first|omega|(simp only[LnZ];omega))[wrap64]
      refine RetK.keep (hk _ _ ⟨H.base, ?_⟩)
      have : ¬ a.Ok := by
        intro ho
        have := hin.1 ho.i
        omega
      simp [this]
    · simp -implicitDefEqProofs (disch:=first|omega|(simp only[LnZ];omega))[wrap64]
      exact hJ _ _ hlx ⟨rfl, _, rfl, by omega, by omega, hin.trans ⟨fun h => h.2.2, fun h => ⟨by omega, by omega, h⟩⟩⟩
  · simp -implicitDefEqProofs (disch:=first|omega|(simp only[LnZ];omega))[wrap64, H.bxld0]
    have hin : incr a.acc.length (-1) a.init := hin.2 (by rw [List.drop_eq_nil_of_le (by omega)]; trivial)
    refine c_in.go ?_
    rintro _ _ ⟨rfl, rfl⟩
    by_cases hn : 1 ≤ (a.acc.length : Int) ∧ (a.acc.length : Int) ≤ 64
    case neg =>
      simp -implicitDefEqProofs (disch:=first|omega|(simp only[LnZ];omega))[wrap64, hn]
      refine RetK.keep (hk _ _ ⟨H.base, ?_⟩)
      have : ¬ a.Ok := fun ho => hn (by have := ho.n; omega)
      simp [this]
    by_cases he : (a.edges.length : Int) ≤ 2048
    case neg =>
      simp -implicitDefEqProofs (disch:=first|omega|(simp only[LnZ];omega))[wrap64, hn, he, R3.len]
      refine RetK.keep (hk _ _ ⟨H.base, ?_⟩)
      have : ¬ a.Ok := fun ho => he (by have := ho.e; omega)
      simp [this]
    simp -implicitDefEqProofs (disch:=first|omega|(simp only[LnZ];omega))[wrap64, hn, he, R3.len]
    refine (c_ContainsFunc_impl_Transition (R3.on H) (c1 := []) (fnOf_func) (fun t => !decide (t.Ok a.acc.length)) ?_).go ?_
    · intro h3 hl j hj u Ru
      exact (c_AutomatonValid_1 Ru (by omega) (hload_le hl H.bxld0)).to fun _ _ ⟨h4, h5⟩ => ⟨h4 ▸ Heap.le.refl _, h5⟩
    · rintro _ h3 ⟨hl, rfl⟩
      simp -implicitDefEqProofs (disch:=first|omega|(simp only[LnZ];omega))[wrap64]
      refine RetK.keep (hk _ _ ⟨H.base.trans hl, ?_⟩)
      congr 1
      have hnn : 1 ≤ a.acc.length ∧ a.acc.length ≤ 64 := by omega
      have hee : a.edges.length ≤ 2048 := by omega
      simp only [Aut.Ok, hnn, hee, hin, true_and]
      rw [Bool.eq_iff_iff]
      simp
theorem c_spec_AutomatonValid {h : Heap} {v : Value} {a : Aut} (Ra : Rep h v a) : CallE Tryz.prog fn_spec_AutomatonValid [v] h (fun u h' => h' = h ∧ u = .bool (decide a.Ok)) := by
  obtain ⟨v1, v2, v3, rfl, R1, R2, R3⟩ := Rep_Aut.1 Ra
  refine CallE.gen fun k hk => EN_spec_AutomatonValid rfl ?_
  have l1 := R1.lt
  have l2 := R2.lt
  have l3 := R3.lt
  simp -implicitDefEqProofs (disch:=first|omega|(simp only[LnZ];omega))[wrap64, R1.len, R2.len, R3.len]
  by_cases h1 : (a.acc.length : Int) < 1
  case pos =>
    simp -implicitDefEqProofs (disch:=first|omega|(simp only[LnZ];omega))[wrap64, h1]
    have hno : ¬ a.Ok := fun ho => by have := ho.n; omega
    exact RetK.keep (hk _ _ ⟨rfl, by simp [hno]⟩)
  by_cases h2 : 64 < (a.acc.length : Int)
  case pos =>
    simp -implicitDefEqProofs (disch:=first|omega|(simp only[LnZ];omega))[wrap64, h1, h2]
    have hno : ¬ a.Ok := fun ho => by have := ho.n; omega
    exact RetK.keep (hk _ _ ⟨rfl, by simp [hno]⟩)
  by_cases h3 : (a.acc.length : Int) < a.init.length
  case pos =>
    simp -implicitDefEqProofs (disch:=first|omega|(simp only[LnZ];omega))[wrap64, h1, h2, R1.len, h3]
    have hno : ¬ a.Ok := fun ho => by
      have h1 := incr_len ho.i (by have := ho.n; omega)
      omega
    exact RetK.keep (hk _ _ ⟨rfl, by simp [hno]⟩)
  by_cases h4 : 2048 < (a.edges.length : Int)
  case pos =>
    simp -implicitDefEqProofs (disch:=first|omega|(simp only[LnZ];omega))[wrap64, h1, h2, R1.len, h3, R3.len, h4]
    have hno : ¬ a.Ok := fun ho => by have := ho.e; omega
    exact RetK.keep (hk _ _ ⟨rfl, by simp [hno]⟩)
  simp -implicitDefEqProofs (disch:=first|omega|(simp only[LnZ];omega))[wrap64, h1, h2, R1.len, h3, R3.len, h4]
  refine wp_count a.init.length (fun i e h' => h' = h ∧ e = [none, some (.agg #[v1, v2, v3]), none, some (.int .i64 a.acc.length), some (.int .i64 i), none] ∧
      (incr a.acc.length (-1) a.init ↔ incr a.acc.length (if i = 0 then -1 else a.init.getD (i - 1) 0) (a.init.drop i))) ⟨rfl, rfl, by simp⟩ ?_
  rintro J i _ _ hJ hi ⟨rfl, rfl, hin⟩
  simp -implicitDefEqProofs (disch:=first|omega|(simp only[LnZ];omega))[wrap64, R1.len]
  refine IteW.mk (fun hlt => ?_) (fun hge => ?_)
  · have hlx : i < a.init.length := by omega
    rw [drop_cons hlx, incr_cons] at hin
    have hgd : a.init.getD (i + 1 - 1) 0 = a.init[i] := by simp [hlx]
    by_cases h5 : a.init[i] < 0
    case pos =>
      simp -implicitDefEqProofs (disch:=first|omega|(simp only[LnZ];omega))[wrap64, R1.I, h5]
      have hno : ¬ a.Ok := fun ho => by have := ho.im hlx; omega
      exact RetK.keep (hk _ _ ⟨rfl, by simp [hno]⟩)
    by_cases h6 : (a.acc.length : Int) ≤ a.init[i]
    case pos =>
      simp -implicitDefEqProofs (disch:=first|omega|(simp only[LnZ];omega))[wrap64, R1.I, h5, h6]
      have hno : ¬ a.Ok := fun ho => by have := ho.im hlx; omega
      exact RetK.keep (hk _ _ ⟨rfl, by simp [hno]⟩)
    by_cases h7 : 0 < i
    · have hj : i - 1 < a.init.length := by omega
      have hii : (i : Int) - 1 = ((i - 1 : Nat) : Int) := by omega
      have hw : IntKind.i64.wrap ((i : Int) - 1) = ((i - 1 : Nat) : Int) := by rw [wrap64 (by omega) (by omega), hii]
      have hgd2 : a.init.getD (i - 1) 0 = a.init[i - 1] := by simp [hj]
      rw [if_neg (by omega), hgd2] at hin
      simp -implicitDefEqProofs (disch:=first|omega|(simp only[LnZ];omega))[wrap64, R1.I, h5, h6, h7, hw]
      refine IteW.mk (fun h8 => ?_) (fun h8 => ?_)
      · simp -implicitDefEqProofs (disch:=first|omega|(simp only[LnZ];omega))[wrap64]
        have hno : ¬ a.Ok := fun ho => by have := (hin.1 ho.i).1; omega
        exact RetK.keep (hk _ _ ⟨rfl, by simp [hno]⟩)
      · simp -implicitDefEqProofs (disch:=first|omega|(simp only[LnZ];omega))[wrap64]
        exact hJ _ _ hlx ⟨rfl, rfl, by rw [if_neg (by omega), hgd]; exact hin.trans ⟨fun h => h.2.2, fun h => ⟨by omega, by omega, h⟩⟩⟩
    · have h0 : i = 0 := by omega
      subst h0
      rw [if_pos rfl] at hin
      simp -implicitDefEqProofs (disch:=first|omega|(simp only[LnZ];omega))[wrap64, R1.I, h5, h6]
      exact hJ _ _ hlx ⟨rfl, rfl, by rw [if_neg (by omega), hgd]; exact hin.trans ⟨fun h => h.2.2, fun h => ⟨by omega, by omega, h⟩⟩⟩
  · have hin : incr a.acc.length (-1) a.init := hin.2 (by rw [List.drop_eq_nil_of_le (by omega)]; trivial)
    simp -implicitDefEqProofs (disch:=first|omega|(simp only[LnZ];omega))[wrap64]
    refine wp_count a.edges.length (fun i e h' => h' = _ ∧ e = [none, some (.agg #[v1, v2, v3]), none, some (.int .i64 a.acc.length), none, some (.int .i64 i)] ∧
      ∀ (j : Nat) (hj : j < a.edges.length), j < i → a.edges[j].Ok a.acc.length) ⟨rfl, rfl, fun j _ hj => absurd hj (Nat.not_lt_zero j)⟩ ?_
    rintro J i _ _ hJ hi ⟨rfl, rfl, hn⟩
    simp -implicitDefEqProofs (disch:=first|omega|(simp only[LnZ];omega))[wrap64, R3.len]
    refine IteW.mk (fun hlt => ?_) (fun hge => ?_)
    · have hlx : i < a.edges.length := by omega
      simp -implicitDefEqProofs (disch:=first|omega|(simp only[LnZ];omega))[wrap64, R3.xTr]
      refine (c_l7Edge (Rep_Tr.2 ⟨rfl, R3.okTr hlx⟩)).go ?_
      rintro _ _ ⟨rfl, rfl⟩
      simp -implicitDefEqProofs (disch:=first|omega|(simp only[LnZ];omega))[wrap64]
      refine IteW.mkr (fun h8 => ?_) (fun h8 => ?_)
      · simp -implicitDefEqProofs (disch:=first|omega|(simp only[LnZ];omega))[wrap64]
        have hno : ¬ a.Ok := fun ho => h8 (ho.t hlx)
        exact RetK.keep (hk _ _ ⟨rfl, by simp [hno]⟩)
      · simp -implicitDefEqProofs (disch:=first|omega|(simp only[LnZ];omega))[wrap64]
        refine hJ _ _ hlx ⟨rfl, rfl, fun j hj hji => ?_⟩
        by_cases hji2 : j = i
        · subst hji2; exact h8
        · exact hn j hj (by omega)
    · simp -implicitDefEqProofs (disch:=first|omega|(simp only[LnZ];omega))[wrap64]
      have hyes : a.Ok := ⟨by omega, by omega, hin, fun t ht => by
        obtain ⟨j, hj, rfl⟩ := List.mem_iff_getElem.1 ht
        exact hn j hj (by omega)⟩
      exact RetK.keep (hk _ _ ⟨rfl, by simp [hyes]⟩)
end Go.Proofs.YtglnelcmcimljaaGreat

namespace Go.Proofs.YtglnelcmcimljaaGreat
open Go
section
variable {α : Type} [Ty α] {g h : Heap} {Γ : List HP} {v u : Value} {l : List α}
theorem HS.cut (H : HS g (ow v l :: Γ) h) {n esz : Nat} {k : IntKind} (hn : n ≤ l.length) : ∃ v', sliceVV esz v none (some (some (.int k n))) none = some v' ∧ HS g (ow v' (l.take n) :: Γ) h := by
  obtain ⟨g', r, rfl, d, O, H⟩ := H
  rcases Own_list.1 O with ⟨p, rfl, rfl, rfl, hp⟩ | ⟨b, off, cap, cells, el, r', rfl, ⟨h1, hM⟩, h2, rfl, h4, h5⟩
  · have hn0 : n = 0 := by simpa using hn
    subst hn0
    exact ⟨.slice p 0 0, by simp [sliceVV, bndV], g', Heap.nil, rfl, d, Own_list.2 (.inl ⟨p, rfl, by simp, rfl, hp⟩), H⟩
  · rw [← List.take_append_drop n l] at h5
    obtain ⟨r1, r2, rfl, d2, h6, h7⟩ := ownL_split h5
    obtain ⟨d3, d4⟩ := Dj_add.1 d
    obtain ⟨d5, d6⟩ := Dj_add.1 d4
    obtain ⟨n1, n2⟩ : r1 b = none ∧ r2 b = none := by simpa [Heap.add] using h4
    refine ⟨.slice (some ⟨b, off, none⟩) n cap, ?_, g'.add r2, (Heap.one b (.cells cells.toArray el (0, 0))).add r1, by ac_rfl, ?_, ?_, H.le (le_add d6)⟩
    · have : n ≤ cap := by omega
      simp [sliceVV, bndV, add_none, this]
    · exact Dj_add.2 ⟨add_Dj.2 ⟨d3, (Dj_one.2 n2)⟩, add_Dj.2 ⟨d5, d2.symm⟩⟩
    · have hl : (l.take n).length = n := by simp; omega
      exact Own_list.2 (.inr ⟨b, off, cap, cells, el, r1, by rw [hl], ⟨by omega, by omega⟩, h2, rfl, n1, h6⟩)
end
theorem c_Index_int {h : Heap} {a : Value} {x : List Int} (Ra : Rep h a x) {n : Int} : CallE Tryz.prog fn_slices_Index_S_int_int [a, .int .i64 n] h (fun v h' => h' = h ∧ ∃ r : Int, v = .int .i64 r ∧ (0 ≤ r ↔ n ∈ x)) := by
  refine CallE.gen fun k hk => EN_slices_Index_S_int_int rfl ?_
  have hL := Ra.lt
  simp -implicitDefEqProofs (disch:=first|omega|(simp only[LnZ];omega))[wrap64, Ra.len]
  refine wp_count x.length (fun i e h' => e = [some a, some (.int .i64 n), none, none, some (.int .i64 x.length), some (.int .i64 i)] ∧ h' = h ∧ ∀ (j : Nat) (hj : j < x.length), j < i → x[j] ≠ n) ⟨rfl, rfl, fun j _ hj => absurd hj (Nat.not_lt_zero j)⟩ ?_
  rintro J i _ h1 hJ hi ⟨rfl, rfl, hn⟩
  simp -implicitDefEqProofs (disch:=first|omega|(simp only[LnZ];omega))[wrap64]
  refine IteW.mk (fun hlt => ?_) (fun hge => ?_)
  · have hlx : i < x.length := by omega
    simp -implicitDefEqProofs (disch:=first|omega|(simp only[LnZ];omega))[wrap64, Ra.I]
    refine IteW.mk (fun hq => ?_) (fun hq => ?_)
    · simp -implicitDefEqProofs (disch:=first|omega|(simp only[LnZ];omega))[wrap64]
      exact RetK.keep (hk _ _ ⟨rfl, i, rfl, by simp only [Int.natCast_nonneg, true_iff]; rw [hq]; exact List.getElem_mem hlx⟩)
    · simp -implicitDefEqProofs (disch:=first|omega|(simp only[LnZ];omega))[wrap64]
      refine hJ _ _ hlx ⟨rfl, rfl, fun j hj hji => ?_⟩
      by_cases hji2 : j = i
      · subst hji2; exact fun e => hq e.symm
      · exact hn j hj (by omega)
  · simp -implicitDefEqProofs (disch:=first|omega|(simp only[LnZ];omega))[wrap64]
    refine RetK.keep (hk _ _ ⟨rfl, -1, rfl, ?_⟩)
    simp only [show ¬ (0 : Int) ≤ -1 by decide, false_iff]
    intro hm
    obtain ⟨j, hj, h1⟩ := List.mem_iff_getElem.1 hm
    exact hn j hj (by omega) h1
theorem c_Contains_int {h : Heap} {a : Value} {x : List Int} (Ra : Rep h a x) {n : Int} : CallE Tryz.prog fn_slices_Contains_S_int_int [a, .int .i64 n] h (fun v h' => h' = h ∧ v = .bool (decide (n ∈ x))) := by
  refine CallE.gen fun k hk => EN_slices_Contains_S_int_int rfl ?_
  simp -implicitDefEqProofs (disch:=first|omega|(simp only[LnZ];omega))[wrap64]
  refine (c_Index_int Ra).go ?_
  rintro _ h1 ⟨rfl, r, rfl, hr⟩
  simp -implicitDefEqProofs (disch:=first|omega|(simp only[LnZ];omega))[wrap64]
  exact RetK.keep (hk _ _ ⟨rfl, by congr 1; rw [Bool.eq_iff_iff]; simp [hr]⟩)
theorem c_l4In {h : Heap} {a : Value} {x : List Int} (Ra : Rep h a x) {n : Int} : CallE Tryz.prog fn_spec_l4In [a, .int .i64 n] h (fun v h' => h' = h ∧ v = .bool (decide (n ∈ x))) := by
  refine CallE.gen fun k hk => EN_spec_l4In rfl ?_
  have hL := Ra.lt
  simp -implicitDefEqProofs (disch:=first|omega|(simp only[LnZ];omega))[wrap64]
  refine wp_count x.length (fun i e h' => e = [some a, some (.int .i64 n), none, some (.int .i64 i)] ∧ h' = h ∧ ∀ (j : Nat) (hj : j < x.length), j < i → x[j] ≠ n) ⟨rfl, rfl, fun j _ hj => absurd hj (Nat.not_lt_zero j)⟩ ?_
  rintro J i _ h1 hJ hi ⟨rfl, rfl, hn⟩
  simp -implicitDefEqProofs (disch:=first|omega|(simp only[LnZ];omega))[wrap64, Ra.len]
  refine IteW.mk (fun hlt => ?_) (fun hge => ?_)
  · have hlx : i < x.length := by omega
    simp -implicitDefEqProofs (disch:=first|omega|(simp only[LnZ];omega))[wrap64, Ra.I]
    refine IteW.mk (fun hq => ?_) (fun hq => ?_)
    · simp -implicitDefEqProofs (disch:=first|omega|(simp only[LnZ];omega))[wrap64]
      exact RetK.keep (hk _ _ ⟨rfl, by congr 1; rw [eq_comm, decide_eq_true_iff, ← hq]; exact List.getElem_mem hlx⟩)
    · simp -implicitDefEqProofs (disch:=first|omega|(simp only[LnZ];omega))[wrap64]
      refine hJ _ _ hlx ⟨rfl, rfl, fun j hj hji => ?_⟩
      by_cases hji2 : j = i
      · subst hji2; exact hq
      · exact hn j hj (by omega)
  · simp -implicitDefEqProofs (disch:=first|omega|(simp only[LnZ];omega))[wrap64]
    refine RetK.keep (hk _ _ ⟨rfl, ?_⟩)
    congr 1
    rw [eq_comm, decide_eq_false_iff_not]
    intro hm
    obtain ⟨j, hj, h1⟩ := List.mem_iff_getElem.1 hm
    exact hn j hj (by omega) h1
theorem c_next {h : Heap} {v : Value} {a : Aut} (Ra : Rep h v a) (ha : a.Ok) : CallE Tryz.prog fn_impl_Automaton_next [v] h (fun u h' => ∃ G, HS h [ow u G] h' ∧ Adj a.E G ∧ G.length = a.acc.length) := by
  obtain ⟨v1, v2, v3, rfl, R1, R2, R3⟩ := Rep_Aut.1 Ra
  refine CallE.gen fun k hk => EN_impl_Automaton_next rfl ?_
  have hn := ha.n
  have he := ha.e
  simp -implicitDefEqProofs (disch:=first|omega|(simp only[LnZ];omega))[wrap64, R2.len]
  refine HS.init.mks (α := List Int) (z := []) rfl rfl own_nils (Nat.le_refl _) (by omega) (by omega) fun w h1 H => ?_
  simp -implicitDefEqProofs (disch:=first|omega|(simp only[LnZ];omega))[wrap64, (R3.on H).len]
  refine wp_count a.edges.length (fun i e h' => ∃ G, e = [none, none, none, some w, none, some v3, some (.int .i64 a.edges.length), some (.int .i64 i)] ∧ HS h [ow w G] h' ∧ NextI a i G) ⟨_, by simp, H, NextI.zero⟩ ?_
  rintro J i _ h2 hJ hi ⟨G, rfl, H, hG⟩
  simp -implicitDefEqProofs (disch:=first|omega|(simp only[LnZ];omega))[wrap64]
  refine IteW.mk (fun hlt => ?_) (fun hge => ?_)
  · have hlx : i < a.edges.length := by omega
    have hx := ha.t hlx
    unfold Tr.Ok at hx
    obtain ⟨f, hf⟩ : ∃ f : Nat, a.edges[i].frm = f := ⟨a.edges[i].frm.toNat, by omega⟩
    obtain ⟨t, ht⟩ : ∃ t : Nat, a.edges[i].to = t := ⟨a.edges[i].to.toNat, by omega⟩
    have hfG : f < G.length := by rw [hG.len]; omega
    have hle := hG.le f hfG
    have R3' := R3.on H
    obtain ⟨u, hu, H⟩ := H.take hfG
    change hload _ (some (elp 1 w f)) none = some u at hu
    simp -implicitDefEqProofs (disch:=first|omega|(simp only[LnZ];omega))[wrap64, R3'.xTr, Tr.v, setC, hf, ht, H.sw1.holeia (n := 1) rfl, hu]
    refine H.app1 (t : Int) rfl rfl rfl ⟨by omega, by omega⟩ rfl rfl (by omega) (by omega) fun u' h3 H => ?_
    simp -implicitDefEqProofs (disch:=first|omega|(simp only[LnZ];omega))[wrap64, H.sw1.holeia (n := 1) rfl]
    refine H.storeH rfl rfl rfl fun h4 H => ?_
    simp -implicitDefEqProofs (disch:=first|omega|(simp only[LnZ];omega))[wrap64]
    exact hJ _ _ hlx ⟨_, rfl, H, hG.step hlx hf ht hfG⟩
  · simp -implicitDefEqProofs (disch:=first|omega|(simp only[LnZ];omega))[wrap64]
    exact RetK.keep (hk _ _ ⟨G, H, hG.done ha (by omega), hG.len⟩)
theorem c_l7Next {h : Heap} {v : Value} {a : Aut} (Ra : Rep h v a) (ha : a.Ok) : CallE Tryz.prog fn_spec_l7Next [v] h (fun u h' => ∃ G, HS h [ow u G] h' ∧ Adj a.E G ∧ G.length = a.acc.length ∧ ∀ x (hx : x < G.length), G[x].length ≤ 2048) := by
  obtain ⟨v1, v2, v3, rfl, R1, R2, R3⟩ := Rep_Aut.1 Ra
  refine CallE.gen fun k hk => EN_spec_l7Next rfl ?_
  have hn := ha.n
  have he := ha.e
  simp -implicitDefEqProofs (disch:=first|omega|(simp only[LnZ];omega))[wrap64, R2.len]
  refine HS.init.mks (α := List Int) (z := []) rfl rfl own_nils (Nat.le_refl _) (by omega) (by omega) fun w h1 H => ?_
  simp -implicitDefEqProofs (disch:=first|omega|(simp only[LnZ];omega))[wrap64]
  refine wp_count a.edges.length (fun i e h' => ∃ G, e = [none, some (.agg #[v1, v2, v3]), none, some w, some (.int .i64 i), none] ∧ HS h [ow w G] h' ∧ NextI a i G) ⟨_, by simp, H, NextI.zero⟩ ?_
  rintro J i _ h2 hJ hi ⟨G, rfl, H, hG⟩
  simp -implicitDefEqProofs (disch:=first|omega|(simp only[LnZ];omega))[wrap64, (R3.on H).len]
  refine IteW.mk (fun hlt => ?_) (fun hge => ?_)
  · have hlx : i < a.edges.length := by omega
    have hx := ha.t hlx
    unfold Tr.Ok at hx
    obtain ⟨f, hf⟩ : ∃ f : Nat, a.edges[i].frm = f := ⟨a.edges[i].frm.toNat, by omega⟩
    obtain ⟨t, ht⟩ : ∃ t : Nat, a.edges[i].to = t := ⟨a.edges[i].to.toNat, by omega⟩
    have hfG : f < G.length := by rw [hG.len]; omega
    have hle := hG.le f hfG
    have R3' := R3.on H
    obtain ⟨u, hu, Ru⟩ := H.rep.ldL hfG
    simp -implicitDefEqProofs (disch:=first|omega|(simp only[LnZ];omega))[wrap64, R3'.xTr, Tr.v, setC, hf, ht, H.rep.X (n := 1) rfl, hu]
    refine (c_l4In Ru).go ?_
    rintro _ _ ⟨rfl, rfl⟩
    by_cases hm : (t : Int) ∈ G[f]
    · simp -implicitDefEqProofs (disch:=first|omega|(simp only[LnZ];omega))[wrap64, hm]
      exact hJ _ _ hlx ⟨_, by simp, H, hG.skip hlx hf ht hfG hm⟩
    · obtain ⟨u, hu, H⟩ := H.take hfG
      change hload _ (some (elp 1 w f)) none = some u at hu
      simp -implicitDefEqProofs (disch:=first|omega|(simp only[LnZ];omega))[wrap64, hm, hf, ht, H.sw1.holeia (n := 1) rfl, hu]
      refine H.app1 (t : Int) rfl rfl rfl ⟨by omega, by omega⟩ rfl rfl (by omega) (by omega) fun u' h3 H => ?_
      simp -implicitDefEqProofs (disch:=first|omega|(simp only[LnZ];omega))[wrap64, H.sw1.holeia (n := 1) rfl]
      refine H.storeH rfl rfl rfl fun h4 H => ?_
      simp -implicitDefEqProofs (disch:=first|omega|(simp only[LnZ];omega))[wrap64]
      exact hJ _ _ hlx ⟨_, by simp, H, hG.step hlx hf ht hfG⟩
  · simp -implicitDefEqProofs (disch:=first|omega|(simp only[LnZ];omega))[wrap64]
    exact RetK.keep (hk _ _ ⟨G, H, hG.done ha (by omega), hG.len, fun x hx => by have := hG.le x hx; omega⟩)
end Go.Proofs.YtglnelcmcimljaaGreat

namespace Go.Proofs.YtglnelcmcimljaaGreat
open Go
theorem take_mem_succ {α : Type} {l : List α} {i : Nat} (hi : i < l.length) {x : α} : x ∈ l.take (i + 1) ↔ x ∈ l.take i ∨ x = l[i] := by
  rw [List.take_add_one, List.getElem?_eq_getElem hi]
  simp only [Option.toList_some, List.mem_append, List.mem_singleton]
theorem snoc_of {α : Type} {l : List α} (h : 0 < l.length) : ∃ l' x, l = l' ++ [x] := by
  refine ⟨l.dropLast, l.getLast (List.ne_nil_of_length_pos h), ?_⟩
  exact (List.dropLast_concat_getLast _).symm
theorem c_reachable {h : Heap} {w s : Value} {G : List (List Int)} {S : List Int} {E : Nat → Nat → Prop} (Rw : Rep h w G) (Rs : Rep h s S) (hG : Adj E G) (hS : ∀ z ∈ S, 0 ≤ z ∧ z < G.length) (hSl : S.length ≤ 1048576) (hGl : G.length ≤ 1048576) :
    CallE Tryz.prog fn_impl_reachable [w, s] h (fun u h' => ∃ B : List Bool, HS h [ow u B] h' ∧ B.length = G.length ∧ ∀ x, tru B x ↔ ∃ z : Nat, (z : Int) ∈ S ∧ Rch E z x) := by
  refine CallE.gen fun k hk => EN_impl_reachable rfl ?_
  simp -implicitDefEqProofs (disch:=first|omega|(simp only[LnZ];omega))[wrap64, Rw.len]
  refine HS.init.mks (α := Bool) (z := false) rfl rfl own_false (Nat.le_refl _) (by omega) (by omega) fun b h1 H => ?_
  simp -implicitDefEqProofs (disch:=first|omega|(simp only[LnZ];omega))[wrap64]
  refine (c_clone_int (Rs.on H) (by omega)).go ?_
  intro t0 h2 H2
  have H := H2.app H
  simp -implicitDefEqProofs (disch:=first|omega|(simp only[LnZ];omega))[wrap64, (Rs.on H).len]
  refine wp_count S.length (fun i e h' => ∃ B, e = [some w, none, none, some b, some t0, none, none, none, some s, some (.int .i64 S.length), some (.int .i64 i), none, none, none] ∧ HS h [ow t0 S, ow b B] h' ∧ B.length = G.length ∧ ∀ x, tru B x ↔ (x : Int) ∈ S.take i) ⟨_, by simp, H, by simp, fun x => by simp [tru_replicate]⟩ ?_
  rintro J i _ h3 hJ hi ⟨B, rfl, H, hBl, hB⟩
  simp -implicitDefEqProofs (disch:=first|omega|(simp only[LnZ];omega))[wrap64]
  refine IteW.mk (fun hlt => ?_) (fun hge => ?_)
  · have hlx : i < S.length := by omega
    have hz := hS _ (List.getElem_mem hlx)
    obtain ⟨z, hz2⟩ : ∃ z : Nat, S[i] = z := ⟨S[i].toNat, by omega⟩
    have H := H.sw1
    have hzB : z < B.length := by omega
    simp -implicitDefEqProofs (disch:=first|omega|(simp only[LnZ];omega))[wrap64, (Rs.on H).I, hz2, H.rep.B]
    refine H.storeF true (i := z) hzB rfl rfl trivial rfl fun h4 H => ?_
    simp -implicitDefEqProofs (disch:=first|omega|(simp only[LnZ];omega))[wrap64]
    refine hJ _ _ hlx ⟨_, rfl, H.sw1, by simpa using hBl, fun x => ?_⟩
    rw [tru_set hzB, hB, take_mem_succ hlx, hz2]
    exact or_congr Iff.rfl (by omega)
  simp -implicitDefEqProofs (disch:=first|omega|(simp only[LnZ];omega))[wrap64]
  rw [List.take_of_length_le (by omega)] at hB
  have hI : Srch E (fun z => (z : Int) ∈ S) (tru B) (fun z => (z : Int) ∈ S) := Srch.init hB fun _ h => h
  have hcl := List.count_le_length (a := false) (l := B)
  refine wp_while (σ := List Bool × List Int) (fun s e h' => ∃ t, e = [some w, none, none, some b, some t, none, none, none, none, none, none, none, none, none] ∧
      HS h [ow t s.2, ow b s.1] h' ∧ s.1.length = G.length ∧ Srch E (fun z => (z : Int) ∈ S) (tru s.1) (fun z => (z : Int) ∈ s.2) ∧ (∀ z ∈ s.2, ∃ q : Nat, z = q ∧ tru s.1 q) ∧ s.2.length + s.1.count false ≤ S.length + G.length)
    (fun s => s.2.length + s.1.count false) (B, S) ⟨t0, by simp, H, hBl, hI, fun z hz => ⟨z.toNat, by have := hS z hz; omega, by rw [hB]; have := hS z hz; rwa [Int.toNat_of_nonneg this.1]⟩, by dsimp only; omega⟩ ?_
  rintro J ⟨B, T⟩ _ h4 hJ ⟨t, rfl, H, hBl, hI, hT, hm⟩
  dsimp only at H hBl hI hT hm
  simp -implicitDefEqProofs (disch:=first|omega|(simp only[LnZ];omega))[wrap64, H.rep.len]
  refine IteW.mkr (fun h0 => ?_) (fun h0 => ?_)
  · simp -implicitDefEqProofs (disch:=first|omega|(simp only[LnZ];omega))[wrap64]
    have hT0 : T = [] := List.eq_nil_of_length_eq_zero (by omega)
    subst hT0
    exact RetK.keep (hk _ _ ⟨B, H.drop, hBl, fun x => hI.done (by simp)⟩)
  obtain ⟨T, x, rfl⟩ := snoc_of (l := T) (by omega)
  obtain ⟨q, rfl, hq⟩ := hT x (by simp)
  have hqG : q < G.length := by rw [← hBl]; exact tru_lt hq
  obtain ⟨t', ht', H'⟩ := H.cut (n := T.length) (esz := 1) (k := .i64) (by simp)
  have hTl : T.length < 4611686018427387904 := by have := H.rep.lt; simp at this; omega
  rw [List.take_left' rfl] at H'
  obtain ⟨u, hu0, Ru⟩ := Rw.ldL hqG
  have hu := hload_le H.base hu0
  have hul := Ru.lt
  have hlen1 : (T ++ [(q : Int)]).length = T.length + 1 := by simp
  have hi1 : IntKind.i64.wrap ((T.length : Int) + 1 - 1) = T.length := by rw [wrap64 (by omega) (by omega)]; omega
  simp -implicitDefEqProofs (disch:=first|omega|(simp only[LnZ];omega))[wrap64, H.rep.I, hlen1, hi1, ht', (Rw.on H').X (n := 1) rfl, hu, Ru.len]
  have hlt0 := hm
  obtain ⟨m, hmm⟩ : ∃ m, m = T.length + 1 + B.count false := ⟨_, rfl⟩
  refine wp_count G[q].length (fun j e h' => ∃ (t : Value) (B : List Bool) (T' : List Int), e = [some w, none, none, some b, some t, none, none, none, none, none, none, some u, some (.int .i64 G[q].length), some (.int .i64 j)] ∧
      HS h [ow t T', ow b B] h' ∧ B.length = G.length ∧ Srch E (fun z => (z : Int) ∈ S) (tru B) (fun z => (z : Int) ∈ T' ∨ z = q) ∧ tru B q ∧ (∀ z ∈ T', ∃ q : Nat, z = q ∧ tru B q) ∧ T'.length + 1 + B.count false = m ∧
      ∀ j' (hj' : j' < G[q].length), j' < j → ∀ y : Nat, G[q][j'] = y → tru B y) ⟨t', B, T, by simp, H', hBl, hI.congr (fun _ => Iff.rfl) (fun z => by simp [Int.ofNat_inj]), hq, fun z hz => hT z (by simp [hz]), hmm.symm, fun j' _ hj' => absurd hj' (Nat.not_lt_zero j')⟩ ?_
  rintro J2 j _ h5 hJ2 hj ⟨t2, B2, T2, rfl, H, hBl2, hI2, hq2, hT2, hm2, hpr⟩
  simp -implicitDefEqProofs (disch:=first|omega|(simp only[LnZ];omega))[wrap64]
  refine IteW.mk (fun hlt2 => ?_) (fun hge2 => ?_)
  · have hjl : j < G[q].length := by omega
    obtain ⟨y, hy, hxy, hyG⟩ := hG.get hqG hjl
    have H := H.sw1
    have hyB : y < B2.length := by omega
    have hpr2 : ∀ B3, tru B3 y → (∀ z, tru B2 z → tru B3 z) → ∀ j' (hj' : j' < G[q].length), j' < j + 1 → ∀ y : Nat, G[q][j'] = y → tru B3 y := by
      intro B3 h1 h2 j' hj' hlt y' hy'
      by_cases e : j' = j
      · subst e
        rw [hy] at hy'
        obtain rfl : y = y' := by omega
        exact h1
      · exact h2 _ (hpr j' hj' (by omega) y' hy')
    by_cases hb : B2[y] = true
    · simp -implicitDefEqProofs (disch:=first|omega|(simp only[LnZ];omega))[wrap64, (Ru.on H).I, hy, H.rep.B, hb]
      exact hJ2 _ _ hjl ⟨t2, B2, T2, rfl, H.sw1, hBl2, hI2, hq2, hT2, hm2, hpr2 _ ((tru_get hyB).2 hb) fun _ h => h⟩
    · have hb' : B2[y] = false := by simpa using hb
      simp -implicitDefEqProofs (disch:=first|omega|(simp only[LnZ];omega))[wrap64, (Ru.on H).I, hy, H.rep.B, hb']
      refine H.storeF true (i := y) hyB rfl rfl trivial rfl fun h6 H => ?_
      have hcs := count_set hyB hb'
      simp -implicitDefEqProofs (disch:=first|omega|(simp only[LnZ];omega))[wrap64]
      refine H.sw1.app1 (y : Int) rfl rfl rfl ⟨by omega, by omega⟩ rfl rfl (by omega) (by omega) fun t3 h7 H => ?_
      simp -implicitDefEqProofs (disch:=first|omega|(simp only[LnZ];omega))[wrap64]
      refine hJ2 _ _ hjl ⟨t3, _, _, rfl, H, by simpa using hBl2, hI2.add (x := q) (y := y) hq2 hxy (fun z => tru_set hyB) (fun z => ?_), (tru_set hyB).2 (.inl hq2), ?_, ?_, hpr2 _ ((tru_set hyB).2 (.inr rfl)) fun z hz => (tru_set hyB).2 (.inl hz)⟩
      · simp only [List.mem_append, List.mem_singleton]
        constructor
        · rintro ((h | h) | h)
          · exact .inl (.inl h)
          · exact .inr (by omega)
          · exact .inl (.inr h)
        · rintro ((h | h) | h)
          · exact .inl (.inl h)
          · exact .inr h
          · exact .inl (.inr (by omega))
      · intro z hz
        rcases List.mem_append.1 hz with hz | hz
        · obtain ⟨p, h1, h2⟩ := hT2 z hz
          exact ⟨p, h1, (tru_set hyB).2 (.inl h2)⟩
        · exact ⟨y, by simpa using hz, (tru_set hyB).2 (.inr rfl)⟩
      · simp; omega
  · simp -implicitDefEqProofs (disch:=first|omega|(simp only[LnZ];omega))[wrap64]
    refine hJ (B2, T2) _ _ ?_ ⟨t2, rfl, H, hBl2, hI2.drop (x := q) (fun y hxy => ?_) (fun z hz => hz), hT2, ?_⟩
    · dsimp only; rw [hlen1]; omega
    · exact hG.all hqG (C := tru B2) (fun j' hj' y hy => hpr j' hj' (by omega) y hy) hxy
    · dsimp only at hm ⊢; rw [hlen1] at hm; omega
theorem c_l7Reach {h : Heap} {w s : Value} {G : List (List Int)} {S : List Int} {E : Nat → Nat → Prop} (Rw : Rep h w G) (Rs : Rep h s S) (hG : Adj E G) (hS : ∀ z ∈ S, 0 ≤ z ∧ z < G.length) (hGl : G.length ≤ 1048576) :
    CallE Tryz.prog fn_spec_l7Reach [w, s] h (fun u h' => ∃ Q : List Int, HS h [ow u Q] h' ∧ Q.length ≤ G.length ∧ (∀ z ∈ Q, 0 ≤ z ∧ z < G.length) ∧ ∀ x : Nat, (x : Int) ∈ Q ↔ ∃ z : Nat, (z : Int) ∈ S ∧ Rch E z x) := by
  refine CallE.gen fun k hk => EN_spec_l7Reach rfl ?_
  have hSl := Rs.lt
  simp -implicitDefEqProofs (disch:=first|omega|(simp only[LnZ];omega))[wrap64, Rw.len]
  refine HS.init.mks (α := Bool) (z := false) rfl rfl own_false (Nat.le_refl _) (by omega) (by omega) fun b h1 H => ?_
  simp -implicitDefEqProofs (disch:=first|omega|(simp only[LnZ];omega))[wrap64]
  refine H.bls0 Int fun t0 h2 H => ?_
  simp -implicitDefEqProofs (disch:=first|omega|(simp only[LnZ];omega))[wrap64]
  refine wp_count S.length (fun i e h' => ∃ (t : Value) (B : List Bool) (Q : List Int), e = [some w, some s, none, some b, some t, some (.int .i64 i), none, none, none] ∧ HS h [ow t Q, ow b B] h' ∧ B.length = G.length ∧ Q.length + B.count false = G.length ∧ (∀ z ∈ Q, ∃ q : Nat, z = q ∧ q < G.length) ∧ (∀ x, tru B x ↔ (x : Int) ∈ S.take i) ∧ ∀ x : Nat, tru B x ↔ (x : Int) ∈ Q) ⟨t0, _, [], by simp, H, by simp, by simp, by simp, fun x => by simp [tru_replicate], fun x => by simp [tru_replicate]⟩ ?_
  rintro J i _ h3 hJ hi ⟨t, B, Q, rfl, H, hBl, hQl, hQ, hB, hBQ⟩
  simp -implicitDefEqProofs (disch:=first|omega|(simp only[LnZ];omega))[wrap64, (Rs.on H).len]
  refine IteW.mk (fun hlt => ?_) (fun hge => ?_)
  · have hlx : i < S.length := by omega
    have hz := hS _ (List.getElem_mem hlx)
    obtain ⟨z, hz2⟩ : ∃ z : Nat, S[i] = z := ⟨S[i].toNat, by omega⟩
    have H := H.sw1
    have hzB : z < B.length := by omega
    by_cases hb : B[z] = true
    · simp -implicitDefEqProofs (disch:=first|omega|(simp only[LnZ];omega))[wrap64, (Rs.on H).I, hz2, H.rep.B, hb]
      refine hJ _ _ hlx ⟨t, B, Q, rfl, H.sw1, hBl, hQl, hQ, fun x => ?_, hBQ⟩
      rw [take_mem_succ hlx, hB, hz2]
      constructor
      · exact .inl
      · rintro (h | h)
        · exact h
        · obtain rfl : x = z := by omega
          exact (hB x).1 ((tru_get hzB).2 hb)
    · have hb' : B[z] = false := by simpa using hb
      have hcs := count_set hzB hb'
      simp -implicitDefEqProofs (disch:=first|omega|(simp only[LnZ];omega))[wrap64, (Rs.on H).I, hz2, H.rep.B, hb']
      refine H.storeF true (i := z) hzB rfl rfl trivial rfl fun h4 H => ?_
      simp -implicitDefEqProofs (disch:=first|omega|(simp only[LnZ];omega))[wrap64, (Rs.on H).I, hz2]
      refine H.sw1.app1 (z : Int) rfl rfl rfl ⟨by omega, by omega⟩ rfl rfl (by omega) (by omega) fun t3 h7 H => ?_
      simp -implicitDefEqProofs (disch:=first|omega|(simp only[LnZ];omega))[wrap64]
      refine hJ _ _ hlx ⟨t3, _, _, rfl, H, by simpa using hBl, by simp; omega, ?_, fun x => ?_, fun x => ?_⟩
      · intro y hy
        rcases List.mem_append.1 hy with hy | hy
        · exact hQ y hy
        · exact ⟨z, by simpa using hy, by omega⟩
      · rw [tru_set hzB, hB, take_mem_succ hlx, hz2]
        exact or_congr Iff.rfl (by omega)
      · rw [tru_set hzB, hBQ]
        simp [Int.ofNat_inj]
  simp -implicitDefEqProofs (disch:=first|omega|(simp only[LnZ];omega))[wrap64]
  rw [List.take_of_length_le (by omega)] at hB
  have hI : Srch E (fun z => (z : Int) ∈ S) (tru B) (fun z => (z : Int) ∈ Q.drop 0) := Srch.init hB fun z hz => by rw [List.drop_zero, ← hBQ, hB]; exact hz
  refine wp_while (σ := List Bool × List Int × Nat) (fun s e h' => ∃ t, e = [some w, none, none, some b, some t, none, some (.int .i64 s.2.2), none, none] ∧
      HS h [ow t s.2.1, ow b s.1] h' ∧ s.1.length = G.length ∧ s.2.1.length + s.1.count false = G.length ∧ s.2.2 ≤ s.2.1.length ∧ (∀ z ∈ s.2.1, ∃ q : Nat, z = q ∧ q < G.length) ∧ (∀ x : Nat, tru s.1 x ↔ (x : Int) ∈ s.2.1) ∧ Srch E (fun z => (z : Int) ∈ S) (tru s.1) (fun z => (z : Int) ∈ s.2.1.drop s.2.2))
    (fun s => G.length - s.2.2) (B, Q, 0) ⟨t, by simp, H, hBl, hQl, by dsimp only; omega, hQ, hBQ, hI⟩ ?_
  rintro J ⟨B, Q, i⟩ _ h4 hJ ⟨t, rfl, H, hBl, hQl, hiQ, hQ, hBQ, hI⟩
  dsimp only at H hBl hQl hiQ hQ hBQ hI
  simp -implicitDefEqProofs (disch:=first|omega|(simp only[LnZ];omega))[wrap64, H.rep.len]
  refine IteW.mkr (fun h0 => ?_) (fun h0 => ?_)
  · simp -implicitDefEqProofs (disch:=first|omega|(simp only[LnZ];omega))[wrap64]
    have hd : Q.drop i = [] := List.drop_eq_nil_of_le (by omega)
    rw [hd] at hI
    refine RetK.keep (hk _ _ ⟨Q, H.sw1.drop, by omega, fun z hz => ?_, fun x => ?_⟩)
    · obtain ⟨q, rfl, h2⟩ := hQ z hz; omega
    · rw [← hBQ]; exact hI.done (by simp)
  have hiQ2 : i < Q.length := by omega
  obtain ⟨q, hq, hqG⟩ := hQ _ (List.getElem_mem hiQ2)
  obtain ⟨u, hu0, Ru⟩ := Rw.ldL hqG
  have hul := Ru.lt
  have hqB : tru B q := by rw [hBQ, ← hq]; exact List.getElem_mem hiQ2
  simp -implicitDefEqProofs (disch:=first|omega|(simp only[LnZ];omega))[wrap64]
  refine wp_count G[q].length (fun j e h' => ∃ (t : Value) (B' : List Bool) (W : List Int), e = [some w, none, none, some b, some t, none, some (.int .i64 i), some (.int .i64 j), none] ∧
      HS h [ow t (Q ++ W), ow b B'] h' ∧ B'.length = G.length ∧ (Q ++ W).length + B'.count false = G.length ∧ (∀ z ∈ Q ++ W, ∃ q : Nat, z = q ∧ q < G.length) ∧ (∀ x : Nat, tru B' x ↔ (x : Int) ∈ Q ++ W) ∧ Srch E (fun z => (z : Int) ∈ S) (tru B') (fun z => (z : Int) ∈ (Q ++ W).drop i) ∧
      ∀ j' (hj' : j' < G[q].length), j' < j → ∀ y : Nat, G[q][j'] = y → tru B' y) ⟨t, B, [], by simp, by simpa using H, hBl, by simpa using hQl, by simpa using hQ, by simpa using hBQ, by simpa using hI, fun j' _ hj' => absurd hj' (Nat.not_lt_zero j')⟩ ?_
  rintro J2 j _ h5 hJ2 hj ⟨t2, B2, W, rfl, H, hBl2, hQl2, hQ2, hBQ2, hI2, hpr⟩
  have hiW : i < (Q ++ W).length := by simp; omega
  have hqi : (Q ++ W)[i] = (q : Int) := by rw [List.getElem_append_left hiQ2]; exact hq
  have hu := hload_le H.base hu0
  simp -implicitDefEqProofs (disch:=first|omega|(simp only[LnZ];omega))[wrap64, H.rep.I, hqi, (Rw.on H).X (n := 1) rfl, hu, (Ru.on H).len]
  refine IteW.mk (fun hlt2 => ?_) (fun hge2 => ?_)
  · have hjl : j < G[q].length := by omega
    obtain ⟨y, hy, hxy, hyG⟩ := hG.get hqG hjl
    have H := H.sw1
    have hyB : y < B2.length := by omega
    have hpr2 : ∀ B3, tru B3 y → (∀ z, tru B2 z → tru B3 z) → ∀ j' (hj' : j' < G[q].length), j' < j + 1 → ∀ y : Nat, G[q][j'] = y → tru B3 y := by
      intro B3 h1 h2 j' hj' hlt y' hy'
      by_cases e : j' = j
      · subst e
        rw [hy] at hy'
        obtain rfl : y = y' := by omega
        exact h1
      · exact h2 _ (hpr j' hj' (by omega) y' hy')
    have hqB2 : tru B2 q := by rw [hBQ2, ← hqi]; exact List.getElem_mem hiW
    by_cases hb : B2[y] = true
    · simp -implicitDefEqProofs (disch:=first|omega|(simp only[LnZ];omega))[wrap64, H.sw1.rep.I, hqi, (Rw.on H).X (n := 1) rfl, hu, (Ru.on H).I, hy, H.rep.B, hb]
      exact hJ2 _ _ hjl ⟨t2, B2, W, rfl, H.sw1, hBl2, hQl2, hQ2, hBQ2, hI2, hpr2 _ ((tru_get hyB).2 hb) fun _ h => h⟩
    · have hb' : B2[y] = false := by simpa using hb
      simp -implicitDefEqProofs (disch:=first|omega|(simp only[LnZ];omega))[wrap64, H.sw1.rep.I, hqi, (Rw.on H).X (n := 1) rfl, hu, (Ru.on H).I, hy, H.rep.B, hb']
      refine H.storeF true (i := y) hyB rfl rfl trivial rfl fun h6 H => ?_
      have hcs := count_set hyB hb'
      simp -implicitDefEqProofs (disch:=first|omega|(simp only[LnZ];omega))[wrap64]
      refine H.sw1.app1 (y : Int) rfl rfl rfl ⟨by omega, by omega⟩ rfl rfl (by omega) (by omega) fun t3 h7 H => ?_
      simp -implicitDefEqProofs (disch:=first|omega|(simp only[LnZ];omega))[wrap64]
      have hassoc : Q ++ W ++ [(y : Int)] = Q ++ (W ++ [(y : Int)]) := List.append_assoc _ _ _
      rw [hassoc] at H
      refine hJ2 _ _ hjl ⟨t3, _, W ++ [(y : Int)], rfl, H, by simpa using hBl2, by simp at hQl2 ⊢; omega, ?_, fun x => ?_, hI2.add (x := q) (y := y) hqB2 hxy (fun z => tru_set hyB) (fun z => ?_), hpr2 _ ((tru_set hyB).2 (.inr rfl)) fun z hz => (tru_set hyB).2 (.inl hz)⟩
      · intro z hz
        rw [← hassoc] at hz
        rcases List.mem_append.1 hz with hz | hz
        · exact hQ2 z hz
        · exact ⟨y, by simpa using hz, hyG⟩
      · rw [tru_set hyB, hBQ2, ← hassoc]
        simp [Int.ofNat_inj, or_assoc]
      · rw [← hassoc, List.drop_append_of_le_length (by omega)]
        simp [Int.ofNat_inj]
  · simp -implicitDefEqProofs (disch:=first|omega|(simp only[LnZ];omega))[wrap64]
    refine hJ (B2, Q ++ W, i + 1) _ _ ?_ ⟨t2, rfl, H, hBl2, hQl2, by dsimp only; omega, hQ2, hBQ2, hI2.drop (x := q) (fun y hxy => ?_) (fun z hz => ?_)⟩
    · dsimp only; omega
    · exact hG.all hqG (C := tru B2) (fun j' hj' y hy => hpr j' hj' (by omega) y hy) hxy
    · dsimp only
      rw [List.drop_eq_getElem_cons hiW, hqi] at hz
      rcases List.mem_cons.1 hz with hz | hz
      · exact .inr (by omega)
      · exact .inl hz
end Go.Proofs.YtglnelcmcimljaaGreat

namespace Go.Proofs.YtglnelcmcimljaaGreat
open Go
structure LpI (E : Nat → Nat → Prop) (n q : Nat) (B : List Bool) (Q : List Int) (i : Nat) : Prop where
  len : B.length = n
  size : Q.length + 2048 * B.count false ≤ 2048 * (n + 1)
  le : i ≤ Q.length
  snd : ∀ z ∈ Q, ∃ p : Nat, z = p ∧ p < n ∧ ∃ y, E q y ∧ Rch E y p
  start : ∀ y, E q y → (y : Int) ∈ Q
  seen : ∀ x, tru B x → ∀ y, E x y → (y : Int) ∈ Q
  past : ∀ j (hj : j < Q.length), j < i → Q[j] ≠ q ∧ tru B Q[j].toNat
theorem LpI.done {E : Nat → Nat → Prop} {n q : Nat} {B : List Bool} {Q : List Int} {i : Nat} (h : LpI E n q B Q i) (hi : Q.length ≤ i) : ¬ Cyc E q := by
  rintro ⟨y, h1, h2⟩
  have hm : ((q : Nat) : Int) ∈ Q := by
    refine h2.closed (C := fun x => (x : Int) ∈ Q) (fun u v hu huv => ?_) (h.start y h1)
    obtain ⟨j, hj, h3⟩ := List.mem_iff_getElem.1 hu
    have h4 := (h.past j hj (by omega)).2
    rw [h3] at h4
    exact h.seen u h4 v huv
  obtain ⟨j, hj, h3⟩ := List.mem_iff_getElem.1 hm
  exact (h.past j hj (by omega)).1 h3
theorem c_l7Loop {h : Heap} {w : Value} {G : List (List Int)} {E : Nat → Nat → Prop} (Rw : Rep h w G) (hG : Adj E G) (hrow : ∀ x (hx : x < G.length), G[x].length ≤ 2048) (hGl : G.length ≤ 1048576) {q : Nat} (hq : q < G.length) :
    CallE Tryz.prog fn_spec_l7Loop [w, .int .i64 q] h (fun u h' => h.le h' ∧ ∃ r : Bool, u = .bool r ∧ (r = true ↔ Cyc E q)) := by
  refine CallE.gen fun k hk => EN_spec_l7Loop rfl ?_
  obtain ⟨u, hu0, Ru⟩ := Rw.ldL hq
  have hul := hrow q hq
  simp -implicitDefEqProofs (disch:=first|omega|(simp only[LnZ];omega))[wrap64]
  refine wp_count G[q].length (fun i e h' => e = [some w, some (.int .i64 q), none, some (.int .i64 i), none, none, none, none] ∧ h' = h ∧ ∀ (j : Nat) (hj : j < G[q].length), j < i → G[q][j] ≠ q) ⟨rfl, rfl, fun j _ hj => absurd hj (Nat.not_lt_zero j)⟩ ?_
  rintro J i _ h hJ hi ⟨rfl, rfl, hn⟩
  simp -implicitDefEqProofs (disch:=first|omega|(simp only[LnZ];omega))[wrap64, Rw.X (n := 1) rfl, hu0, Ru.I]
  refine IteW.mk (fun hlt => ?_) (fun hge => ?_)
  · have hlx : i < G[q].length := by omega
    simp -implicitDefEqProofs (disch:=first|omega|(simp only[LnZ];omega))[wrap64, Rw.X (n := 1) rfl, hu0, Ru.I]
    refine IteW.mk (fun he => ?_) (fun he => ?_)
    · simp -implicitDefEqProofs (disch:=first|omega|(simp only[LnZ];omega))[wrap64]
      refine RetK.keep (hk _ _ ⟨Heap.le.refl _, true, rfl, ?_⟩)
      simp only [true_iff]
      obtain ⟨y, h1, h2, _⟩ := hG.get hq hlx
      obtain rfl : y = q := by rw [he] at h1; omega
      exact ⟨y, h2, .refl _⟩
    · simp -implicitDefEqProofs (disch:=first|omega|(simp only[LnZ];omega))[wrap64]
      refine hJ _ _ hlx ⟨rfl, rfl, fun j hj hji => ?_⟩
      by_cases hji2 : j = i
      · subst hji2; exact he
      · exact hn j hj (by omega)
  clear hn
  simp -implicitDefEqProofs (disch:=first|omega|(simp only[LnZ];omega))[wrap64, Rw.len]
  refine HS.init.mks (α := Bool) (z := false) rfl rfl own_false (Nat.le_refl _) (by omega) (by omega) fun b h1 H => ?_
  have hu := hload_le H.base hu0
  simp -implicitDefEqProofs (disch:=first|omega|(simp only[LnZ];omega))[wrap64, (Rw.on H).X (n := 1) rfl, hu]
  refine H.appPL (α := Int) (l2 := G[q]) rfl rfl (Ru.on H) rfl rfl (by omega) fun t h2 H => ?_
  simp -implicitDefEqProofs (disch:=first|omega|(simp only[LnZ];omega))[wrap64]
  have hmem := hG.mem q hq
  have hI : LpI E G.length q (List.replicate G.length false) G[q] 0 := by
    refine ⟨by simp, by simp; omega, by omega, fun z hz => ?_, fun y hy => (hmem y).2 ⟨y, rfl, hy⟩, fun x hx => absurd hx tru_replicate, fun j _ hj => absurd hj (Nat.not_lt_zero j)⟩
    obtain ⟨y, rfl, h2⟩ := (hmem z).1 hz
    exact ⟨y, rfl, (hG.lt _ _ h2).2, y, h2, .refl _⟩
  refine wp_while (σ := List Bool × List Int × Nat) (fun s e h' => ∃ t, e = [some w, some (.int .i64 q), none, none, some b, some t, some (.int .i64 s.2.2), none] ∧
      HS h [ow t s.2.1, ow b s.1] h' ∧ LpI E G.length q s.1 s.2.1 s.2.2) (fun s => s.1.count false * 2049 + (s.2.1.length - s.2.2)) (List.replicate G.length false, G[q], 0) ⟨t, by simp, H, hI⟩ ?_
  rintro J2 ⟨B, Q, i⟩ _ h3 hJ2 ⟨t, rfl, H, hI⟩
  dsimp only at H hI
  have hsz := hI.size
  have hle := hI.le
  have hBl := hI.len
  simp -implicitDefEqProofs (disch:=first|omega|(simp only[LnZ];omega))[wrap64, H.rep.len]
  refine IteW.mkr (fun h0 => ?_) (fun h0 => ?_)
  · simp -implicitDefEqProofs (disch:=first|omega|(simp only[LnZ];omega))[wrap64]
    exact RetK.keep (hk _ _ ⟨H.base, false, rfl, by simpa using hI.done (by omega)⟩)
  have hiQ : i < Q.length := by omega
  obtain ⟨p, hp, hpn, y, hy1, hy2⟩ := hI.snd _ (List.getElem_mem hiQ)
  by_cases hpq : p = q
  · have hp2 : Q[i] = (q : Int) := by rw [hp, hpq]
    simp -implicitDefEqProofs (disch:=first|omega|(simp only[LnZ];omega))[wrap64, H.rep.I, hp2]
    refine RetK.keep (hk _ _ ⟨H.base, true, rfl, ?_⟩)
    simp only [true_iff]
    exact ⟨y, hy1, hpq ▸ hy2⟩
  have hpq2 : ¬ ((p : Int) = q) := by omega
  have H := H.sw1
  have hpB : p < B.length := by omega
  have hpast : ∀ (B' : List Bool) (W : List Int), (∀ x, tru B x → tru B' x) → tru B' p → ∀ j (hj : j < (Q ++ W).length), j < i + 1 → (Q ++ W)[j] ≠ q ∧ tru B' (Q ++ W)[j].toNat := by
    intro B' W h1 h2 j hj hji
    have hjQ : j < Q.length := by omega
    rw [List.getElem_append_left hjQ]
    by_cases e : j = i
    · subst e
      rw [hp]
      exact ⟨hpq2, by simpa using h2⟩
    · have := hI.past j hjQ (by omega)
      exact ⟨this.1, h1 _ this.2⟩
  by_cases hb : B[p] = true
  · simp -implicitDefEqProofs (disch:=first|omega|(simp only[LnZ];omega))[wrap64, H.sw1.rep.I, hp, hpq2, H.rep.B, hb]
    refine hJ2 (B, Q, i + 1) _ _ ?_ ⟨t, rfl, H.sw1, hI.len, hsz, by dsimp only; omega, hI.snd, hI.start, hI.seen, ?_⟩
    · dsimp only; omega
    · dsimp only
      have := hpast B [] (fun _ h => h) ((tru_get hpB).2 hb)
      simpa using this
  · have hb' : B[p] = false := by simpa using hb
    obtain ⟨v, hv0, Rv⟩ := Rw.ldL hpn
    have hrp := hrow p hpn
    have hcs := count_set hpB hb'
    simp -implicitDefEqProofs (disch:=first|omega|(simp only[LnZ];omega))[wrap64, H.sw1.rep.I, hp, hpq2, H.rep.B, hb']
    refine H.storeF true (i := p) hpB rfl rfl trivial rfl fun h4 H => ?_
    have hv := hload_le H.base hv0
    simp -implicitDefEqProofs (disch:=first|omega|(simp only[LnZ];omega))[wrap64, (Rw.on H).X (n := 1) rfl, hv]
    refine H.sw1.appL rfl rfl (Rv.on H) rfl rfl (by omega) (by omega) fun t3 h5 H => ?_
    simp -implicitDefEqProofs (disch:=first|omega|(simp only[LnZ];omega))[wrap64]
    have hmp := hG.mem p hpn
    refine hJ2 (B.set p true, Q ++ G[p], i + 1) _ _ ?_ ⟨t3, rfl, H, by simpa using hI.len, by simp; omega, by simp; omega, ?_, ?_, ?_, hpast _ _ (fun x hx => (tru_set hpB).2 (.inl hx)) ((tru_set hpB).2 (.inr rfl))⟩
    · simp; omega
    · intro z hz
      rcases List.mem_append.1 hz with hz | hz
      · exact hI.snd z hz
      · obtain ⟨y', rfl, h2⟩ := (hmp z).1 hz
        exact ⟨y', rfl, (hG.lt _ _ h2).2, y, hy1, hy2.snoc h2⟩
    · intro y' hy'
      exact List.mem_append_left _ (hI.start y' hy')
    · intro x hx y' hxy
      rcases (tru_set hpB).1 hx with hx | rfl
      · exact List.mem_append_left _ (hI.seen x hx y' hxy)
      · exact List.mem_append_right _ ((hmp _).2 ⟨y', rfl, hxy⟩)
theorem ok_one {n : Int} (h : -9223372036854775808 ≤ n ∧ n < 9223372036854775808) : ∀ x ∈ [n], Flat.ok x := by
  intro x hx
  obtain rfl : x = n := by simpa using hx
  exact h
theorem c_spec_LiveStates {h : Heap} {v : Value} {a : Aut} (Ra : Rep h v a) (ha : a.Ok) : CallE Tryz.prog fn_spec_LiveStates [v] h (fun u h' => ∃ L : List Bool, HS h [ow u L] h' ∧ L.length = a.acc.length ∧ ∀ q, tru L q ↔ q < a.acc.length ∧ a.Live q) := by
  obtain ⟨v1, v2, v3, rfl, R1, R2, R3⟩ := Rep_Aut.1 Ra
  refine CallE.gen fun k hk => EN_spec_LiveStates rfl ?_
  have hn := ha.n
  simp -implicitDefEqProofs (disch:=first|omega|(simp only[LnZ];omega))[wrap64]
  refine HS.init.bls0 Bool fun o h1 H => ?_
  simp -implicitDefEqProofs (disch:=first|omega|(simp only[LnZ];omega))[wrap64]
  refine (c_spec_AutomatonValid (Ra.on H)).go ?_
  rintro _ h1 ⟨rfl, rfl⟩
  simp -implicitDefEqProofs (disch:=first|omega|(simp only[LnZ];omega))[wrap64, ha]
  refine (c_l7Next (Ra.on H) ha).go ?_
  rintro w h2 ⟨G, H2, hG, hGl, hrow⟩
  have H := H2.app H
  have H := H.sw1
  simp -implicitDefEqProofs (disch:=first|omega|(simp only[LnZ];omega))[wrap64]
  refine wp_count a.acc.length (fun i e h' => ∃ (o : Value) (L : List Bool), e = [none, some (.agg #[v1, v2, v3]), none, some o, some w, some (.int .i64 i), none, none, none] ∧ HS h [ow o L, ow w G] h' ∧ L.length = i ∧ ∀ q, tru L q ↔ q < i ∧ a.Live q) ⟨o, [], by simp, H, rfl, fun q => by simp [tru]⟩ ?_
  rintro J i _ h3 hJ hi ⟨o, L, rfl, H, hLl, hL⟩
  simp -implicitDefEqProofs (disch:=first|omega|(simp only[LnZ];omega))[wrap64, (R2.on H).len]
  refine IteW.mk (fun hlt => ?_) (fun hge => ?_)
  · have hin : i < a.acc.length := by omega
    simp -implicitDefEqProofs (disch:=first|omega|(simp only[LnZ];omega))[wrap64]
    refine H.bls (α := Int) [(i : Int)] (by rfl) rfl (ok_one (by omega)) (by decide) fun s h4 H => ?_
    simp -implicitDefEqProofs (disch:=first|omega|(simp only[LnZ];omega))[wrap64]
    have hS1 : ∀ z ∈ [(i : Int)], 0 ≤ z ∧ z < (G.length : Int) := by
      intro z hz
      have hxi : z = i := by simpa using hz
      omega
    refine (c_l7Reach (S := [(i : Int)]) H.sw2.rep H.rep hG hS1 (by omega)).go ?_
    rintro qv h5 ⟨Q, H5, hQl, hQn, hQ⟩
    have H := H5.app H.drop
    simp -implicitDefEqProofs (disch:=first|omega|(simp only[LnZ];omega))[wrap64]
    refine wp_count Q.length (fun k e h' => ∃ (r : Bool), e = [none, some (.agg #[v1, v2, v3]), none, some o, some w, some (.int .i64 i), some qv, some (.bool r), some (.int .i64 k)] ∧ HS h [ow qv Q, ow o L, ow w G] h' ∧ (r = true → a.Live i) ∧ ∀ j (hj : j < Q.length), j < k → r = false → ¬ (tru a.acc Q[j].toNat ∧ Cyc a.E Q[j].toNat)) ⟨false, by simp, H, by simp, fun j _ hj => absurd hj (Nat.not_lt_zero j)⟩ ?_
    rintro J2 k _ h6 hJ2 hk2 ⟨r, rfl, H, hr1, hr2⟩
    simp -implicitDefEqProofs (disch:=first|omega|(simp only[LnZ];omega))[wrap64, H.rep.len]
    by_cases hx : k < Q.length ∧ r = false
    · obtain ⟨hkl, rfl⟩ := hx
      obtain ⟨hz0, hz1⟩ := hQn _ (List.getElem_mem hkl)
      obtain ⟨z, hz⟩ : ∃ z : Nat, Q[k] = z := ⟨Q[k].toNat, by omega⟩
      have hzG : z < G.length := by omega
      have hzr : Rch a.E i z := by
        have h1 : ((z : Nat) : Int) ∈ Q := by rw [← hz]; exact List.getElem_mem hkl
        obtain ⟨i', h2, h3⟩ := (hQ z).1 h1
        obtain rfl : i' = i := by simpa [Int.ofNat_inj] using h2
        exact h3
      have hnext : ∀ r' : Bool, (r' = true ↔ tru a.acc z ∧ Cyc a.E z) → (r' = true → a.Live i) ∧ ∀ j (hj : j < Q.length), j < k + 1 → r' = false → ¬ (tru a.acc Q[j].toNat ∧ Cyc a.E Q[j].toNat) := by
        intro r' hr'
        refine ⟨fun h => ⟨z, hzr, (hr'.1 h).2, (hr'.1 h).1⟩, fun j hj hjk hf => ?_⟩
        by_cases e : j = k
        · subst e
          rw [hz]
          intro hh
          have := hr'.2 (by simpa using hh)
          rw [hf] at this; simp at this
        · exact hr2 j hj (by omega) rfl
      by_cases hac : tru a.acc z
      · have hac2 := (tru_get (by omega : z < a.acc.length)).1 hac
        simp -implicitDefEqProofs (disch:=first|omega|(simp only[LnZ];omega))[wrap64, hkl, H.rep.I, hz, (R2.on H).B, hac2]
        refine (c_l7Loop H.sw2.rep hG hrow (by omega) hzG).go ?_
        rintro _ h7 ⟨l7, r', rfl, hr'⟩
        have H := H.le l7
        simp -implicitDefEqProofs (disch:=first|omega|(simp only[LnZ];omega))[wrap64]
        have h8 := hnext r' (by rw [hr']; simp [hac])
        exact hJ2 _ _ hkl ⟨r', by simp, H, h8.1, h8.2⟩
      · have hac2 : a.acc[z]'(by omega) = false := by
          have := mt (tru_get (by omega : z < a.acc.length)).2 hac
          simpa using this
        simp -implicitDefEqProofs (disch:=first|omega|(simp only[LnZ];omega))[wrap64, hkl, H.rep.I, hz, (R2.on H).B, hac2]
        have h8 := hnext false (by simp [hac])
        exact hJ2 _ _ hkl ⟨false, by simp, H, h8.1, h8.2⟩
    · have hfin : r = true ↔ a.Live i := by
        refine ⟨hr1, fun ⟨t, h1, h2, h3⟩ => ?_⟩
        cases r with
        | true => rfl
        | false =>
          exfalso
          have hkl : ¬ k < Q.length := fun h => hx ⟨h, rfl⟩
          have hm : ((t : Nat) : Int) ∈ Q := (hQ t).2 ⟨i, by simp, h1⟩
          obtain ⟨j, hj, h4⟩ := List.mem_iff_getElem.1 hm
          refine hr2 j hj (by omega) rfl ?_
          rw [h4]
          exact ⟨by simpa using h3, by simpa using h2⟩
      have hstep : ∀ q, tru (L ++ [r]) q ↔ q < i + 1 ∧ a.Live q := by
        intro q
        by_cases e : q = i
        · subst e
          rw [← hfin]
          simp [tru, ← hLl]
        · have h1 : tru (L ++ [r]) q ↔ tru L q := by
            simp only [tru, List.getD_eq_getElem?_getD]
            by_cases h2 : q < L.length
            · rw [List.getElem?_append_left h2]
            · rw [List.getElem?_eq_none (by simp; omega), List.getElem?_eq_none (by omega)]
          rw [h1, hL]
          constructor
          · rintro ⟨h2, h3⟩; exact ⟨by omega, h3⟩
          · rintro ⟨h2, h3⟩; exact ⟨by omega, h3⟩
      have hcase : (¬ k < Q.length) ∨ (k < Q.length ∧ r = true) := by
        by_cases hkl : k < Q.length
        · exact .inr ⟨hkl, by cases r with | true => rfl | false => exact absurd ⟨hkl, rfl⟩ hx⟩
        · exact .inl hkl
      have H := H.drop
      rcases hcase with hkl | ⟨hkl, rfl⟩
      · simp -implicitDefEqProofs (disch:=first|omega|(simp only[LnZ];omega))[wrap64, hkl]
        refine H.app1 r rfl rfl rfl trivial rfl rfl (by omega) (by omega) fun o' h7 H => ?_
        simp -implicitDefEqProofs (disch:=first|omega|(simp only[LnZ];omega))[wrap64]
        exact hJ _ _ hin ⟨o', _, by simp, H, by simp [hLl], hstep⟩
      · simp -implicitDefEqProofs (disch:=first|omega|(simp only[LnZ];omega))[wrap64, hkl]
        refine H.app1 true rfl rfl rfl trivial rfl rfl (by omega) (by omega) fun o' h7 H => ?_
        simp -implicitDefEqProofs (disch:=first|omega|(simp only[LnZ];omega))[wrap64]
        exact hJ _ _ hin ⟨o', _, by simp, H, by simp [hLl], hstep⟩
  · simp -implicitDefEqProofs (disch:=first|omega|(simp only[LnZ];omega))[wrap64]
    have hia : i = a.acc.length := by omega
    exact RetK.keep (hk _ _ ⟨L, H.sw1.drop, by omega, fun q => by rw [hL, hia]⟩)
end Go.Proofs.YtglnelcmcimljaaGreat

namespace Go.Proofs.YtglnelcmcimljaaGreat
open Go
def gd (l : List Int) : Nat → Int := fun x => l.getD x 0
theorem gd_get {l : List Int} {i : Nat} (hi : i < l.length) : gd l i = l[i] := by simp [gd, hi]
theorem gd_set {l : List Int} {i : Nat} {v : Int} (hi : i < l.length) : gd (l.set i v) = fput (gd l) i v := by
  funext x
  simp only [gd, fput, List.getD_eq_getElem?_getD, List.getElem?_set]
  by_cases h : i = x
  · subst h; simp [hi]
  · simp [h, Ne.symm h]
theorem ite_min {a b : Int} : (if b < a then b else a) = min a b := by
  split <;> omega
def unv (n : Nat) (f : Nat → Int) : Nat := ((List.range n).filter fun x => decide (x < n ∧ f x = 0)).length
theorem unv_lt {n : Nat} {f f' : Nat → Int} {a : Nat} (ha : a < n) (h0 : f a = 0) (h1 : f' a ≠ 0) (h : ∀ x, x < n → f x ≠ 0 → f' x ≠ 0) : unv n f' < unv n f := by
  refine filter_lt_of ?_ ⟨a, by simpa using ha, by simp [h1], by simp [h0, ha]⟩
  intro x hx2
  simp at hx2 ⊢
  exact ⟨hx2.1, Classical.byContradiction fun hn => h x hx2.1 hn hx2.2⟩
@[reducible] def FB (bN bL bQ bG bV : Nat) (vn vl vq w fv : Value) (h : Heap) : Prop := hload h (some (.pointer (some ⟨bN, 0, none⟩))) none = some vn ∧ hload h (some (.pointer (some ⟨bL, 0, none⟩))) none = some vl ∧ hload h (some (.pointer (some ⟨bQ, 0, none⟩))) none = some vq ∧
  hload h (some (.pointer (some ⟨bG, 0, none⟩))) none = some w ∧ hload h (some (.pointer (some ⟨bV, 0, none⟩))) none = some fv
theorem FB.on {bN bL bQ bG bV : Nat} {vn vl vq w fv : Value} {g h : Heap} {Γ : List HP} (F : FB bN bL bQ bG bV vn vl vq w fv g) (H : HS g Γ h) : FB bN bL bQ bG bV vn vl vq w fv h :=
  ⟨hload_le H.base F.1, hload_le H.base F.2.1, hload_le H.base F.2.2.1, hload_le H.base F.2.2.2.1, hload_le H.base F.2.2.2.2⟩
@[reducible] def CHs (vn vl vq : Value) (bS bC bP : Nat) (vs : Value) (N L Q : List Int) (s : TS) : List HP :=
  [ow vn N, ow vl L, ow vq Q, ow vs (s.stk.map Int.ofNat), bx bS [vs], bx bC [.int .i64 s.cnt], bx bP [.int .i64 s.prt]]
structure CHl (n : Nat) (N L Q : List Int) (s : TS) : Prop where
  hN : N.length = n
  hL : L.length = n
  hQ : Q.length = n
  num : s.num = gd N
  low : s.low = gd L
  part : s.part = gd Q
  cnt : s.cnt + unv n s.num ≤ n
def CH (g : Heap) (vn vl vq : Value) (bS bC bP n : Nat) (s : TS) (h : Heap) : Prop := ∃ (N L Q : List Int) (vs : Value), CHl n N L Q s ∧ HS g (CHs vn vl vq bS bC bP vs N L Q s) h
theorem TL.mono {n : Nat} {E : Nat → Nat → Prop} {gr sc sc' : Nat → Prop} {s s1 : TS} {a : Nat} (h : TL n E gr s a sc s1) (hs : ∀ y, sc' y → sc y) : TL n E gr s a sc' s1 :=
  ⟨h.inv, h.num, h.part, h.stk, h.na, h.cnt, h.fresh, h.black, h.lowa, h.low, h.min, fun y hy => h.proc y (hs y hy)⟩
def topv (C : List Nat) (m : Nat) : Int := if h : m < C.length then (C[m] : Int) else -1
set_option maxHeartbeats 4000000 in
theorem c_visit {g : Heap} {bN bL bQ bG bV bS bC bP n : Nat} {vn vl vq w fv : Value} {G : List (List Int)} {E : Nat → Nat → Prop} (F : FB bN bL bQ bG bV vn vl vq w fv g) (Rw : Rep g w G) (hG : Adj E G) (hn : G.length = n) (hnl : n ≤ 1048576)
    (hfv : fnOf fv = some (fn_impl_components_1, [], [.pointer (some ⟨bC, 0, none⟩), .pointer (some ⟨bN, 0, none⟩), .pointer (some ⟨bL, 0, none⟩), .pointer (some ⟨bS, 0, none⟩), .pointer (some ⟨bG, 0, none⟩), .pointer (some ⟨bV, 0, none⟩), .pointer (some ⟨bQ, 0, none⟩), .pointer (some ⟨bP, 0, none⟩)])) :
    ∀ (m : Nat) (gr : Nat → Prop) (s : TS) (a : Nat) (h : Heap), unv n s.num = m → CH g vn vl vq bS bC bP n s h → TI n E gr s → a < n → s.num a = 0 → (∀ g, gr g → g ∈ s.stk → Rch E g a) → (∀ g, gr g → g < n ∧ s.num g ≠ 0) →
    CallE Tryz.prog fn_impl_components_1 [.int .i64 a, .pointer (some ⟨bC, 0, none⟩), .pointer (some ⟨bN, 0, none⟩), .pointer (some ⟨bL, 0, none⟩), .pointer (some ⟨bS, 0, none⟩), .pointer (some ⟨bG, 0, none⟩), .pointer (some ⟨bV, 0, none⟩), .pointer (some ⟨bQ, 0, none⟩), .pointer (some ⟨bP, 0, none⟩)] h
      (fun u h' => ∃ s', CH g vn vl vq bS bC bP n s' h' ∧ TV n E gr s a s') := by
  intro m
  induction m using Nat.strongRecOn with
  | ind m ih =>
  rintro gr s a h hm ⟨N, L, Q, vs, hl, H⟩ hI han ha0 hg1 hg2
  have hE : ∀ x y, E x y → x < n ∧ y < n := fun x y hxy => hn ▸ hG.lt x y hxy
  have hc := hI.cnt
  have hcn := hl.cnt
  have hNl := hl.hN
  have hLl := hl.hL
  have hQl := hl.hQ
  have haG : a < G.length := by omega
  obtain ⟨u, hu0, Ru⟩ := Rw.ldL haG
  have hul := Ru.lt
  refine CallE.gen fun k hk => EN_impl_components_1 rfl ?_
  simp -implicitDefEqProofs (disch:=first|omega|(simp only[LnZ];omega))[wrap64, H.sw5.bxld0]
  refine H.sw5.bxst (u := .int .i64 (s.cnt + 1)) rfl rfl rfl rfl (by simp) fun h1 H => ?_
  simp only [setC, cells_int, List.take_zero, List.nil_append] at H
  have H : HS g (bx bC [.int .i64 (s.cnt + 1)] :: ow vn N :: ow vl L :: ow vq Q :: ow vs (s.stk.map Int.ofNat) :: bx bS [vs] :: [bx bP [.int .i64 s.prt]]) h1 := H
  have H := H.bk5
  simp -implicitDefEqProofs (disch:=first|omega|(simp only[LnZ];omega))[wrap64, F.on H, H.sw5.bxld0, H.rep.I]
  refine H.storeF (s.cnt + 1) (i := a) (by omega) rfl rfl ⟨by omega, by omega⟩ rfl fun h2 H => ?_
  have H := H.sw1
  simp -implicitDefEqProofs (disch:=first|omega|(simp only[LnZ];omega))[wrap64, F.on H, H.sw5.bxld0, H.rep.I]
  refine H.storeF (s.cnt + 1) (i := a) (by omega) rfl rfl ⟨by omega, by omega⟩ rfl fun h3 H => ?_
  have H := H.sw1
  simp -implicitDefEqProofs (disch:=first|omega|(simp only[LnZ];omega))[wrap64, F.on H, H.sw4.bxld0]
  refine H.sw3.app1 (a : Int) rfl rfl rfl ⟨by omega, by omega⟩ rfl rfl (by simp; omega) (by simp; omega) fun vs1 h4 H => ?_
  have H := H.bk3
  simp -implicitDefEqProofs (disch:=first|omega|(simp only[LnZ];omega))[wrap64, F.on H]
  refine H.sw4.bxst (u := vs1) rfl rfl (by rw [H.sw3.rep.cells]; rfl) (by rw [H.sw3.rep.cells]; simp [H.sw3.rep.one]) (by simp [H.sw3.rep.cells]) fun h5 H => ?_
  have H : HS g [ow vn (N.set a (s.cnt + 1)), ow vl (L.set a (s.cnt + 1)), ow vq Q, ow vs1 ((s.push a).stk.map Int.ofNat), bx bS [vs1], bx bC [.int .i64 (s.cnt + 1)], bx bP [.int .i64 s.prt]] h5 := by
    simpa [setC, H.sw4.rep.cells, TS.push] using H.bk4
  have hl1 : CHl n (N.set a (s.cnt + 1)) (L.set a (s.cnt + 1)) Q (s.push a) := by
    refine ⟨by simpa using hNl, by simpa using hLl, hQl, by rw [gd_set (by omega), ← hl.num]; rfl, by rw [gd_set (by omega), ← hl.low]; rfl, hl.part, ?_⟩
    have h1 : unv n (s.push a).num < unv n s.num := by
      refine unv_lt han ha0 (by simp [TS.push]; omega) fun x hx hx0 => ?_
      by_cases e : x = a
      · exact absurd ha0 (e ▸ hx0)
      · simp only [TS.push, fput_ne e]; exact hx0
    show s.cnt + 1 + (unv n (s.push a).num : Int) ≤ n
    omega
  have hT := TL.start hE hI han ha0 hg1
  simp -implicitDefEqProofs (disch:=first|omega|(simp only[LnZ];omega))[wrap64, F.on H, (Rw.on H).X (n := 1) rfl, hload_le H.base hu0, Ru.len]
  refine wp_count G[a].length (fun j e h' => e = [some (.int .i64 a), none, some (.pointer (some ⟨bN, 0, none⟩)), some (.pointer (some ⟨bL, 0, none⟩)), some (.pointer (some ⟨bS, 0, none⟩)), none, some (.pointer (some ⟨bV, 0, none⟩)), some (.pointer (some ⟨bQ, 0, none⟩)), some (.pointer (some ⟨bP, 0, none⟩)), none, none, some u, some (.int .i64 G[a].length), some (.int .i64 j)] ∧
    ∃ s1, CH g vn vl vq bS bC bP n s1 h' ∧ TL n E gr s a (fun y => ∃ (j' : Nat) (hj' : j' < G[a].length), j' < j ∧ G[a][j'] = y) s1) ⟨by simp, _, ⟨_, _, _, _, hl1, H⟩, hT.mono fun y ⟨_, _, h0, _⟩ => absurd h0 (Nat.not_lt_zero _)⟩ ?_
  clear hl1 hT H hl
  rintro J j _ h6 hJ hj ⟨rfl, s1, ⟨N, L, Q, vs, hl, H⟩, hT⟩
  have hNl := hl.hN
  have hLl := hl.hL
  have hQl := hl.hQ
  simp -implicitDefEqProofs (disch:=first|omega|(simp only[LnZ];omega))[wrap64]
  refine IteW.mk (fun hlt => ?_) (fun hge => ?_)
  · have hjl : j < G[a].length := by omega
    obtain ⟨y, hy, hxy, hyG⟩ := hG.get haG hjl
    have hyn : y < n := by omega
    have hsc : ∀ z : Nat, (∃ (j' : Nat) (hj' : j' < G[a].length), j' < j + 1 ∧ G[a][j'] = z) → (∃ (j' : Nat) (hj' : j' < G[a].length), j' < j ∧ G[a][j'] = z) ∨ z = y := by
      rintro z ⟨j', hj', h1, h2⟩
      by_cases e : j' = j
      · subst e; exact .inr (by omega)
      · exact .inl ⟨j', hj', by omega, h2⟩
    have hNy : s1.num y = N[y]'(by omega) := by rw [hl.num, gd_get]
    have hQy : s1.part y = Q[y]'(by omega) := by rw [hl.part, gd_get]
    have hLa : s1.low a = L[a]'(by omega) := by rw [hl.low, gd_get]
    by_cases hy0 : N[y]'(by omega) = 0
    · have hy0' : s1.num y = 0 := by rw [hNy, hy0]
      have hgray := hT.gray hxy hI hg2 han
      have hlt2 : unv n s1.num < m := by
        rw [← hm]
        refine unv_lt han ha0 (by rw [hT.na]; omega) fun x hx hx0 => ?_
        rw [(hT.num x hx hx0).1]; exact hx0
      simp -implicitDefEqProofs (disch:=first|omega|(simp only[LnZ];omega))[wrap64, (Ru.on H).I, hy, F.on H, H.rep.I, hy0, hfv]
      refine (ih (unv n s1.num) hlt2 _ s1 y _ rfl ⟨N, L, Q, vs, hl, H⟩ hT.inv hyn hy0' hgray.1 hgray.2.1).go ?_
      clear H hl hNy hQy hLa
      rintro u' h7 ⟨s2, ⟨N2, L2, Q2, vs2, hl, H⟩, hV⟩
      have hLl2 := hl.hL
      have hLa : L2[a]'(by omega) = s2.low a := by rw [hl.low, gd_get]
      have hLy : L2[y]'(by omega) = s2.low y := by rw [hl.low, gd_get]
      have H := H.sw1
      have hla := H.rep.okI (i := a) (by omega)
      have hly := H.rep.okI (i := y) (by omega)
      simp -implicitDefEqProofs (disch:=first|omega|(simp only[LnZ];omega))[wrap64, F.on H, H.rep.I, ite_min]
      refine H.storeF (min (L2[a]'(by omega)) (L2[y]'(by omega))) (i := a) (by omega) rfl rfl ⟨by omega, by omega⟩ rfl fun h8 H => ?_
      simp -implicitDefEqProofs (disch:=first|omega|(simp only[LnZ];omega))[wrap64]
      refine hJ _ _ hjl ⟨rfl, s2.lower a (s2.low y), ⟨N2, L2.set a (min (L2[a]'(by omega)) (L2[y]'(by omega))), Q2, vs2, ⟨hl.hN, by simpa using hLl2, hl.hQ, hl.num, ?_, hl.part, hl.cnt⟩, H.sw1⟩, (hT.visit hxy hE ha0 hI hy0' hV).mono hsc⟩
      rw [gd_set (by omega), ← hl.low, hLa, hLy]
      rfl
    · have hy0' : s1.num y ≠ 0 := by rw [hNy]; exact hy0
      by_cases hp : Q[y]'(by omega) < 0
      · have hl2 : (L[a]'(by omega)) = s1.low a := hLa.symm
        have H1 := H.sw1
        have hla := H1.rep.okI (i := a) (by omega)
        have hny := H.rep.okI (i := y) (by omega)
        simp -implicitDefEqProofs (disch:=first|omega|(simp only[LnZ];omega))[wrap64, (Ru.on H).I, hy, F.on H, H.rep.I, hy0, H.sw2.rep.I, hp, H.sw1.rep.I, ite_min]
        refine H1.storeF (min (L[a]'(by omega)) (N[y]'(by omega))) (i := a) (by omega) rfl rfl ⟨by omega, by omega⟩ rfl fun h8 H => ?_
        simp -implicitDefEqProofs (disch:=first|omega|(simp only[LnZ];omega))[wrap64]
        refine hJ _ _ hjl ⟨rfl, s1.lower a (s1.num y), ⟨N, L.set a (min (L[a]'(by omega)) (N[y]'(by omega))), Q, vs, ⟨hl.hN, by simpa using hLl, hl.hQ, hl.num, ?_, hl.part, hl.cnt⟩, H.sw1⟩, (hT.seen hxy hE ha0 hI hy0' (by rw [hQy]; exact hp)).mono hsc⟩
        rw [gd_set (by omega), ← hl.low, hl2, ← hNy]
        rfl
      · simp -implicitDefEqProofs (disch:=first|omega|(simp only[LnZ];omega))[wrap64, (Ru.on H).I, hy, F.on H, H.rep.I, hy0, H.sw2.rep.I, hp]
        exact hJ _ _ hjl ⟨rfl, s1, ⟨N, L, Q, vs, hl, H⟩, (hT.skip hI hyn hy0' (by rw [hQy]; omega)).mono hsc⟩
  have hall : ∀ y, E a y → ∃ (j' : Nat) (hj' : j' < G[a].length), j' < j ∧ G[a][j'] = y := by
    intro y hxy
    obtain ⟨_, j', hj', h1⟩ := hG.of hxy
    exact ⟨j', hj', by omega, h1⟩
  have hLa : s1.low a = L[a]'(by omega) := by rw [hl.low, gd_get]
  have hNa : s1.num a = N[a]'(by omega) := by rw [hl.num, gd_get]
  have hc1 := hT.inv.cnt
  by_cases he : L[a]'(by omega) = N[a]'(by omega)
  case neg =>
    simp -implicitDefEqProofs (disch:=first|omega|(simp only[LnZ];omega))[wrap64, F.on H, H.rep.I, H.sw1.rep.I, he]
    exact RetK.keep (hk _ _ ⟨s1, ⟨N, L, Q, vs, hl, H⟩, hT.end1 hall han ha0 hI (by rw [hLa, hNa]; exact he)⟩)
  obtain ⟨wl, hw, hw2⟩ := hT.stk
  have hlen : s1.stk.length = s.stk.length + (a :: wl).length := by rw [hw]; simp
  have hcl : s1.cnt ≤ n := by have := hl.cnt; omega
  have hpr : ∀ x ∈ a :: wl, x < n := fun x hx => hT.inv.stk_lt (by rw [hw]; exact List.mem_append_right _ hx)
  simp -implicitDefEqProofs (disch:=first|omega|(simp only[LnZ];omega))[wrap64, F.on H, H.rep.I, H.sw1.rep.I, he]
  refine wp_while (σ := Nat) (fun m e h' => m ≤ (a :: wl).length ∧ e = [some (.int .i64 a), none, none, none, some (.pointer (some ⟨bS, 0, none⟩)), none, none, some (.pointer (some ⟨bQ, 0, none⟩)), some (.pointer (some ⟨bP, 0, none⟩)), none, some (.int .i64 (topv (a :: wl) m)), none, none, none] ∧
      ∃ Q' vs', Q'.length = n ∧ gd Q' = (fun x => if x ∈ (a :: wl).drop m then s1.prt else s1.part x) ∧ HS g [ow vn N, ow vl L, ow vq Q', ow vs' ((s.stk ++ (a :: wl).take m).map Int.ofNat), bx bS [vs'], bx bC [.int .i64 s1.cnt], bx bP [.int .i64 s1.prt]] h')
    (fun m => m) (a :: wl).length ⟨Nat.le_refl _, by simp [topv], Q, vs, hQl, by rw [List.drop_length]; simp [hl.part], by rw [List.take_length, ← hw]; exact H⟩ ?_
  rintro J2 m _ h7 hJ2 ⟨hml, rfl, Q', vs', hQl', hQ', H⟩
  cases m with
  | zero =>
    have ht : topv (a :: wl) 0 = a := by simp [topv]
    simp -implicitDefEqProofs (disch:=first|omega|(simp only[LnZ];omega))[wrap64, ht, H.sw6.bxld0]
    refine H.sw6.bxst (u := .int .i64 (s1.prt + 1)) rfl rfl rfl rfl (by simp) fun h8 H => ?_
    have H : HS g (bx bP [.int .i64 (s1.prt + 1)] :: ow vn N :: ow vl L :: ow vq Q' :: ow vs' (s.stk.map Int.ofNat) :: bx bS [vs'] :: [bx bC [.int .i64 s1.cnt]]) h8 := by
      simpa [setC] using H
    have H := H.bk6
    simp -implicitDefEqProofs (disch:=first|omega|(simp only[LnZ];omega))[wrap64]
    exact RetK.keep (hk _ _ ⟨s1.pop s.stk (a :: wl), ⟨N, L, Q', vs', ⟨hl.hN, hl.hL, hQl', hl.num, hl.low, by rw [hQ']; rfl, hl.cnt⟩, H⟩, hT.end2 hE hall han ha0 hI hg2 (by rw [hLa, hNa]; exact he) hw⟩)
  | succ m =>
    have hmC : m < (a :: wl).length := by omega
    obtain ⟨c, hc'⟩ : ∃ c, (a :: wl)[m] = c := ⟨_, rfl⟩
    have hcn : c < n := hpr c (hc' ▸ List.getElem_mem hmC)
    have ht : ¬ (topv (a :: wl) (m + 1) = a) := by
      unfold topv
      split
      · rename_i hlt2
        simp only [List.getElem_cons_succ]
        have hm2 : m < wl.length := by simpa using hlt2
        have := (hw2 _ (List.getElem_mem hm2)).2
        omega
      · omega
    have htm : topv (a :: wl) m = c := by simp only [topv, hmC, dif_pos, hc']
    obtain ⟨W, hW⟩ : ∃ W, W = (s.stk ++ (a :: wl).take m).map Int.ofNat := ⟨_, rfl⟩
    have hst : (s.stk ++ (a :: wl).take (m + 1)).map Int.ofNat = W ++ [(c : Int)] := by
      rw [hW, List.take_add_one, List.getElem?_eq_getElem hmC, hc']
      simp
    have hWl : W.length = s.stk.length + m := by
      rw [hW]
      simp at hml ⊢
      omega
    rw [hst] at H
    obtain ⟨v', hv', H'⟩ := H.sw3.cut (n := W.length) (esz := 1) (k := .i64) (by simp)
    rw [List.take_left' rfl] at H'
    have hlen1 : (W ++ [(c : Int)]).length = W.length + 1 := by simp
    have hi1 : IntKind.i64.wrap ((W.length : Int) + 1 - 1) = W.length := by rw [wrap64 (by omega) (by omega)]; omega
    have H' := H'.bk3
    simp -implicitDefEqProofs (disch:=first|omega|(simp only[LnZ];omega))[wrap64, ht, H.sw4.bxld0, H.sw3.rep.I, hlen1, hi1, hv']
    refine H'.sw4.bxst (u := v') rfl rfl (by rw [H'.sw3.rep.cells]; rfl) (by rw [H'.sw3.rep.cells]; simp [H'.sw3.rep.one]) (by simp [H'.sw3.rep.cells]) fun h8 H => ?_
    have H : HS g [ow vn N, ow vl L, ow vq Q', ow v' W, bx bS [v'], bx bC [.int .i64 s1.cnt], bx bP [.int .i64 s1.prt]] h8 := by
      simpa [setC, H'.sw3.rep.cells] using H.bk4
    have hQb := hT.inv.bnd a han
    simp -implicitDefEqProofs (disch:=first|omega|(simp only[LnZ];omega))[wrap64, F.on H, H.sw6.bxld0, H.sw2.rep.I]
    refine H.sw2.storeF s1.prt (i := c) (by omega) rfl rfl ⟨by omega, by omega⟩ rfl fun h9 H => ?_
    have H := H.bk2
    simp -implicitDefEqProofs (disch:=first|omega|(simp only[LnZ];omega))[wrap64]
    refine hJ2 m _ _ (by omega) ⟨by omega, by rw [htm], Q'.set c s1.prt, v', by simpa using hQl', ?_, by rw [← hW]; exact H⟩
    rw [gd_set (by omega), hQ']
    funext x
    rw [List.drop_eq_getElem_cons hmC, hc']
    by_cases e : x = c
    · subst e; simp
    · simp only [fput_ne e, List.mem_cons, e, false_or]
end Go.Proofs.YtglnelcmcimljaaGreat

namespace Go.Proofs.YtglnelcmcimljaaGreat
open Go
theorem HS.only {g h : Heap} {Γ : List HP} {p : HP} (H : HS g (p :: Γ) h) : HS g [p] h := by
  obtain ⟨g', r, e, d, hp, H⟩ := H
  exact ⟨g', r, e, d, hp, H.base⟩
structure NmI (n : Nat) (f : Nat → Int) (i : Nat) (l : List (Int × Int)) (Q : List Int) : Prop where
  len : Q.length = n
  le : l.length ≤ i
  done : ∀ x, x < i → mlk l (f x) = some (gd Q x)
  rest : ∀ x, i ≤ x → x < n → gd Q x = f x
  bnd : ∀ a y, mlk l a = some y → 0 ≤ y ∧ y < l.length
  inj : ∀ a b y, mlk l a = some y → mlk l b = some y → a = b
theorem NmI.old {n : Nat} {f : Nat → Int} {i : Nat} {l : List (Int × Int)} {Q : List Int} {y : Int} (h : NmI n f i l Q) (hi : i < n) (hy : mlk l (f i) = some y) : NmI n f (i + 1) l (Q.set i y) := by
  have hl := h.len
  refine ⟨by simpa using hl, by have := h.le; omega, ?_, ?_, h.bnd, h.inj⟩
  · intro x hx
    rw [gd_set (by omega)]
    by_cases e : x = i
    · subst e; simp [hy]
    · rw [fput_ne e]; exact h.done x (by omega)
  · intro x hx hxn
    rw [gd_set (by omega), fput_ne (by omega)]
    exact h.rest x (by omega) hxn
theorem NmI.new {n : Nat} {f : Nat → Int} {i : Nat} {l : List (Int × Int)} {Q : List Int} (h : NmI n f i l Q) (hi : i < n) (hy : mlk l (f i) = none) : NmI n f (i + 1) (l ++ [(f i, (l.length : Int))]) (Q.set i (l.length : Int)) ∧ mlk (l ++ [(f i, (l.length : Int))]) (f i) = some (l.length : Int) := by
  have hl := h.len
  have hs := fun b => mlk_snoc (y := (l.length : Int)) (b := b) hy
  refine ⟨⟨by simpa using hl, by have := h.le; simp; omega, ?_, ?_, ?_, ?_⟩, by rw [hs, if_pos rfl]⟩
  · intro x hx
    rw [gd_set (by omega), hs]
    by_cases e : x = i
    · subst e; simp
    · rw [fput_ne e]
      have h1 := h.done x (by omega)
      rw [if_neg]
      · exact h1
      · intro e2; rw [← e2, hy] at h1; simp at h1
  · intro x hx hxn
    rw [gd_set (by omega), fput_ne (by omega)]
    exact h.rest x (by omega) hxn
  · intro a y ha
    rw [hs] at ha
    split at ha
    · simp at ha; subst ha; simp; omega
    · have := h.bnd a y ha; simp; omega
  · intro a b y ha hb
    rw [hs] at ha hb
    split at ha
    · simp at ha
      split at hb
      · rename_i e1 e2; rw [← e1, ← e2]
      · have := h.bnd b y hb; omega
    · split at hb
      · simp at hb
        have := h.bnd a y ha; omega
      · exact h.inj a b y ha hb
theorem NmI.result {n : Nat} {f : Nat → Int} {l : List (Int × Int)} {Q : List Int} (h : NmI n f n l Q) : (∀ x, x < n → 0 ≤ gd Q x ∧ gd Q x < n) ∧ ∀ x y, x < n → y < n → (gd Q x = gd Q y ↔ f x = f y) := by
  refine ⟨fun x hx => ?_, fun x y hx hy => ⟨fun e => ?_, fun e => ?_⟩⟩
  · have := h.bnd _ _ (h.done x hx)
    have := h.le
    omega
  · have h1 := h.done x hx
    have h2 := h.done y hy
    rw [e] at h1
    exact h.inj _ _ _ h1 h2
  · have h1 := h.done x hx
    have h2 := h.done y hy
    rw [e, h2] at h1
    simpa using h1.symm
set_option maxHeartbeats 4000000 in
theorem c_components {h : Heap} {w : Value} {G : List (List Int)} {E : Nat → Nat → Prop} (Rw : Rep h w G) (hG : Adj E G) (hnl : G.length ≤ 1048576) :
    CallE Tryz.prog fn_impl_components [w] h (fun u h' => ∃ Q : List Int, HS h [ow u Q] h' ∧ Q.length = G.length ∧ (∀ x, x < G.length → 0 ≤ gd Q x ∧ gd Q x < G.length) ∧ ∀ x y, x < G.length → y < G.length → (gd Q x = gd Q y ↔ Scc E x y)) := by
  refine CallE.gen fun k hk => EN_impl_components rfl ?_
  simp -implicitDefEqProofs (disch:=first|omega|(simp only[LnZ];omega))[wrap64]
  refine HS.init.alloc rfl fun bG h1 H => ?_
  have H : HS h [bx bG [w]] h1 := by simpa [Rw.cells] using H
  simp -implicitDefEqProofs (disch:=first|omega|(simp only[LnZ];omega))[wrap64, H.bxld0, Rw.len]
  refine H.mks (α := Int) (z := 0) rfl rfl (own_zero (by decide) (by decide)) (Nat.le_refl _) (by omega) (by omega) fun vn h2 H => ?_
  simp -implicitDefEqProofs (disch:=first|omega|(simp only[LnZ];omega))[wrap64]
  refine H.mks (α := Int) (z := 0) rfl rfl (own_zero (by decide) (by decide)) (Nat.le_refl _) (by omega) (by omega) fun vl h3 H => ?_
  simp -implicitDefEqProofs (disch:=first|omega|(simp only[LnZ];omega))[wrap64]
  refine H.mks (α := Int) (z := 0) rfl rfl (own_zero (by decide) (by decide)) (Nat.le_refl _) (by omega) (by omega) fun vq h4 H => ?_
  simp -implicitDefEqProofs (disch:=first|omega|(simp only[LnZ];omega))[wrap64]
  refine H.alloc rfl fun bN h5 H => ?_
  simp -implicitDefEqProofs (disch:=first|omega|(simp only[LnZ];omega))[wrap64]
  refine H.alloc rfl fun bL h6 H => ?_
  simp -implicitDefEqProofs (disch:=first|omega|(simp only[LnZ];omega))[wrap64]
  refine H.alloc rfl fun bQ h7 H => ?_
  simp -implicitDefEqProofs (disch:=first|omega|(simp only[LnZ];omega))[wrap64]
  have R0 := H.sw3.rep
  have R1 := H.sw4.rep
  have R2 := H.sw5.rep
  refine H.sw2.bxst (u := vn) rfl rfl (by rw [R2.cells]; rfl) (by rw [R2.cells]; simp [R2.one]) (by simp [R2.cells]) fun h8 H => ?_
  simp -implicitDefEqProofs (disch:=first|omega|(simp only[LnZ];omega))[wrap64]
  refine H.sw2.bxst (u := vl) rfl rfl (by rw [R1.cells]; rfl) (by rw [R1.cells]; simp [R1.one]) (by simp [R1.cells]) fun h9 H => ?_
  simp -implicitDefEqProofs (disch:=first|omega|(simp only[LnZ];omega))[wrap64]
  refine H.sw2.bxst (u := vq) rfl rfl (by rw [R0.cells]; rfl) (by rw [R0.cells]; simp [R0.one]) (by simp [R0.cells]) fun h10 H => ?_
  have H : HS h [bx bQ [vq], bx bL [vl], bx bN [vn], ow vq (List.replicate G.length (0 : Int)), ow vl (List.replicate G.length (0 : Int)), ow vn (List.replicate G.length (0 : Int)), bx bG [w]] h10 := by
    simpa [setC, R0.cells, R1.cells, R2.cells] using H
  have H := H.sw3
  simp -implicitDefEqProofs (disch:=first|omega|(simp only[LnZ];omega))[wrap64, H.sw1.bxld0, H.rep.len]
  refine wp_count G.length (fun i e h' => e = [none, some (.pointer (some ⟨bG, 0, none⟩)), none, some (.int .i64 G.length), some (.pointer (some ⟨bN, 0, none⟩)), some (.pointer (some ⟨bL, 0, none⟩)), some (.pointer (some ⟨bQ, 0, none⟩)), none, none, none, none, none, none, none, none, none, none, some (.int .i64 G.length), some (.int .i64 i), none, none, none, none, none] ∧
    ∃ Q : List Int, HS h [ow vq Q, bx bQ [vq], bx bL [vl], bx bN [vn], ow vl (List.replicate G.length (0 : Int)), ow vn (List.replicate G.length (0 : Int)), bx bG [w]] h' ∧ Q.length = G.length ∧ ∀ x, x < i → gd Q x = -1) ⟨by simp, _, H, by simp, fun x hx => absurd hx (Nat.not_lt_zero x)⟩ ?_
  clear H
  rintro J i _ h11 hJ hi ⟨rfl, Q, H, hQl, hQ⟩
  simp -implicitDefEqProofs (disch:=first|omega|(simp only[LnZ];omega))[wrap64]
  refine IteW.mk (fun hlt => ?_) (fun hge => ?_)
  · have hin : i < G.length := by omega
    simp -implicitDefEqProofs (disch:=first|omega|(simp only[LnZ];omega))[wrap64, H.sw1.bxld0, H.rep.I]
    refine H.storeF (-1) (i := i) (by omega) rfl rfl ⟨by decide, by decide⟩ rfl fun h12 H => ?_
    simp -implicitDefEqProofs (disch:=first|omega|(simp only[LnZ];omega))[wrap64]
    refine hJ _ _ hin ⟨rfl, _, H, by simpa using hQl, fun x hx => ?_⟩
    rw [gd_set (by omega)]
    by_cases e : x = i
    · subst e; simp
    · rw [fput_ne e]; exact hQ x (by omega)
  have hin : i = G.length := by omega
  subst hin
  simp -implicitDefEqProofs (disch:=first|omega|(simp only[LnZ];omega))[wrap64]
  refine H.alloc rfl fun bS h12 H => ?_
  simp -implicitDefEqProofs (disch:=first|omega|(simp only[LnZ];omega))[wrap64]
  refine H.alloc rfl fun bC h13 H => ?_
  simp -implicitDefEqProofs (disch:=first|omega|(simp only[LnZ];omega))[wrap64]
  refine H.alloc rfl fun bP h14 H => ?_
  simp -implicitDefEqProofs (disch:=first|omega|(simp only[LnZ];omega))[wrap64]
  refine H.sw1.bxst (u := .int .i64 0) rfl rfl rfl rfl (by simp) fun h15 H => ?_
  simp -implicitDefEqProofs (disch:=first|omega|(simp only[LnZ];omega))[wrap64]
  refine H.sw1.bxst (u := .int .i64 0) rfl rfl rfl rfl (by simp) fun h16 H => ?_
  simp -implicitDefEqProofs (disch:=first|omega|(simp only[LnZ];omega))[wrap64]
  refine H.alloc rfl fun bV h17 H => ?_
  simp -implicitDefEqProofs (disch:=first|omega|(simp only[LnZ];omega))[wrap64]
  obtain ⟨fv, hfv⟩ : ∃ fv, fv = Value.func (.func fn_impl_components_1) #[] #[.pointer (some ⟨bC, 0, none⟩), .pointer (some ⟨bN, 0, none⟩), .pointer (some ⟨bL, 0, none⟩), .pointer (some ⟨bS, 0, none⟩), .pointer (some ⟨bG, 0, none⟩), .pointer (some ⟨bV, 0, none⟩), .pointer (some ⟨bQ, 0, none⟩), .pointer (some ⟨bP, 0, none⟩)] := ⟨_, rfl⟩
  have hfn : fnOf fv = some (fn_impl_components_1, [], [.pointer (some ⟨bC, 0, none⟩), .pointer (some ⟨bN, 0, none⟩), .pointer (some ⟨bL, 0, none⟩), .pointer (some ⟨bS, 0, none⟩), .pointer (some ⟨bG, 0, none⟩), .pointer (some ⟨bV, 0, none⟩), .pointer (some ⟨bQ, 0, none⟩), .pointer (some ⟨bP, 0, none⟩)]) := by subst hfv; rfl
  have hfc : fv.cells = #[fv] := by subst hfv; rfl
  have hf1 : fv.oneCell' = true := by subst hfv; rfl
  rw [← hfv]
  refine H.bxst (u := fv) rfl rfl (by rw [hfc]; rfl) (by rw [hfc]; simp [hf1]) (by simp) fun h18 H => ?_
  have H : HS h [bx bV [fv], bx bP [.int .i64 0], bx bC [.int .i64 0], bx bS [.slice none 0 0], ow vq Q, bx bQ [vq], bx bL [vl], bx bN [vn], ow vl (List.replicate G.length (0 : Int)), ow vn (List.replicate G.length (0 : Int)), bx bG [w]] h18 := by
    simpa [setC, hfc] using H
  have H := H.nil_ow (α := Int)
  have H := H.sw1.sw11.sw7.sw8.sw9.sw6.sw7.sw8.sw8.sw9.sw10.sw11
  obtain ⟨g1, H0, H⟩ := HS.rebase (Δ := [ow vn (List.replicate G.length (0 : Int)), ow vl (List.replicate G.length (0 : Int)), ow vq Q, ow (.slice none 0 0) ([] : List Int), bx bS [.slice none 0 0], bx bC [.int .i64 0], bx bP [.int .i64 0]]) (Γ := [bx bN [vn], bx bL [vl], bx bQ [vq], bx bG [w], bx bV [fv]]) H
  have F : FB bN bL bQ bG bV vn vl vq w fv g1 := ⟨H0.bxld0, H0.sw1.bxld0, H0.sw2.bxld0, H0.sw3.bxld0, H0.sw4.bxld0⟩
  have Rw1 := Rw.on H0
  have hg0 : ∀ x, gd (List.replicate G.length (0 : Int)) x = 0 := by
    intro x
    simp only [gd, List.getD_eq_getElem?_getD, List.getElem?_replicate]
    split <;> rfl
  have hE := hG.lt
  have hC0 : ∃ s, CH g1 vn vl vq bS bC bP G.length s h18 ∧ TI G.length E (fun _ => False) s ∧ ∀ x, x < 0 → s.num x ≠ 0 := by
    refine ⟨⟨gd (List.replicate G.length (0 : Int)), gd (List.replicate G.length (0 : Int)), gd Q, [], 0, 0⟩, ⟨_, _, Q, .slice none 0 0, ⟨by simp, by simp, hQl, rfl, rfl, rfl, ?_⟩, H⟩, TI.start (fun x _ => hg0 x) (fun x hx => hQ x hx) rfl rfl rfl, fun x hx => absurd hx (Nat.not_lt_zero x)⟩
    have := List.length_filter_le (fun x => decide (x < G.length ∧ gd (List.replicate G.length (0 : Int)) x = 0)) (List.range G.length)
    simp only [List.length_range] at this
    show (0 : Int) + ((unv G.length (gd (List.replicate G.length (0 : Int))) : Nat) : Int) ≤ _
    unfold unv
    omega
  simp -implicitDefEqProofs (disch:=first|omega|(simp only[LnZ];omega))[wrap64]
  refine wp_count G.length (fun i e h' => e = [none, none, none, none, some (.pointer (some ⟨bN, 0, none⟩)), none, some (.pointer (some ⟨bQ, 0, none⟩)), none, none, none, none, some (.pointer (some ⟨bV, 0, none⟩)), none, none, none, none, none, none, none, some (.int .i64 G.length), some (.int .i64 i), none, none, none] ∧
    ∃ s, CH g1 vn vl vq bS bC bP G.length s h' ∧ TI G.length E (fun _ => False) s ∧ ∀ x, x < i → s.num x ≠ 0) ⟨by simp, hC0⟩ ?_
  clear H hC0 hQ hQl hJ
  rintro J2 i _ h19 hJ2 hi2 ⟨rfl, s, ⟨N, L, Q, vs, hl, H⟩, hI, hv⟩
  have hNl := hl.hN
  simp -implicitDefEqProofs (disch:=first|omega|(simp only[LnZ];omega))[wrap64]
  refine IteW.mk (fun hlt2 => ?_) (fun hge2 => ?_)
  · have hin : i < G.length := by omega
    have hNi : s.num i = N[i]'(by omega) := by rw [hl.num, gd_get]
    by_cases h0 : N[i]'(by omega) = 0
    · simp -implicitDefEqProofs (disch:=first|omega|(simp only[LnZ];omega))[wrap64, F.on H, H.rep.I, h0, hfn]
      refine (c_visit F Rw1 hG rfl hnl hfn _ (fun _ => False) s i _ rfl ⟨N, L, Q, vs, hl, H⟩ hI hin (by rw [hNi, h0]) (fun _ h => h.elim) (fun _ h => h.elim)).go ?_
      rintro u h20 ⟨s2, hC2, hV⟩
      simp -implicitDefEqProofs (disch:=first|omega|(simp only[LnZ];omega))[wrap64]
      refine hJ2 _ _ hin ⟨rfl, s2, hC2, hV.inv, fun x hx => ?_⟩
      by_cases e : x = i
      · subst e; exact hV.vis
      · have h1 := hv x (by omega)
        rw [(hV.num x (by omega) h1).1]; exact h1
    · simp -implicitDefEqProofs (disch:=first|omega|(simp only[LnZ];omega))[wrap64, F.on H, H.rep.I, h0]
      refine hJ2 _ _ hin ⟨rfl, s, ⟨N, L, Q, vs, hl, H⟩, hI, fun x hx => ?_⟩
      by_cases e : x = i
      · subst e; rw [hNi]; exact h0
      · exact hv x (by omega)
  have hin : i = G.length := by omega
  subst hin
  obtain ⟨hr1, hr2⟩ := hI.result hv
  have hQl := hl.hQ
  have H := H.sw2.only
  simp -implicitDefEqProofs (disch:=first|omega|(simp only[LnZ];omega))[wrap64]
  refine H.mkm (fun n : Int => .int .i64 n) (fun n : Int => .int .i64 n) fun bm h20 H => ?_
  have H := H.sw1
  simp -implicitDefEqProofs (disch:=first|omega|(simp only[LnZ];omega))[wrap64, F.on H, H.rep.len]
  refine wp_count G.length (fun i e h' => e = [none, none, none, none, none, none, some (.pointer (some ⟨bQ, 0, none⟩)), none, none, none, none, none, none, some (.map (some bm)), none, none, none, none, none, none, none, some vq, some (.int .i64 G.length), some (.int .i64 i)] ∧
    ∃ (l : List (Int × Int)) (Q : List Int), HS g1 [ow vq Q, mpo (fun n : Int => .int .i64 n) (fun n : Int => .int .i64 n) bm l] h' ∧ NmI G.length s.part i l Q) ⟨by simp [hQl], [], Q, H, hQl, by simp, fun x hx => absurd hx (Nat.not_lt_zero x), fun x _ _ => by rw [hl.part], fun a y h => by simp [mlk_nil] at h, fun a b y h => by simp [mlk_nil] at h⟩ ?_
  clear H hQl hl
  rintro J3 i _ h21 hJ3 hi3 ⟨rfl, l, Q, H, hM⟩
  have hQl := hM.len
  have hle := hM.le
  simp -implicitDefEqProofs (disch:=first|omega|(simp only[LnZ];omega))[wrap64]
  refine IteW.mk (fun hlt3 => ?_) (fun hge3 => ?_)
  · have hin : i < G.length := by omega
    have hQi : Q[i]'(by omega) = s.part i := by rw [← gd_get, hM.rest i (Nat.le_refl _) hin]
    simp -implicitDefEqProofs (disch:=first|omega|(simp only[LnZ];omega))[wrap64, H.rep.I, hQi]
    refine H.sw1.mget (a := s.part i) rfl rfl keyEq_int ?_
    cases hlk : mlk l (s.part i) with
    | some y =>
      have hyb := hM.bnd _ _ hlk
      simp -implicitDefEqProofs (disch:=first|omega|(simp only[LnZ];omega))[wrap64, F.on H]
      refine H.sw1.mget (a := s.part i) rfl rfl keyEq_int ?_
      rw [hlk]
      simp -implicitDefEqProofs (disch:=first|omega|(simp only[LnZ];omega))[wrap64, F.on H, H.rep.I]
      refine H.storeF y (i := i) (by omega) rfl rfl ⟨by omega, by omega⟩ rfl fun h22 H => ?_
      simp -implicitDefEqProofs (disch:=first|omega|(simp only[LnZ];omega))[wrap64]
      exact hJ3 _ _ hin ⟨rfl, l, _, H, hM.old hin hlk⟩
    | none =>
      obtain ⟨hn1, hn2⟩ := hM.new hin hlk
      simp -implicitDefEqProofs (disch:=first|omega|(simp only[LnZ];omega))[wrap64]
      refine H.sw1.mlen rfl ?_
      simp -implicitDefEqProofs (disch:=first|omega|(simp only[LnZ];omega))[wrap64]
      refine H.sw1.mput (a := s.part i) (v := (l.length : Int)) rfl rfl rfl keyEq_int hlk fun h22 H => ?_
      simp -implicitDefEqProofs (disch:=first|omega|(simp only[LnZ];omega))[wrap64, F.on H]
      refine H.mget (a := s.part i) rfl rfl keyEq_int ?_
      rw [hn2]
      have H := H.sw1
      simp -implicitDefEqProofs (disch:=first|omega|(simp only[LnZ];omega))[wrap64, F.on H, H.rep.I]
      refine H.storeF (l.length : Int) (i := i) (by omega) rfl rfl ⟨by omega, by omega⟩ rfl fun h23 H => ?_
      simp -implicitDefEqProofs (disch:=first|omega|(simp only[LnZ];omega))[wrap64]
      exact hJ3 _ _ hin ⟨rfl, _, _, H, hn1⟩
  have hin : i = G.length := by omega
  subst hin
  simp -implicitDefEqProofs (disch:=first|omega|(simp only[LnZ];omega))[wrap64, F.on H]
  obtain ⟨hb, hc⟩ := hM.result
  have Hf := (H.app H0).only
  exact RetK.keep (hk _ _ ⟨Q, Hf, hQl, hb, fun x y hx hy => by rw [hc x y hx hy, hr2 x y hx hy]⟩)
end Go.Proofs.YtglnelcmcimljaaGreat

namespace Go.Proofs.YtglnelcmcimljaaGreat
open Go
def cntP (Q : List Int) (i : Nat) (p : Int) : Nat := ((List.range i).filter fun y => decide (gd Q y = p)).length
theorem cntP_succ {Q : List Int} {i : Nat} {p : Int} : cntP Q (i + 1) p = cntP Q i p + if gd Q i = p then 1 else 0 := by
  simp only [cntP, List.range_succ, List.filter_append, List.length_append, List.filter_cons, List.filter_nil]
  by_cases h : gd Q i = p <;> simp [h]
theorem cntP_le {Q : List Int} {i : Nat} {p : Int} : cntP Q i p ≤ i := by
  have := List.length_filter_le (fun y => decide (gd Q y = p)) (List.range i)
  simpa [cntP] using this
theorem c_cyclic {h : Heap} {w : Value} {G : List (List Int)} {E : Nat → Nat → Prop} (Rw : Rep h w G) (hG : Adj E G) (hnl : G.length ≤ 1048576) :
    CallE Tryz.prog fn_impl_cyclic [w] h (fun u h' => ∃ C : List Bool, HS h [ow u C] h' ∧ C.length = G.length ∧ ∀ x, x < G.length → (tru C x ↔ Cyc E x)) := by
  refine CallE.gen fun k hk => EN_impl_cyclic rfl ?_
  simp -implicitDefEqProofs (disch:=first|omega|(simp only[LnZ];omega))[wrap64]
  refine (c_components Rw hG hnl).go ?_
  rintro p h1 ⟨Q, H, hQl, hQb, hQ⟩
  simp -implicitDefEqProofs (disch:=first|omega|(simp only[LnZ];omega))[wrap64, (Rw.on H).len]
  refine H.mks (α := Int) (z := 0) rfl rfl (own_zero (by decide) (by decide)) (Nat.le_refl _) (by omega) (by omega) fun z h2 H => ?_
  simp -implicitDefEqProofs (disch:=first|omega|(simp only[LnZ];omega))[wrap64, H.sw1.rep.len]
  refine wp_count G.length (fun i e h' => e = [some w, none, some p, some z, none, none, none, some p, some (.int .i64 G.length), some (.int .i64 i), none, none] ∧ ∃ Z : List Int, HS h [ow z Z, ow p Q] h' ∧ Z.length = G.length ∧ ∀ x, x < G.length → gd Z x = cntP Q i x) ⟨by simp [hQl], _, H, by simp, fun x hx => by rw [gd_get (by simpa using hx)]; simp [cntP]⟩ ?_
  clear H
  rintro J i _ h3 hJ hi ⟨rfl, Z, H, hZl, hZ⟩
  simp -implicitDefEqProofs (disch:=first|omega|(simp only[LnZ];omega))[wrap64]
  refine IteW.mk (fun hlt => ?_) (fun hge => ?_)
  · have hin : i < G.length := by omega
    have hq := hQb i hin
    obtain ⟨q, hqi⟩ : ∃ q : Nat, Q[i]'(by omega) = q := ⟨(Q[i]'(by omega)).toNat, by rw [← gd_get]; omega⟩
    have hqn : q < G.length := by rw [gd_get (by omega), hqi] at hq; omega
    have hzq : Z[q]'(by omega) = cntP Q i q := by rw [← gd_get, hZ q hqn]
    have hcl := cntP_le (Q := Q) (i := i) (p := q)
    simp -implicitDefEqProofs (disch:=first|omega|(simp only[LnZ];omega))[wrap64, H.sw1.rep.I, hqi, H.rep.I, hzq]
    refine H.storeF ((cntP Q i q : Int) + 1) (i := q) (by omega) rfl rfl ⟨by omega, by omega⟩ rfl fun h4 H => ?_
    simp -implicitDefEqProofs (disch:=first|omega|(simp only[LnZ];omega))[wrap64]
    refine hJ _ _ hin ⟨rfl, _, H, by simpa using hZl, fun x hx => ?_⟩
    rw [gd_set (by omega), cntP_succ, gd_get (by omega), hqi]
    by_cases e : x = q
    · subst e; simp
    · rw [fput_ne e, hZ x hx, if_neg (by omega)]; simp
  have hin : i = G.length := by omega
  subst hin
  simp -implicitDefEqProofs (disch:=first|omega|(simp only[LnZ];omega))[wrap64, (Rw.on H).len]
  refine H.mks (α := Bool) (z := false) rfl rfl own_false (Nat.le_refl _) (by omega) (by omega) fun c h4 H => ?_
  simp -implicitDefEqProofs (disch:=first|omega|(simp only[LnZ];omega))[wrap64, (Rw.on H).len]
  refine wp_count G.length (fun i e h' => e = [some w, none, some p, some z, none, some c, none, none, none, none, some (.int .i64 G.length), some (.int .i64 i)] ∧ ∃ C : List Bool, HS h [ow c C, ow z Z, ow p Q] h' ∧ C.length = G.length ∧ ∀ x, x < i → (tru C x ↔ Cyc E x)) ⟨by simp, _, H, by simp, fun x hx => absurd hx (Nat.not_lt_zero x)⟩ ?_
  clear H hJ
  rintro J i _ h5 hJ hi ⟨rfl, C, H, hCl, hC⟩
  simp -implicitDefEqProofs (disch:=first|omega|(simp only[LnZ];omega))[wrap64]
  refine IteW.mk (fun hlt2 => ?_) (fun hge2 => ?_)
  · have hin : i < G.length := by omega
    have hq := hQb i hin
    obtain ⟨q, hqi⟩ : ∃ q : Nat, Q[i]'(by omega) = q := ⟨(Q[i]'(by omega)).toNat, by rw [← gd_get]; omega⟩
    have hqn : q < G.length := by rw [gd_get (by omega), hqi] at hq; omega
    have hzq : Z[q]'(by omega) = cntP Q G.length q := by rw [← gd_get, hZ q hqn]
    have hpc := part_cycle hQ hG.lt hin
    have hcnt : ((List.range G.length).filter fun y => decide (gd Q y = gd Q i)).length = cntP Q G.length q := by
      rw [gd_get (by omega), hqi]; rfl
    rw [hcnt] at hpc
    have hstep : ∀ b : Bool, (b = true ↔ Cyc E i) → ∀ x, x < i + 1 → (tru (C.set i b) x ↔ Cyc E x) := by
      intro b hb x hx
      have h1 : tru (C.set i b) x ↔ if x = i then b = true else tru C x := by
        simp only [tru, List.getD_eq_getElem?_getD, List.getElem?_set]
        by_cases e : i = x
        · subst e; simp [show i < C.length by omega]
        · simp [e, Ne.symm e]
      rw [h1]
      split
      · rename_i e; subst e; exact hb
      · exact hC x (by omega)
    by_cases h1 : (1 : Int) < cntP Q G.length q
    · simp -implicitDefEqProofs (disch:=first|omega|(simp only[LnZ];omega))[wrap64, H.sw2.rep.I, hqi, H.sw1.rep.I, hzq, h1, H.rep.B]
      refine H.storeF true (i := i) (by omega) rfl rfl trivial rfl fun h6 H => ?_
      simp -implicitDefEqProofs (disch:=first|omega|(simp only[LnZ];omega))[wrap64]
      exact hJ _ _ hin ⟨rfl, _, H, by simpa using hCl, hstep true (by rw [hpc]; simp; omega)⟩
    · obtain ⟨u, hu0, Ru⟩ := Rw.ldL hin
      simp -implicitDefEqProofs (disch:=first|omega|(simp only[LnZ];omega))[wrap64, H.sw2.rep.I, hqi, H.sw1.rep.I, hzq, h1, H.rep.B, (Rw.on H).X (n := 1) rfl, hload_le H.base hu0]
      refine (c_Contains_int (Ru.on H)).go ?_
      rintro _ _ ⟨rfl, rfl⟩
      simp -implicitDefEqProofs (disch:=first|omega|(simp only[LnZ];omega))[wrap64, H.rep.B]
      refine H.storeF (decide ((i : Int) ∈ G[i])) (i := i) (by omega) rfl rfl trivial rfl fun h6 H => ?_
      simp -implicitDefEqProofs (disch:=first|omega|(simp only[LnZ];omega))[wrap64]
      refine hJ _ _ hin ⟨rfl, _, H, by simpa using hCl, hstep _ ?_⟩
      rw [hpc, decide_eq_true_iff, hG.mem i hin]
      constructor
      · rintro ⟨y, h2, h3⟩
        obtain rfl : i = y := by omega
        exact .inr h3
      · rintro (h2 | h2)
        · omega
        · exact ⟨i, rfl, h2⟩
  have hin : i = G.length := by omega
  subst hin
  simp -implicitDefEqProofs (disch:=first|omega|(simp only[LnZ];omega))[wrap64]
  exact RetK.keep (hk _ _ ⟨C, H.only, hCl, hC⟩)
theorem c_live {h : Heap} {v : Value} {a : Aut} (Ra : Rep h v a) (ha : a.Ok) : CallE Tryz.prog fn_impl_Automaton_live [v] h (fun u h' => ∃ L : List Bool, HS h [ow u L] h' ∧ L.length = a.acc.length ∧ ∀ q, tru L q ↔ q < a.acc.length ∧ a.Live q) := by
  obtain ⟨v1, v2, v3, rfl, R1, R2, R3⟩ := Rep_Aut.1 Ra
  have hn := ha.n
  refine CallE.gen fun k hk => EN_impl_Automaton_live rfl ?_
  simp -implicitDefEqProofs (disch:=first|omega|(simp only[LnZ];omega))[wrap64]
  refine (c_next Ra ha).go ?_
  rintro w h1 ⟨G, H, hG, hGl⟩
  simp -implicitDefEqProofs (disch:=first|omega|(simp only[LnZ];omega))[wrap64]
  refine (c_cyclic H.rep hG (by omega)).go ?_
  rintro c h2 ⟨C, H2, hCl, hC⟩
  have H := H2.app H
  simp -implicitDefEqProofs (disch:=first|omega|(simp only[LnZ];omega))[wrap64, H.sw1.rep.len]
  refine H.mks (α := Bool) (z := false) rfl rfl own_false (Nat.le_refl _) (by omega) (by omega) fun o h3 H => ?_
  simp -implicitDefEqProofs (disch:=first|omega|(simp only[LnZ];omega))[wrap64, H.sw2.rep.len]
  refine wp_count G.length (fun i e h' => e = [none, some (.agg #[v1, v2, v3]), none, some w, some c, some o, none, none, none, some (.int .i64 G.length), some (.int .i64 i), none, none, none] ∧ ∃ L : List Bool, HS h [ow o L, ow c C, ow w G] h' ∧ L.length = G.length ∧ ∀ q, tru L q ↔ q < i ∧ a.Live q) ⟨by simp, _, H, by simp, fun q => by simp [tru_replicate]⟩ ?_
  clear H
  rintro J i _ h4 hJ hi ⟨rfl, L, H, hLl, hL⟩
  simp -implicitDefEqProofs (disch:=first|omega|(simp only[LnZ];omega))[wrap64]
  refine IteW.mk (fun hlt => ?_) (fun hge => ?_)
  · have hin : i < G.length := by omega
    simp -implicitDefEqProofs (disch:=first|omega|(simp only[LnZ];omega))[wrap64]
    refine H.bls (α := Int) [(i : Int)] (by rfl) rfl (ok_one (by omega)) (by decide) fun s h4 H => ?_
    simp -implicitDefEqProofs (disch:=first|omega|(simp only[LnZ];omega))[wrap64]
    have hS1 : ∀ z ∈ [(i : Int)], 0 ≤ z ∧ z < (G.length : Int) := by
      intro z hz
      have hxi : z = i := by simpa using hz
      omega
    refine (c_reachable (S := [(i : Int)]) H.sw3.rep H.rep hG hS1 (by simp) (by omega)).go ?_
    rintro r h5 ⟨B, H5, hBl, hB⟩
    have H := H5.app H.drop
    simp -implicitDefEqProofs (disch:=first|omega|(simp only[LnZ];omega))[wrap64, H.rep.len]
    refine wp_count G.length (fun k e h' => e = [none, some (.agg #[v1, v2, v3]), none, some w, some c, some o, some (.int .i64 i), none, none, some (.int .i64 G.length), some (.int .i64 i), some r, some (.int .i64 G.length), some (.int .i64 k)] ∧ ∃ (L' : List Bool), HS h [ow r B, ow o L', ow c C, ow w G] h' ∧ L'.length = G.length ∧ (∀ q, q ≠ i → (tru L' q ↔ q < i ∧ a.Live q)) ∧ (tru L' i ↔ ∃ t, t < k ∧ tru B t ∧ tru C t ∧ tru a.acc t)) ⟨by simp [hBl], L, H, hLl, fun q _ => hL q, by rw [hL]; simp⟩ ?_
    rintro J2 k _ h6 hJ2 hk2 ⟨rfl, L', H, hLl', hL1, hL2⟩
    simp -implicitDefEqProofs (disch:=first|omega|(simp only[LnZ];omega))[wrap64]
    refine IteW.mk (fun hlt2 => ?_) (fun hge2 => ?_)
    · have hkn : k < G.length := by omega
      have H := H.sw1
      have hold : tru L' i ↔ L'[i]'(by omega) = true := tru_get (by omega)
      have hstep : ∀ b : Bool, (b = true ↔ tru L' i ∨ (tru B k ∧ tru C k ∧ tru a.acc k)) → (∀ q, q ≠ i → (tru (L'.set i b) q ↔ q < i ∧ a.Live q)) ∧ (tru (L'.set i b) i ↔ ∃ t, t < k + 1 ∧ tru B t ∧ tru C t ∧ tru a.acc t) := by
        intro b hb
        have h1 : ∀ x, tru (L'.set i b) x ↔ if x = i then b = true else tru L' x := by
          intro x
          simp only [tru, List.getD_eq_getElem?_getD, List.getElem?_set]
          by_cases e : i = x
          · subst e; simp [show i < L'.length by omega]
          · simp [e, Ne.symm e]
        refine ⟨fun q hq => by rw [h1, if_neg hq]; exact hL1 q hq, ?_⟩
        rw [h1, if_pos rfl, hb, hL2]
        constructor
        · rintro (⟨t, h2, h3⟩ | h3)
          · exact ⟨t, by omega, h3⟩
          · exact ⟨k, by omega, h3⟩
        · rintro ⟨t, h2, h3⟩
          by_cases e : t = k
          · subst e; exact .inr h3
          · exact .inl ⟨t, by omega, h3⟩
      have hgB := tru_get (B := B) (i := k) (by omega)
      have hgC := tru_get (B := C) (i := k) (by omega)
      have hgA := tru_get (B := a.acc) (i := k) (by omega)
      have hfin : ∀ b : Bool, (b = true ↔ tru L' i ∨ (tru B k ∧ tru C k ∧ tru a.acc k)) → ∀ h8, HS h [ow o (L'.set i b), ow r B, ow c C, ow w G] h8 → J2 [none, some (.agg #[v1, v2, v3]), none, some w, some c, some o, some (.int .i64 i), none, none, some (.int .i64 G.length), some (.int .i64 i), some r, some (.int .i64 G.length), some (.int .i64 ((k + 1 : Nat) : Int))] h8 :=
        fun b hb h8 H => hJ2 _ _ hkn ⟨rfl, _, H.sw1, by simpa using hLl', hstep b hb⟩
      by_cases e0 : L'[i]'(by omega) = true
      · simp -implicitDefEqProofs (disch:=first|omega|(simp only[LnZ];omega))[wrap64, H.sw1.rep.B, H.rep.B, e0]
        refine H.storeF true (i := i) (by omega) rfl rfl trivial rfl fun h7 H => ?_
        simp -implicitDefEqProofs (disch:=first|omega|(simp only[LnZ];omega))[wrap64]
        exact hfin true (by simp [hold, e0]) _ H
      by_cases e1 : B[k]'(by omega) = true
      case neg =>
        simp -implicitDefEqProofs (disch:=first|omega|(simp only[LnZ];omega))[wrap64, H.sw1.rep.B, H.rep.B, e0, e1]
        refine H.storeF false (i := i) (by omega) rfl rfl trivial rfl fun h7 H => ?_
        simp -implicitDefEqProofs (disch:=first|omega|(simp only[LnZ];omega))[wrap64]
        exact hfin false (by simp [hold, e0, hgB, e1]) _ H
      by_cases e2 : C[k]'(by omega) = true
      case neg =>
        simp -implicitDefEqProofs (disch:=first|omega|(simp only[LnZ];omega))[wrap64, H.sw1.rep.B, H.sw2.rep.B, H.rep.B, e0, e1, e2]
        refine H.storeF false (i := i) (by omega) rfl rfl trivial rfl fun h7 H => ?_
        simp -implicitDefEqProofs (disch:=first|omega|(simp only[LnZ];omega))[wrap64]
        exact hfin false (by simp [hold, e0, hgC, e2]) _ H
      by_cases e3 : a.acc[k]'(by omega) = true
      · simp -implicitDefEqProofs (disch:=first|omega|(simp only[LnZ];omega))[wrap64, H.sw1.rep.B, H.sw2.rep.B, H.rep.B, (R2.on H).B, e0, e1, e2, e3]
        refine H.storeF true (i := i) (by omega) rfl rfl trivial rfl fun h7 H => ?_
        simp -implicitDefEqProofs (disch:=first|omega|(simp only[LnZ];omega))[wrap64]
        exact hfin true (by simp [hgB, hgC, hgA, e1, e2, e3]) _ H
      · simp -implicitDefEqProofs (disch:=first|omega|(simp only[LnZ];omega))[wrap64, H.sw1.rep.B, H.sw2.rep.B, H.rep.B, (R2.on H).B, e0, e1, e2, e3]
        refine H.storeF false (i := i) (by omega) rfl rfl trivial rfl fun h7 H => ?_
        simp -implicitDefEqProofs (disch:=first|omega|(simp only[LnZ];omega))[wrap64]
        exact hfin false (by simp [hold, e0, hgA, e3]) _ H
    · simp -implicitDefEqProofs (disch:=first|omega|(simp only[LnZ];omega))[wrap64]
      refine hJ _ _ hin ⟨rfl, L', H.drop, hLl', fun q => ?_⟩
      by_cases e : q = i
      · subst e
        rw [hL2]
        constructor
        · rintro ⟨t, h1, h2, h3, h4⟩
          obtain ⟨z, h5, h6⟩ := (hB t).1 h2
          obtain rfl : z = q := by simpa [Int.ofNat_inj] using h5
          exact ⟨by omega, t, h6, (hC t (by rw [← hBl]; exact tru_lt h2)).1 h3, h4⟩
        · rintro ⟨_, t, h1, h2, h3⟩
          have htn : t < G.length := by rw [hGl]; exact tru_lt h3
          exact ⟨t, by omega, (hB t).2 ⟨q, by simp, h1⟩, (hC t htn).2 h2, h3⟩
      · rw [hL1 q e]
        constructor
        · rintro ⟨h1, h2⟩; exact ⟨by omega, h2⟩
        · rintro ⟨h1, h2⟩; exact ⟨by omega, h2⟩
  have hin : i = G.length := by omega
  subst hin
  simp -implicitDefEqProofs (disch:=first|omega|(simp only[LnZ];omega))[wrap64]
  exact RetK.keep (hk _ _ ⟨L, H.only, by omega, by rw [← hGl]; exact hL⟩)
end Go.Proofs.YtglnelcmcimljaaGreat

namespace Go.Proofs.YtglnelcmcimljaaGreat
open Go
end Go.Proofs.YtglnelcmcimljaaGreat

namespace Go.Proofs.YtglnelcmcimljaaGreat
open Go
def okR (f : Aut → Aut) (h : Heap) (a : Aut) (u : Value) (h' : Heap) : Prop := ∃ v, u = .tuple #[v, .bool (decide a.Ok)] ∧ HS h [ow v (if a.Ok then f a else Aut.empty)] h'
theorem okR.no {f : Aut → Aut} {h h' : Heap} {a : Aut} (hn : ¬ a.Ok) (H : HS h [] h') : okR f h a (.tuple #[.agg #[.slice none 0 0, .slice none 0 0, .slice none 0 0], .bool false]) h' :=
  ⟨_, by rw [decide_eq_false hn], by rw [if_neg hn]; exact empty_ow H⟩
theorem okR.yes {f : Aut → Aut} {h h' : Heap} {a : Aut} {v : Value} (hn : a.Ok) (H : HS h [ow v (f a)] h') : okR f h a (.tuple #[v, .bool true]) h' :=
  ⟨_, by rw [decide_eq_true hn], by rw [if_pos hn]; exact H⟩
end Go.Proofs.YtglnelcmcimljaaGreat

namespace Go.Proofs.YtglnelcmcimljaaGreat
open Go
end Go.Proofs.YtglnelcmcimljaaGreat

namespace Go.Proofs.YtglnelcmcimljaaGreat
open Go
theorem c_IndexFunc_int {h : Heap} {a fv : Value} {x : List Int} (Ra : Rep h a x) {f : FuncId} {c1 c2 : List Value} (hf : fnOf fv = some (f, c1, c2)) (p : Int → Bool)
    (hp : ∀ h1, h.le h1 → ∀ (i : Nat) (hi : i < x.length) (u : Value), Rep h1 u x[i] → CallE Tryz.prog f (c1 ++ u :: c2) h1 (fun v h' => h1.le h' ∧ v = .bool (p x[i]))) :
    CallE Tryz.prog fn_slices_IndexFunc_S_int_int [a, fv] h (fun v h' => h.le h' ∧ v = .int .i64 (match x.findIdx? p with | some i => (i : Int) | none => -1)) := by
  refine CallE.gen fun k hk => EN_slices_IndexFunc_S_int_int rfl ?_
  have hL := Ra.lt
  simp -implicitDefEqProofs (disch:=first|omega|(simp only[LnZ];omega))[wrap64, Ra.len]
  refine wp_count x.length (fun i e h' => e = [some a, some fv, none, none, some (.int .i64 x.length), some (.int .i64 i)] ∧ h.le h' ∧ ∀ (j : Nat) (hj : j < x.length), j < i → p x[j] = false) ⟨rfl, Heap.le.refl h, fun j _ hj => absurd hj (Nat.not_lt_zero j)⟩ ?_
  rintro J i _ h1 hJ hi ⟨rfl, hl, hn⟩
  simp -implicitDefEqProofs (disch:=first|omega|(simp only[LnZ];omega))[wrap64]
  refine IteW.mk (fun hlt => ?_) (fun hge => ?_)
  · have hlx : i < x.length := by omega
    obtain ⟨u, hu, Ru⟩ := (Ra.le hl).ld hlx
    change hload _ (some (elp 1 a i)) none = some u at hu
    simp -implicitDefEqProofs (disch:=first|omega|(simp only[LnZ];omega))[wrap64, (Ra.le hl).X (n := 1) rfl, hu, hf]
    refine (hp h1 hl i hlx u Ru).go ?_
    rintro _ h2 ⟨hl2, rfl⟩
    simp -implicitDefEqProofs (disch:=first|omega|(simp only[LnZ];omega))[wrap64]
    refine IteW.mk (fun hq => ?_) (fun hq => ?_)
    · simp -implicitDefEqProofs (disch:=first|omega|(simp only[LnZ];omega))[wrap64]
      refine RetK.keep (hk _ _ ⟨hl.trans hl2, ?_⟩)
      have h3 : x.findIdx? p = some i := by
        rw [List.findIdx?_eq_some_iff_getElem]
        exact ⟨hlx, hq, fun j hj => by rw [hn j (by omega) hj]; simp⟩
      rw [h3]
    · simp -implicitDefEqProofs (disch:=first|omega|(simp only[LnZ];omega))[wrap64]
      refine hJ _ _ hlx ⟨rfl, hl.trans hl2, fun j hj hji => ?_⟩
      by_cases hji2 : j = i
      · subst hji2; simpa using hq
      · exact hn j hj (by omega)
  · simp -implicitDefEqProofs (disch:=first|omega|(simp only[LnZ];omega))[wrap64]
    refine RetK.keep (hk _ _ ⟨hl, ?_⟩)
    have h3 : x.findIdx? p = none := by
      rw [List.findIdx?_eq_none_iff]
      intro y hy
      obtain ⟨j, hj, rfl⟩ := List.mem_iff_getElem.1 hy
      exact hn j hj (by omega)
    rw [h3]
theorem c_ContainsFunc_int {h : Heap} {a fv : Value} {x : List Int} (Ra : Rep h a x) {f : FuncId} {c1 c2 : List Value} (hf : fnOf fv = some (f, c1, c2)) (p : Int → Bool)
    (hp : ∀ h1, h.le h1 → ∀ (i : Nat) (hi : i < x.length) (u : Value), Rep h1 u x[i] → CallE Tryz.prog f (c1 ++ u :: c2) h1 (fun v h' => h1.le h' ∧ v = .bool (p x[i]))) :
    CallE Tryz.prog fn_slices_ContainsFunc_S_int_int [a, fv] h (fun v h' => h.le h' ∧ v = .bool (x.any p)) := by
  refine CallE.gen fun k hk => EN_slices_ContainsFunc_S_int_int rfl ?_
  simp -implicitDefEqProofs (disch:=first|omega|(simp only[LnZ];omega))[wrap64]
  refine (c_IndexFunc_int Ra hf p hp).go ?_
  rintro _ h1 ⟨hl, rfl⟩
  simp -implicitDefEqProofs (disch:=first|omega|(simp only[LnZ];omega))[wrap64]
  refine RetK.keep (hk _ _ ⟨hl, ?_⟩)
  congr 1
  rw [← List.findIdx?_isSome]
  cases x.findIdx? p <;> simp
end Go.Proofs.YtglnelcmcimljaaGreat

namespace Go.Proofs.YtglnelcmcimljaaGreat
open Go
theorem c_takes {h : Heap} {v : Value} {t : Tr} (Rt : Rep h v t) {n : Int} : CallE Tryz.prog fn_impl_Transition_takes [v, .int .i64 n] h (fun u h' => h' = h ∧ u = .bool (t.on n)) := by
  rw [(Rep_Tr.1 Rt).1]
  refine CallE.gen fun k hk => EN_impl_Transition_takes rfl ?_
  simp -implicitDefEqProofs (disch:=first|omega|(simp only[LnZ];omega))[wrap64, Tr.v]
  exact RetK.keep (hk _ _ ⟨rfl, rfl⟩)
theorem c_l7On {h : Heap} {v : Value} {t : Tr} (Rt : Rep h v t) {n : Int} : CallE Tryz.prog fn_spec_l7On [v, .int .i64 n] h (fun u h' => h' = h ∧ u = .bool (t.on n)) := by
  rw [(Rep_Tr.1 Rt).1]
  refine CallE.gen fun k hk => EN_spec_l7On rfl ?_
  simp -implicitDefEqProofs (disch:=first|omega|(simp only[LnZ];omega))[wrap64, Tr.v]
  exact RetK.keep (hk _ _ ⟨rfl, rfl⟩)
end Go.Proofs.YtglnelcmcimljaaGreat

namespace Go.Proofs.YtglnelcmcimljaaGreat
open Go
theorem tru_set2 {B : List Bool} {i : Nat} (hi : i < B.length) {b : Bool} {x : Nat} : tru (B.set i b) x ↔ if x = i then b = true else tru B x := by
  simp only [tru, List.getD_eq_getElem?_getD, List.getElem?_set]
  by_cases e : i = x
  · subst e; simp [hi]
  · simp [e, Ne.symm e]
theorem c_begin {h : Heap} {v l : Value} {a : Aut} {L : List Bool} (Ra : Rep h v a) (Rl : Rep h l L) (ha : a.Ok) (hLl : L.length = a.acc.length) (hL : ∀ q, tru L q ↔ q < a.acc.length ∧ a.Live q) :
    CallE Tryz.prog fn_impl_Automaton_begin [v, l] h (fun u h' => ∃ B : List Bool, HS h [ow u B] h' ∧ B.length = a.acc.length ∧ ∀ q, tru B q ↔ a.beg q) := by
  obtain ⟨v1, v2, v3, rfl, R1, R2, R3⟩ := Rep_Aut.1 Ra
  have hn := ha.n
  have hil := ha.il
  refine CallE.gen fun k hk => EN_impl_Automaton_begin rfl ?_
  simp -implicitDefEqProofs (disch:=first|omega|(simp only[LnZ];omega))[wrap64, Rl.len]
  refine HS.init.mks (α := Bool) (z := false) rfl rfl own_false (Nat.le_refl _) (by omega) (by omega) fun b h1 H => ?_
  simp -implicitDefEqProofs (disch:=first|omega|(simp only[LnZ];omega))[wrap64, (R1.on H).len]
  refine wp_count a.init.length (fun i e h' => e = [none, some l, none, none, some b, none, some v1, some (.int .i64 a.init.length), some (.int .i64 i)] ∧ ∃ B : List Bool, HS h [ow b B] h' ∧ B.length = a.acc.length ∧ ∀ q : Nat, tru B q ↔ (q : Int) ∈ a.init.take i ∧ a.Live q) ⟨by simp, _, H, by simp [hLl], fun q => by simp [tru_replicate]⟩ ?_
  clear H
  rintro J i _ h2 hJ hi ⟨rfl, B, H, hBl, hB⟩
  simp -implicitDefEqProofs (disch:=first|omega|(simp only[LnZ];omega))[wrap64]
  refine IteW.mk (fun hlt => ?_) (fun hge => ?_)
  · have hix : i < a.init.length := by omega
    have hx := ha.im hix
    obtain ⟨q, hq⟩ : ∃ q : Nat, a.init[i] = q := ⟨a.init[i].toNat, by omega⟩
    have hqn : q < a.acc.length := by omega
    simp -implicitDefEqProofs (disch:=first|omega|(simp only[LnZ];omega))[wrap64, (R1.on H).I, hq, (Rl.on H).B, H.rep.B]
    refine H.storeF (L[q]'(by omega)) (i := q) (by omega) rfl rfl trivial rfl fun h3 H => ?_
    simp -implicitDefEqProofs (disch:=first|omega|(simp only[LnZ];omega))[wrap64]
    refine hJ _ _ hix ⟨rfl, _, H, by simpa using hBl, fun x => ?_⟩
    rw [tru_set2 (by omega), take_mem_succ hix, hq]
    have hLq := hL q
    rw [tru_get (by omega)] at hLq
    split
    · rename_i e
      subst e
      rw [hLq]
      simp [hqn]
    · rename_i e
      rw [hB]
      have e2 : ¬ ((x : Int) = q) := by omega
      simp [e2]
  simp -implicitDefEqProofs (disch:=first|omega|(simp only[LnZ];omega))[wrap64]
  rw [List.take_of_length_le (by omega)] at hB
  exact RetK.keep (hk _ _ ⟨B, H, hBl, hB⟩)
theorem c_after {h : Heap} {v l s : Value} {a : Aut} {L S : List Bool} {letter : Int} (Ra : Rep h v a) (Rl : Rep h l L) (Rs : Rep h s S) (ha : a.Ok) (hLl : L.length = a.acc.length) (hSl : S.length = a.acc.length) (hL : ∀ q, tru L q ↔ q < a.acc.length ∧ a.Live q) :
    CallE Tryz.prog fn_impl_Automaton_after [v, l, s, .int .i64 letter] h (fun u h' => ∃ B : List Bool, HS h [ow u B] h' ∧ B.length = a.acc.length ∧ ∀ q, tru B q ↔ a.aft (tru S) letter q) := by
  obtain ⟨v1, v2, v3, rfl, R1, R2, R3⟩ := Rep_Aut.1 Ra
  have hn := ha.n
  have he := ha.e
  refine CallE.gen fun k hk => EN_impl_Automaton_after rfl ?_
  simp -implicitDefEqProofs (disch:=first|omega|(simp only[LnZ];omega))[wrap64, Rl.len]
  refine HS.init.mks (α := Bool) (z := false) rfl rfl own_false (Nat.le_refl _) (by omega) (by omega) fun b h1 H => ?_
  simp -implicitDefEqProofs (disch:=first|omega|(simp only[LnZ];omega))[wrap64, (R3.on H).len]
  refine wp_count a.edges.length (fun i e h' => e = [none, some l, some s, some (.int .i64 letter), none, none, some b, none, some v3, some (.int .i64 a.edges.length), some (.int .i64 i)] ∧ ∃ B : List Bool, HS h [ow b B] h' ∧ B.length = a.acc.length ∧ ∀ q : Nat, tru B q ↔ a.Live q ∧ ∃ e ∈ a.edges.take i, tru S e.frm.toNat ∧ e.to = q ∧ e.on letter = true) ⟨by simp, _, H, by simp [hLl], fun q => by simp [tru_replicate]⟩ ?_
  clear H
  rintro J i _ h2 hJ hi ⟨rfl, B, H, hBl, hB⟩
  simp -implicitDefEqProofs (disch:=first|omega|(simp only[LnZ];omega))[wrap64]
  refine IteW.mk (fun hlt => ?_) (fun hge => ?_)
  · have hix : i < a.edges.length := by omega
    have hx := ha.t hix
    have hv := R3.okTr hix
    unfold Tr.Ok at hx
    obtain ⟨f, hf⟩ : ∃ f : Nat, a.edges[i].frm = f := ⟨a.edges[i].frm.toNat, by omega⟩
    obtain ⟨t, ht⟩ : ∃ t : Nat, a.edges[i].to = t := ⟨a.edges[i].to.toNat, by omega⟩
    have hLt := hL t
    rw [tru_get (by omega)] at hLt
    have hSf := tru_get (B := S) (i := f) (by omega)
    have hstep : ∀ B' : List Bool, (∀ q : Nat, tru B' q ↔ tru B q ∨ (q = t ∧ a.Live q ∧ tru S f ∧ a.edges[i].on letter = true)) → ∀ q : Nat, tru B' q ↔ a.Live q ∧ ∃ e ∈ a.edges.take (i + 1), tru S e.frm.toNat ∧ e.to = q ∧ e.on letter = true := by
      intro B' hB' q
      rw [hB', hB]
      constructor
      · rintro (⟨h1, e, h2, h3⟩ | ⟨rfl, h1, h2, h3⟩)
        · exact ⟨h1, e, (take_mem_succ hix).2 (.inl h2), h3⟩
        · exact ⟨h1, _, (take_mem_succ hix).2 (.inr rfl), by rw [hf]; simpa using h2, ht, h3⟩
      · rintro ⟨h1, e, h2, h3, h4, h5⟩
        rcases (take_mem_succ hix).1 h2 with h2 | rfl
        · exact .inl ⟨h1, e, h2, h3, h4, h5⟩
        · rw [hf] at h3
          exact .inr ⟨by omega, h1, by simpa using h3, h5⟩
    have hkeep : ¬ (a.Live t ∧ tru S f ∧ a.edges[i].on letter = true) → ∀ h3, HS h [ow b B] h3 → J [none, some l, some s, some (.int .i64 letter), none, none, some b, none, some v3, some (.int .i64 a.edges.length), some (.int .i64 ((i + 1 : Nat) : Int))] h3 :=
      fun hno h3 H => hJ _ _ hix ⟨by simp, B, H, hBl, hstep B fun q => ⟨.inl, fun hh => hh.elim id fun ⟨e, h1, h2⟩ => absurd (e ▸ ⟨h1, h2⟩) hno⟩⟩
    by_cases e1 : S[f]'(by omega) = true
    case neg =>
      simp -implicitDefEqProofs (disch:=first|omega|(simp only[LnZ];omega))[wrap64, (R3.on H).xTr, Tr.v, setC, hf, (Rs.on H).B, e1]
      exact hkeep (fun hh => e1 (hSf.1 hh.2.1)) _ H
    by_cases e2 : L[t]'(by omega) = true
    case neg =>
      simp -implicitDefEqProofs (disch:=first|omega|(simp only[LnZ];omega))[wrap64, (R3.on H).xTr, Tr.v, setC, hf, ht, (Rs.on H).B, (Rl.on H).B, e1, e2]
      exact hkeep (fun hh => e2 (hLt.2 ⟨by omega, hh.1⟩)) _ H
    simp -implicitDefEqProofs (disch:=first|omega|(simp only[LnZ];omega))[wrap64, (R3.on H).xTr, Tr.v, setC, hf, ht, (Rs.on H).B, (Rl.on H).B, e1, e2]
    refine (c_takes (t := a.edges[i]) (Rep_Tr.2 ⟨by simp [Tr.v, hf, ht], hv⟩)).go ?_
    rintro _ _ ⟨rfl, rfl⟩
    by_cases e3 : a.edges[i].on letter = true
    case neg =>
      simp -implicitDefEqProofs (disch:=first|omega|(simp only[LnZ];omega))[wrap64, e3]
      exact hkeep (fun hh => e3 hh.2.2) _ H
    simp -implicitDefEqProofs (disch:=first|omega|(simp only[LnZ];omega))[wrap64, e3, H.rep.B]
    refine H.storeF true (i := t) (by omega) rfl rfl trivial rfl fun h3 H => ?_
    simp -implicitDefEqProofs (disch:=first|omega|(simp only[LnZ];omega))[wrap64]
    refine hJ _ _ hix ⟨by simp, _, H, by simpa using hBl, hstep _ fun q => ?_⟩
    rw [tru_set (by omega)]
    constructor
    · rintro (h1 | rfl)
      · exact .inl h1
      · exact .inr ⟨rfl, (hLt.1 e2).2, hSf.2 e1, e3⟩
    · rintro (h1 | h1)
      · exact .inl h1
      · exact .inr h1.1
  simp -implicitDefEqProofs (disch:=first|omega|(simp only[LnZ];omega))[wrap64]
  rw [List.take_of_length_le (by omega)] at hB
  exact RetK.keep (hk _ _ ⟨B, H, hBl, hB⟩)
theorem c_members {h : Heap} {s : Value} {S : List Bool} (Rs : Rep h s S) (hl : S.length ≤ 1048576) : CallE Tryz.prog fn_impl_members [s] h (fun u h' => HS h [ow u (memL (fun q => S.getD q false) S.length)] h') := by
  refine CallE.gen fun k hk => EN_impl_members rfl ?_
  simp -implicitDefEqProofs (disch:=first|omega|(simp only[LnZ];omega))[wrap64, Rs.len]
  have H := (HS.init (h := h)).nil_ow (α := Int)
  refine wp_count S.length (fun i e h' => ∃ o, e = [none, none, some o, none, none, some s, some (.int .i64 S.length), some (.int .i64 i)] ∧ HS h [ow o (memL (fun q => S.getD q false) i)] h') ⟨.slice none 0 0, by simp, by simpa [memL] using H⟩ ?_
  clear H
  rintro J i _ h2 hJ hi ⟨o, rfl, H⟩
  simp -implicitDefEqProofs (disch:=first|omega|(simp only[LnZ];omega))[wrap64]
  refine IteW.mk (fun hlt => ?_) (fun hge => ?_)
  · have hix : i < S.length := by omega
    have hml := memL_length (K := fun q => S.getD q false) (i := i)
    have hgd : S.getD i false = S[i] := by simp [hix]
    cases hb : S[i] with
    | true =>
      simp -implicitDefEqProofs (disch:=first|omega|(simp only[LnZ];omega))[wrap64, (Rs.on H).B, hb]
      refine H.app1 (i : Int) rfl rfl rfl ⟨by omega, by omega⟩ rfl rfl (by omega) (by omega) fun o' h3 H => ?_
      simp -implicitDefEqProofs (disch:=first|omega|(simp only[LnZ];omega))[wrap64]
      refine hJ _ _ hix ⟨o', rfl, ?_⟩
      rw [memL_succ, hgd, hb]; exact H
    | false =>
      simp -implicitDefEqProofs (disch:=first|omega|(simp only[LnZ];omega))[wrap64, (Rs.on H).B, hb]
      refine hJ _ _ hix ⟨o, rfl, ?_⟩
      rw [memL_succ, hgd, hb]; simpa using H
  have hii : i = S.length := by omega
  subst hii
  simp -implicitDefEqProofs (disch:=first|omega|(simp only[LnZ];omega))[wrap64]
  refine (c_Clip_int H).go ?_
  intro o' h3 H
  simp -implicitDefEqProofs (disch:=first|omega|(simp only[LnZ];omega))[wrap64]
  exact RetK.keep (hk _ _ H)
theorem c_letters_1 {h : Heap} {n : Int} : CallE Tryz.prog fn_impl_letters_1 [.int .i64 n] h (fun u h' => h' = h ∧ u = .bool (!decide (0 ≤ n ∧ n ≤ 7))) := by
  refine CallE.gen fun k hk => EN_impl_letters_1 rfl ?_
  simp -implicitDefEqProofs (disch:=first|omega|(simp only[LnZ];omega))[wrap64]
  refine c_in.go ?_
  rintro _ _ ⟨rfl, rfl⟩
  simp -implicitDefEqProofs (disch:=first|omega|(simp only[LnZ];omega))[wrap64]
  exact RetK.keep (hk _ _ ⟨rfl, by simp⟩)
theorem c_letters {h : Heap} {w : Value} {W : List Int} (Rw : Rep h w W) : CallE Tryz.prog fn_impl_letters [w] h (fun u h' => h.le h' ∧ u = .bool (decide (∀ x ∈ W, 0 ≤ x ∧ x ≤ 7))) := by
  refine CallE.gen fun k hk => EN_impl_letters rfl ?_
  simp -implicitDefEqProofs (disch:=first|omega|(simp only[LnZ];omega))[wrap64]
  refine (c_ContainsFunc_int Rw (c1 := []) (c2 := []) (f := fn_impl_letters_1) rfl (fun n => !decide (0 ≤ n ∧ n ≤ 7)) ?_).go ?_
  · intro h3 hl j hj u Ru
    obtain ⟨rfl, _⟩ := Rep_int.1 Ru
    exact (c_letters_1 (n := W[j])).to fun _ _ ⟨h4, h5⟩ => ⟨h4 ▸ Heap.le.refl _, h5⟩
  · rintro _ h3 ⟨hl, rfl⟩
    simp -implicitDefEqProofs (disch:=first|omega|(simp only[LnZ];omega))[wrap64]
    refine RetK.keep (hk _ _ ⟨hl, ?_⟩)
    congr 1
    rw [Bool.eq_iff_iff]
    simp
theorem c_wordOk {h : Heap} {w : Value} {W : List Int} (Rw : Rep h w W) : CallE Tryz.prog fn_impl_wordOk [w] h (fun u h' => h.le h' ∧ u = .bool (decide (Wok W))) := by
  have hL := Rw.lt
  refine CallE.gen fun k hk => EN_impl_wordOk rfl ?_
  simp -implicitDefEqProofs (disch:=first|omega|(simp only[LnZ];omega))[wrap64, Rw.len]
  by_cases h1 : (W.length : Int) ≤ 200
  · simp -implicitDefEqProofs (disch:=first|omega|(simp only[LnZ];omega))[wrap64, h1]
    refine (c_letters Rw).go ?_
    rintro _ h2 ⟨hl, rfl⟩
    simp -implicitDefEqProofs (disch:=first|omega|(simp only[LnZ];omega))[wrap64]
    refine RetK.keep (hk _ _ ⟨hl, ?_⟩)
    congr 1
    rw [Bool.eq_iff_iff]
    have : W.length ≤ 200 := by omega
    simp [Wok, this]
  · simp -implicitDefEqProofs (disch:=first|omega|(simp only[LnZ];omega))[wrap64, h1]
    refine RetK.keep (hk _ _ ⟨Heap.le.refl _, ?_⟩)
    congr 1
    rw [eq_comm, decide_eq_false_iff_not]
    intro hh
    have := hh.1
    omega
theorem c_prefix {h : Heap} {v w : Value} {a : Aut} {W : List Int} (Ra : Rep h v a) (Rw : Rep h w W) (ha : a.Ok) : CallE Tryz.prog fn_impl_Automaton_prefix [v, w] h (fun u h' => HS h [ow u (a.states W)] h') := by
  have hn := ha.n
  have hwl := Rw.lt
  have Fa := Ra.aAut
  refine CallE.gen fun k hk => EN_impl_Automaton_prefix rfl ?_
  simp -implicitDefEqProofs (disch:=first|omega|(simp only[LnZ];omega))[wrap64, Fa]
  refine (c_live Ra ha).go ?_
  rintro l h1 ⟨L, H, hLl, hL⟩
  simp -implicitDefEqProofs (disch:=first|omega|(simp only[LnZ];omega))[wrap64, Fa]
  refine (c_begin (Ra.on H) H.rep ha hLl hL).go ?_
  rintro b h2 ⟨B, H2, hBl, hB⟩
  have H := H2.app H
  simp -implicitDefEqProofs (disch:=first|omega|(simp only[LnZ];omega))[wrap64, Fa, (Rw.on H).len]
  refine wp_count W.length (fun i e h' => ∃ b, e = [none, none, some v, none, some l, some b, none, some w, some (.int .i64 W.length), some (.int .i64 i)] ∧ ∃ B : List Bool, HS h [ow b B, ow l L] h' ∧ B.length = a.acc.length ∧ ∀ q : Nat, tru B q ↔ a.behind (W.take i) q) ⟨b, by simp, B, H, hBl, hB⟩ ?_
  clear H hB hBl
  rintro J i _ h3 hJ hi ⟨b, rfl, B, H, hBl, hB⟩
  simp -implicitDefEqProofs (disch:=first|omega|(simp only[LnZ];omega))[wrap64]
  refine IteW.mk (fun hlt => ?_) (fun hge => ?_)
  · have hix : i < W.length := by omega
    simp -implicitDefEqProofs (disch:=first|omega|(simp only[LnZ];omega))[wrap64, Fa, (Rw.on H).I]
    refine (c_after (Ra.on H) H.sw1.rep H.rep ha hLl hBl hL).go ?_
    rintro b' h4 ⟨B', H4, hBl', hB'⟩
    have H := (H4.app H).sw1.drop
    simp -implicitDefEqProofs (disch:=first|omega|(simp only[LnZ];omega))[wrap64, Fa]
    refine hJ _ _ hix ⟨b', rfl, B', H, hBl', fun q => ?_⟩
    rw [hB', Aut.behind, foldl_take hix, funext fun q => propext (hB q)]
    exact Iff.rfl
  simp -implicitDefEqProofs (disch:=first|omega|(simp only[LnZ];omega))[wrap64]
  rw [List.take_of_length_le (by omega)] at hB
  refine (c_members H.rep (by omega)).go ?_
  intro o h4 H4
  have H := (H4.app H).only
  simp -implicitDefEqProofs (disch:=first|omega|(simp only[LnZ];omega))[wrap64]
  have he : memL (fun q => B.getD q false) B.length = a.states W := by
    refine Aut.states_eq (by rw [hBl]; exact memL_incr (Nat.le_refl _)) fun q => ?_
    rw [memL_mem, ← hB, ← hBl]
    constructor
    · rintro ⟨q', e, h5, h6⟩
      obtain rfl : q = q' := by omega
      exact ⟨h5, h6⟩
    · rintro ⟨h5, h6⟩; exact ⟨q, rfl, h5, h6⟩
  rw [he] at H
  exact RetK.keep (hk _ _ H)
end Go.Proofs.YtglnelcmcimljaaGreat

namespace Go.Proofs.YtglnelcmcimljaaGreat
open Go
section
variable {P : Program} {k : Env → Heap → Prop} {e : Env} {g h : Heap} {Γ : List HP} {v : Value} {α : Type}
theorem HS.appZ [Ty α] [Flat α] {l : List α} (H : HS g (ow v l :: Γ) h) {z : α} {n : Nat} {bytes esz : Nat} {zero zero' : List Value} {a x : O} {dst : Nat} {kd : IntKind} (ha : a.get e = some v) (hx : x.get e = some (.int kd (n : Int))) (hzz : zero' = Flat.enc z) (hok : Flat.ok z) (hsz : esz = Ty.sz α) (hz : zero.length = Ty.sz α)
    (hb : (l.length + n) * bytes ≤ 140737488355328) (hn : l.length + n < 2 ^ 62)
    (K : ∀ v' h', HS g (ow v' (l ++ List.replicate n z) :: Γ) h' → k (eset e dst (some v')) h') : (A.ex (some dst) (.app bytes esz zero (.o a) (.z x bytes zero'))).wp P k e h := by
  obtain ⟨g', r, rfl, d, O, H⟩ := H
  subst hsz hzz
  have hall : ∀ x ∈ List.replicate n z, Flat.ok x := fun x hx => by rw [List.eq_of_mem_replicate hx]; exact hok
  have henc : ∀ m, reps m (Flat.enc z) = encL (List.replicate m z) := fun m => by
    simp [reps, encL]
  have hle : n * bytes ≤ (l.length + n) * bytes := Nat.mul_le_mul_right _ (by omega)
  refine a_app (rs := Heap.nil) (l2 := List.replicate n z) O ha ?_ (encL_len hall) (ownL_enc hall) d Dj_nil (by simp) rfl hz (by simpa using hb) (by simpa using hn) fun v' r' d' O' => K _ _ ⟨g', r', rfl, d', O', H⟩
  simp only [AO.src, hx]
  rw [if_pos ⟨by omega, by omega, by simp; omega, flat_len hok⟩]
  simp [henc]
theorem bls_two [Ty α] {u1 u2 : Value} {y1 y2 : α} (R1 : Rep h u1 y1) (R2 : Rep h u2 y2) {esz : Nat} {zero : List Value} {parts : List (Nat × Nat × O)} {dst : Nat} (hf : fillP e (reps 2 zero) parts = some (u1.cells.toList ++ u2.cells.toList))
    (K : ∀ v' h', h.le h' → Rep h' v' [y1, y2] → k (eset e dst (some v')) h') : (A.ex (some dst) (.bls esz 2 zero parts)).wp P k e h := by
  obtain ⟨c1, rfl, r1⟩ := R1
  obtain ⟨c2, rfl, r2⟩ := R2
  rw [rep_cells r1, rep_cells r2] at hf
  have l1 := Ty.len r1
  have l2 := Ty.len r2
  refine ⟨_, hf, fun b el hb => Fgt.keep ?_⟩
  rw [set_new hb]
  have hd : Dj h (Heap.one b (.cells (c1 ++ c2).toArray el (0, 0))) := Dj_one.2 hb
  have hbb : (h.add (Heap.one b (.cells (c1 ++ c2).toArray el (0, 0)))) b = some (.cells (c1 ++ c2).toArray el (0, 0)) := by simp [Heap.add, Heap.one, hb]
  refine K _ _ (le_add hd) (Rep_list.2 ⟨some ⟨b, 0, none⟩, 2, rfl, ⟨Nat.le_refl _, by simp⟩, trivial, fun i hi => ?_⟩)
  refine ⟨b, 0, ((c1 ++ c2).drop (0 + i * Ty.sz α)).take (Ty.sz α), rfl, ?_, ?_⟩
  · rw [hcells_mk hbb (by simp at hi ⊢; rcases (by omega : i = 0 ∨ i = 1) with rfl | rfl <;> simp <;> omega)]
  · simp only [List.length_cons, List.length_nil] at hi
    rcases (by omega : i = 0 ∨ i = 1) with rfl | rfl
    · have e1 : ((c1 ++ c2).drop (0 + 0 * Ty.sz α)).take (Ty.sz α) = c1 := by simp [← l1]
      rw [e1]
      exact Ty.mono (le_add hd) r1
    · have e1 : ((c1 ++ c2).drop (0 + 1 * Ty.sz α)).take (Ty.sz α) = c2 := by
        rw [show 0 + 1 * Ty.sz α = c1.length by omega, List.drop_left, List.take_of_length_le (by omega)]
      rw [e1]
      exact Ty.mono (le_add hd) r2
end
end Go.Proofs.YtglnelcmcimljaaGreat
