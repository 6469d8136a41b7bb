/-
  Texts of this proof, one behind the other.
-/
import Derived.Test.YtbanccfdojgocaaYF4
set_option linter.all false
set_option linter.unusedVariables false
set_option linter.unusedSimpArgs false
set_option linter.defProp false
set_option maxRecDepth 1000000
namespace Go.Proofs.Ytbanccfdojgocaa
open Go
def H_impl_AutomatonValid : Hint := ⟨[(0, false), (1, true), (2, false), (3, false), (4, false), (6, false), (11, false), (12, false), (13, false)], [[0, 2, 5]]⟩
def K55_1 : Pl := .y 17 (.px (some 22) (.un .not (.v 21))) <|
 .x 23 (.pick (.v 17) (.v 22) (.c (.bool false))) <|
 .m 2 23 .done
@[simp] def W55_1 := Pl.w K55_1.eq_1
def K55_2 : Pl := .m 11 10 <|
 .y 11 (.als 12 none 1) <|
 .y 11 (.pget (some 13) (some 12) 1 2 none) <|
 .y 11 (.px (some 14) (.lenV (.v 13))) <|
 .y 11 (.px (some 15) (.bin .leq (.v 14) (.c (.int .i64 2048)))) <|
 .x 16 (.pick (.v 11) (.v 15) (.c (.bool false))) <|
 .m 17 16 <|
 .y 17 (.als 18 none 1) <|
 .y 17 (.pget (some 19) (some 18) 1 2 none) <|
 .y 17 (.px (some 20) (.mkf (.func fn_impl_AutomatonValid_1) [] [.v 3])) <|
 .st (.act (some (.v 17, true)) (.ex (some 21) (.call fn_slices_ContainsFunc_S_impl_Transition_impl_Transition [.v 19, .v 20]))) K55_1
@[simp] def W55_2 := Pl.w K55_2.eq_1
def K55_3 : C := .seq (.pl <| .e 9 15 <|
 .l 9 3 <|
 .c 10 (.call fn_impl_in [.v 9, .c (.int .i64 1), .c (.int .i64 64)]) K55_2) (.ret)
@[simp] def W55_3 := C.w K55_3.eq_1
def K55_4 : C := .pl <| .e 9 1 <|
 .x 9 (.bin .add (.v 8) (.c (.int .i64 1))) <|
 .m 8 9 .done
@[simp] def W55_4 := C.w K55_4.eq_1
def K55_5 : C := .pl <| .e 9 1 <|
 .m 9 5 <|
 .m 4 9 .done
@[simp] def W55_5 := C.w K55_5.eq_1
def K55_6 : C := .seq (.pl <| .e 9 0 <|
 .x 2 (.mv (.c (.bool false))) .done) (.ret)
@[simp] def W55_6 := C.w K55_6.eq_1
def K55_7 : C := .cond 9 (.v 15) K55_6 (.skip)
@[simp] def W55_7 := C.w K55_7.eq_1
def K55_8 : Pl := .x 15 (.un .not (.v 14)) .done
@[simp] def W55_8 := Pl.w K55_8.eq_1
def K55_9 : C := .seq (.seq (.pl <| .e 9 7 <|
 .m 9 5 <|
 .m 10 4 <|
 .x 11 (.bin .add (.v 10) (.c (.int .i64 1))) <|
 .l 12 3 <|
 .x 13 (.bin .sub (.v 12) (.c (.int .i64 1))) <|
 .c 14 (.call fn_impl_in [.v 9, .v 11, .v 13]) K55_8) K55_7) K55_5
@[simp] def W55_9 := C.w K55_9.eq_1
def K55_10 : C := .seq (.block 1 (.seq (.pl <| .e 9 2 <|
 .x 9 (.ia 1 (.v 6) (.v 8)) <|
 .l 10 9 <|
 .m 5 10 .done) K55_9)) K55_4
@[simp] def W55_10 := C.w K55_10.eq_1
def K55_11 : C := .seq (.cond 9 (.v 9) (.skip) (.exit 0)) K55_10
@[simp] def W55_11 := C.w K55_11.eq_1
def K55_12 : C := .seq (.pl <| .e 9 1 <|
 .x 9 (.bin .lss (.v 8) (.v 7)) .done) K55_11
@[simp] def W55_12 := C.w K55_12.eq_1
def K55_13 : C := .block 0 (.loop 9 [0, 2, 5] K55_12)
@[simp] def W55_13 := C.w K55_13.eq_1
def K55_14 : C := .seq (.seq (.pl <| .e 9 1 <|
 .a 9 1 <|
 .g 6 9 1 0 <|
 .x 7 (.lenV (.v 6)) <|
 .x 8 (.mv (.c (.int .i64 0))) .done) K55_13) K55_3
@[simp] def W55_14 := C.w K55_14.eq_1
def K55_15 : C := .seq (.pl <| .e 9 0 <|
 .x 4 (.mv (.c (.int .i64 (-1)))) .done) K55_14
@[simp] def W55_15 := C.w K55_15.eq_1
def K55_16 : Pl := .o (.ex none (.store 1 (.v 3) (.v 11))) .done
@[simp] def W55_16 := Pl.w K55_16.eq_1
def K55_17 : C := .seq (.pl <| .e 9 3 <|
 .a 9 1 <|
 .g 10 9 1 1 <|
 .x 11 (.lenV (.v 10)) <|
 .c 3 (.alloc (.c (.int .i64 0))) K55_16) K55_15
@[simp] def W55_17 := C.w K55_17.eq_1
def B_impl_AutomatonValid : C := .seq (.pl <| .e 9 0 <|
 .o (.pnew 1 (.v 0) []) <|
 .x 2 (.mv (.c (.bool false))) .done) K55_17
@[simp] def WB_impl_AutomatonValid := C.w B_impl_AutomatonValid.eq_1
def R_impl_AutomatonValid : FIR := ⟨B_impl_AutomatonValid, 9, [(2, none)]⟩
theorem IR_impl_AutomatonValid : cfun Try.prog H_impl_AutomatonValid Try.f55 = some R_impl_AutomatonValid := by kernel_rfl
theorem EN_impl_AutomatonValid : ENT Try.prog B_impl_AutomatonValid [(2, none)] 1 9 fn_impl_AutomatonValid := fun hargs hw => enter Try.func55 rfl IR_impl_AutomatonValid hargs hw
def H_impl_AutomatonValid_1 : Hint := ⟨[(0, false), (1, false), (2, true), (3, false)], []⟩
def K77_1 : Pl := .n 18 (.px (some 22) (.un .not (.v 21))) <|
 .x 23 (.pick (.v 18) (.c (.bool true)) (.v 22)) <|
 .m 24 23 <|
 .n 24 (.als 25 none 2) <|
 .n 24 (.pget (some 26) (some 25) 2 2 none) <|
 .n 24 (.px (some 27) (.bin .lss (.v 26) (.c (.int .i64 0)))) <|
 .x 28 (.pick (.v 24) (.c (.bool true)) (.v 27)) <|
 .m 29 28 <|
 .n 29 (.als 30 none 2) <|
 .n 29 (.pget (some 31) (some 30) 2 2 none) <|
 .n 29 (.als 32 none 2) <|
 .n 29 (.pget (some 33) (some 32) 2 1 none) <|
 .n 29 (.px (some 34) (.bin .andNot (.v 31) (.v 33))) <|
 .n 29 (.px (some 35) (.bin .neq (.v 34) (.c (.int .i64 0)))) <|
 .x 36 (.pick (.v 29) (.c (.bool true)) (.v 35)) <|
 .m 3 36 .done
@[simp] def W77_1 := Pl.w K77_1.eq_1
def K77_2 : Pl := .n 10 (.px (some 16) (.un .not (.v 15))) <|
 .x 17 (.pick (.v 10) (.c (.bool true)) (.v 16)) <|
 .m 18 17 <|
 .n 18 (.als 19 none 2) <|
 .n 18 (.pget (some 20) (some 19) 2 1 none) <|
 .st (.act (some (.v 18, false)) (.ex (some 21) (.call fn_impl_in [.v 20, .c (.int .i64 0), .c (.int .i64 7)]))) K77_1
@[simp] def W77_2 := Pl.w K77_2.eq_1
def K77_3 : Pl := .x 9 (.un .not (.v 8)) <|
 .m 10 9 <|
 .n 10 (.als 11 none 2) <|
 .n 10 (.pget (some 12) (some 11) 2 3 none) <|
 .n 10 (.ld (some 13) (.v 1) none) <|
 .n 10 (.px (some 14) (.bin .sub (.v 13) (.c (.int .i64 1)))) <|
 .st (.act (some (.v 10, false)) (.ex (some 15) (.call fn_impl_in [.v 12, .c (.int .i64 0), .v 14]))) K77_2
@[simp] def W77_3 := Pl.w K77_3.eq_1
def K77_4 : C := .seq (.pl <| .e 4 33 <|
 .a 4 2 <|
 .g 5 4 2 0 <|
 .l 6 1 <|
 .x 7 (.bin .sub (.v 6) (.c (.int .i64 1))) <|
 .c 8 (.call fn_impl_in [.v 5, .c (.int .i64 0), .v 7]) K77_3) (.ret)
@[simp] def W77_4 := C.w K77_4.eq_1
def B_impl_AutomatonValid_1 : C := .seq (.pl <| .e 4 0 <|
 .o (.pnew 2 (.v 0) []) <|
 .x 3 (.mv (.c (.bool false))) .done) K77_4
@[simp] def WB_impl_AutomatonValid_1 := C.w B_impl_AutomatonValid_1.eq_1
def R_impl_AutomatonValid_1 : FIR := ⟨B_impl_AutomatonValid_1, 4, [(3, none)]⟩
theorem IR_impl_AutomatonValid_1 : cfun Try.prog H_impl_AutomatonValid_1 Try.f77 = some R_impl_AutomatonValid_1 := by kernel_rfl
theorem EN_impl_AutomatonValid_1 : ENT Try.prog B_impl_AutomatonValid_1 [(3, none)] 2 4 fn_impl_AutomatonValid_1 := fun hargs hw => enter Try.func77 rfl IR_impl_AutomatonValid_1 hargs hw
def H_impl_Automaton_copyOf : Hint := ⟨[(0, false), (1, true), (2, true)], []⟩
def K56_1 : Pl := .x 12 (.build [.slice none 0 0, .slice none 0 0, .slice none 0 0] [(0, 1, .v 5), (1, 1, .v 8), (2, 1, .v 11)]) <|
 .o (.pset none 2 0 3 (.v 12)) .done
@[simp] def W56_1 := Pl.w K56_1.eq_1
def K56_2 : Pl := .c 11 (.call fn_impl_clone_impl_Transition [.v 10]) K56_1
@[simp] def W56_2 := Pl.w K56_2.eq_1
def K56_3 : Pl := .c 8 (.call fn_impl_clone_bool [.v 7]) K56_2
@[simp] def W56_3 := Pl.w K56_3.eq_1
def K56_4 : C := .seq (.pl <| .e 3 10 <|
 .a 3 1 <|
 .g 4 3 1 0 <|
 .a 6 1 <|
 .g 7 6 1 1 <|
 .a 9 1 <|
 .g 10 9 1 2 <|
 .c 5 (.call fn_impl_clone_int [.v 4]) K56_3) (.ret)
@[simp] def W56_4 := C.w K56_4.eq_1
def B_impl_Automaton_copyOf : C := .seq (.pl <| .e 3 0 <|
 .o (.pnew 1 (.v 0) []) <|
 .o (.pnew 2 (.c (.agg #[.slice none 0 0, .slice none 0 0, .slice none 0 0])) []) .done) K56_4
@[simp] def WB_impl_Automaton_copyOf := C.w B_impl_Automaton_copyOf.eq_1
def R_impl_Automaton_copyOf : FIR := ⟨B_impl_Automaton_copyOf, 3, [(2, some (some 3))]⟩
theorem IR_impl_Automaton_copyOf : cfun Try.prog H_impl_Automaton_copyOf Try.f56 = some R_impl_Automaton_copyOf := by kernel_rfl
theorem EN_impl_Automaton_copyOf : ENT Try.prog B_impl_Automaton_copyOf [(2, some (some 3))] 1 3 fn_impl_Automaton_copyOf := fun hargs hw => enter Try.func56 rfl IR_impl_Automaton_copyOf hargs hw
def H_impl_BasicFormulas : Hint := ⟨[(0, false), (1, true), (2, false), (3, false), (4, true), (5, false), (6, false)], []⟩
def K23_1 : C := .seq (.pl <| .e 7 1 <|
 .m 7 6 <|
 .m 2 7 <|
 .x 3 (.mv (.c (.bool true))) .done) (.ret)
@[simp] def W23_1 := C.w K23_1.eq_1
def K23_2 : C := .seq (.pl <| .e 7 0 <|
 .x 2 (.mv (.c (.slice none 0 0))) <|
 .x 3 (.mv (.c (.bool false))) .done) (.ret)
@[simp] def W23_2 := C.w K23_2.eq_1
def K23_3 : C := .cond 7 (.v 9) K23_2 (.skip)
@[simp] def W23_3 := C.w K23_3.eq_1
def K23_4 : C := .seq (.seq (.pl <| .e 7 3 <|
 .m 7 6 <|
 .x 8 (.lenV (.v 7)) <|
 .x 9 (.bin .gtr (.v 8) (.c (.int .i64 5))) .done) K23_3) K23_1
@[simp] def W23_4 := C.w K23_4.eq_1
def K23_5 : Pl := .m 6 8 .done
@[simp] def W23_5 := Pl.w K23_5.eq_1
def K23_6 : C := .seq (.pl <| .e 7 2 <|
 .o (.pget (some 7) none 4 0 (some 3)) <|
 .c 8 (.call fn_impl_basics [.v 7]) K23_5) K23_4
@[simp] def W23_6 := C.w K23_6.eq_1
def K23_7 : C := .seq (.pl <| .e 7 0 <|
 .x 2 (.mv (.c (.slice none 0 0))) <|
 .x 3 (.mv (.c (.bool false))) .done) (.ret)
@[simp] def W23_7 := C.w K23_7.eq_1
def K23_8 : C := .cond 7 (.v 8) K23_7 (.skip)
@[simp] def W23_8 := C.w K23_8.eq_1
def K23_9 : C := .seq (.seq (.pl <| .e 7 2 <|
 .m 7 5 <|
 .x 8 (.un .not (.v 7)) .done) K23_8) K23_6
@[simp] def W23_9 := C.w K23_9.eq_1
def K23_10 : Pl := .m 9 8 <|
 .x 10 (.extract 0 (.v 9)) <|
 .x 11 (.extract 1 (.v 9)) <|
 .o (.pnew 4 (.c (.agg #[.int .i64 0, .int .i64 0, .slice none 0 0])) []) <|
 .o (.pset none 4 0 3 (.v 10)) <|
 .m 5 11 .done
@[simp] def W23_10 := Pl.w K23_10.eq_1
def K23_11 : C := .seq (.pl <| .e 7 5 <|
 .o (.pget (some 7) none 1 0 (some 3)) <|
 .c 8 (.call fn_impl_NormalForm [.v 7]) K23_10) K23_9
@[simp] def W23_11 := C.w K23_11.eq_1
def B_impl_BasicFormulas : C := .seq (.pl <| .e 7 0 <|
 .o (.pnew 1 (.v 0) []) <|
 .x 2 (.mv (.c (.slice none 0 0))) <|
 .x 3 (.mv (.c (.bool false))) .done) K23_11
@[simp] def WB_impl_BasicFormulas := C.w B_impl_BasicFormulas.eq_1
def R_impl_BasicFormulas : FIR := ⟨B_impl_BasicFormulas, 7, [(2, none), (3, none)]⟩
theorem IR_impl_BasicFormulas : cfun Try.prog H_impl_BasicFormulas Try.f23 = some R_impl_BasicFormulas := by kernel_rfl
theorem EN_impl_BasicFormulas : ENT Try.prog B_impl_BasicFormulas [(2, none), (3, none)] 1 7 fn_impl_BasicFormulas := fun hargs hw => enter Try.func23 rfl IR_impl_BasicFormulas hargs hw
def H_impl_FormulaNodes : Hint := ⟨[(0, false), (1, true), (2, false), (3, false)], []⟩
def K71_1 : C := .seq (.pl <| .e 4 1 <|
 .l 4 3 <|
 .m 2 4 .done) (.ret)
@[simp] def W71_1 := C.w K71_1.eq_1
def K71_2 : C := .seq (.pl <| .e 4 0 <|
 .x 2 (.mv (.c (.int .i64 0))) .done) (.ret)
@[simp] def W71_2 := C.w K71_2.eq_1
def K71_3 : C := .cond 4 (.v 6) K71_2 (.skip)
@[simp] def W71_3 := C.w K71_3.eq_1
def K71_4 : Pl := .x 6 (.un .not (.v 5)) .done
@[simp] def W71_4 := Pl.w K71_4.eq_1
def K71_5 : C := .seq (.seq (.pl <| .e 4 3 <|
 .o (.pget (some 4) none 1 0 (some 3)) <|
 .c 5 (.call fn_impl_Formula_walk [.v 4, .c (.int .i64 1), .v 3]) K71_4) K71_3) K71_1
@[simp] def W71_5 := C.w K71_5.eq_1
def K71_6 : Pl := .o (.ex none (.store 1 (.v 3) (.c (.int .i64 0)))) .done
@[simp] def W71_6 := Pl.w K71_6.eq_1
def K71_7 : C := .seq (.pl <| .e 4 0 <|
 .c 3 (.alloc (.c (.int .i64 0))) K71_6) K71_5
@[simp] def W71_7 := C.w K71_7.eq_1
def B_impl_FormulaNodes : C := .seq (.pl <| .e 4 0 <|
 .o (.pnew 1 (.v 0) []) <|
 .x 2 (.mv (.c (.int .i64 0))) .done) K71_7
@[simp] def WB_impl_FormulaNodes := C.w B_impl_FormulaNodes.eq_1
def R_impl_FormulaNodes : FIR := ⟨B_impl_FormulaNodes, 4, [(2, none)]⟩
theorem IR_impl_FormulaNodes : cfun Try.prog H_impl_FormulaNodes Try.f71 = some R_impl_FormulaNodes := by kernel_rfl
theorem EN_impl_FormulaNodes : ENT Try.prog B_impl_FormulaNodes [(2, none)] 1 4 fn_impl_FormulaNodes := fun hargs hw => enter Try.func71 rfl IR_impl_FormulaNodes hargs hw
def H_impl_FormulaSame : Hint := ⟨[(0, false), (1, false), (2, true), (3, true), (4, false)], []⟩
def K74_1 : Pl := .x 23 (.pick (.v 17) (.v 22) (.c (.bool false))) <|
 .m 4 23 .done
@[simp] def W74_1 := Pl.w K74_1.eq_1
def K74_2 : C := .seq (.pl <| .e 5 19 <|
 .a 5 2 <|
 .g 6 5 2 0 <|
 .a 7 3 <|
 .g 8 7 3 0 <|
 .x 9 (.bin .eql (.v 6) (.v 8)) <|
 .m 10 9 <|
 .y 10 (.als 11 none 2) <|
 .y 10 (.pget (some 12) (some 11) 2 1 none) <|
 .y 10 (.als 13 none 3) <|
 .y 10 (.pget (some 14) (some 13) 3 1 none) <|
 .y 10 (.px (some 15) (.bin .eql (.v 12) (.v 14))) <|
 .x 16 (.pick (.v 10) (.v 15) (.c (.bool false))) <|
 .m 17 16 <|
 .y 17 (.als 18 none 2) <|
 .y 17 (.pget (some 19) (some 18) 2 2 none) <|
 .y 17 (.als 20 none 3) <|
 .y 17 (.pget (some 21) (some 20) 3 2 none) <|
 .st (.act (some (.v 17, true)) (.ex (some 22) (.call fn_slices_EqualFunc_S_impl_Formula_S_impl_Formula_impl_Formula_impl_Formula [.v 19, .v 21, .c (.func (.func 74) #[] #[])]))) K74_1) (.ret)
@[simp] def W74_2 := C.w K74_2.eq_1
def B_impl_FormulaSame : C := .seq (.pl <| .e 5 0 <|
 .o (.pnew 2 (.v 0) []) <|
 .o (.pnew 3 (.v 1) []) <|
 .x 4 (.mv (.c (.bool false))) .done) K74_2
@[simp] def WB_impl_FormulaSame := C.w B_impl_FormulaSame.eq_1
def R_impl_FormulaSame : FIR := ⟨B_impl_FormulaSame, 5, [(4, none)]⟩
theorem IR_impl_FormulaSame : cfun Try.prog H_impl_FormulaSame Try.f74 = some R_impl_FormulaSame := by kernel_rfl
theorem EN_impl_FormulaSame : ENT Try.prog B_impl_FormulaSame [(4, none)] 2 5 fn_impl_FormulaSame := fun hargs hw => enter Try.func74 rfl IR_impl_FormulaSame hargs hw
def H_impl_FormulaValid : Hint := ⟨[(0, false), (1, true), (2, false)], []⟩
def K52_1 : Pl := .x 5 (.bin .gtr (.v 4) (.c (.int .i64 0))) <|
 .m 2 5 .done
@[simp] def W52_1 := Pl.w K52_1.eq_1
def K52_2 : C := .seq (.pl <| .e 3 3 <|
 .o (.pget (some 3) none 1 0 (some 3)) <|
 .c 4 (.call fn_impl_FormulaNodes [.v 3]) K52_1) (.ret)
@[simp] def W52_2 := C.w K52_2.eq_1
def B_impl_FormulaValid : C := .seq (.pl <| .e 3 0 <|
 .o (.pnew 1 (.v 0) []) <|
 .x 2 (.mv (.c (.bool false))) .done) K52_2
@[simp] def WB_impl_FormulaValid := C.w B_impl_FormulaValid.eq_1
def R_impl_FormulaValid : FIR := ⟨B_impl_FormulaValid, 3, [(2, none)]⟩
theorem IR_impl_FormulaValid : cfun Try.prog H_impl_FormulaValid Try.f52 = some R_impl_FormulaValid := by kernel_rfl
theorem EN_impl_FormulaValid : ENT Try.prog B_impl_FormulaValid [(2, none)] 1 3 fn_impl_FormulaValid := fun hargs hw => enter Try.func52 rfl IR_impl_FormulaValid hargs hw
def H_impl_Formula_copyOf : Hint := ⟨[(0, false), (1, true), (2, true), (3, true), (4, false), (5, true), (15, false), (16, false), (17, false)], [[0, 1, 4, 5]]⟩
def K83_1 : C := .seq (.pl <| .e 9 1 <|
 .o (.pget (some 9) none 3 0 (some 3)) <|
 .o (.pset none 2 0 3 (.v 9)) .done) (.ret)
@[simp] def W83_1 := C.w K83_1.eq_1
def K83_2 : C := .pl <| .e 9 1 <|
 .x 9 (.bin .add (.v 8) (.c (.int .i64 1))) <|
 .m 8 9 .done
@[simp] def W83_2 := C.w K83_2.eq_1
def K83_3 : Pl := .x 14 (.ia 3 (.v 10) (.v 11)) <|
 .o (.ex none (.store 3 (.v 14) (.v 13))) .done
@[simp] def W83_3 := Pl.w K83_3.eq_1
def K83_4 : C := .pl <| .e 9 6 <|
 .a 9 3 <|
 .g 10 9 3 2 <|
 .m 11 4 <|
 .o (.pget (some 12) none 5 0 (some 3)) <|
 .c 13 (.call fn_impl_Formula_copyOf [.v 12]) K83_3
@[simp] def W83_4 := C.w K83_4.eq_1
def K83_5 : C := .seq (.block 1 (.seq (.pl <| .e 9 3 <|
 .m 9 8 <|
 .x 10 (.ia 3 (.v 6) (.v 8)) <|
 .o (.ld (some 11) (.v 10) (some 3)) <|
 .o (.pnew 5 (.c (.agg #[.int .i64 0, .int .i64 0, .slice none 0 0])) []) <|
 .m 4 9 <|
 .o (.pset none 5 0 3 (.v 11)) .done) K83_4)) K83_2
@[simp] def W83_5 := C.w K83_5.eq_1
def K83_6 : C := .seq (.cond 9 (.v 9) (.skip) (.exit 0)) K83_5
@[simp] def W83_6 := C.w K83_6.eq_1
def K83_7 : C := .seq (.pl <| .e 9 1 <|
 .x 9 (.bin .lss (.v 8) (.v 7)) .done) K83_6
@[simp] def W83_7 := C.w K83_7.eq_1
def K83_8 : C := .block 0 (.loop 9 [0, 1, 4, 5] K83_7)
@[simp] def W83_8 := C.w K83_8.eq_1
def K83_9 : C := .seq (.seq (.pl <| .e 9 1 <|
 .a 9 1 <|
 .g 6 9 1 2 <|
 .x 7 (.lenV (.v 6)) <|
 .x 8 (.mv (.c (.int .i64 0))) .done) K83_8) K83_1
@[simp] def W83_9 := C.w K83_9.eq_1
def K83_10 : Pl := .x 16 (.build [.int .i64 0, .int .i64 0, .slice none 0 0] [(0, 1, .v 10), (1, 1, .v 12), (2, 1, .v 15)]) <|
 .o (.pset none 3 0 3 (.v 16)) .done
@[simp] def W83_10 := Pl.w K83_10.eq_1
def K83_11 : C := .seq (.pl <| .e 9 8 <|
 .a 9 1 <|
 .g 10 9 1 0 <|
 .a 11 1 <|
 .g 12 11 1 1 <|
 .a 13 1 <|
 .g 14 13 1 2 <|
 .o (.pnew 3 (.c (.agg #[.int .i64 0, .int .i64 0, .slice none 0 0])) []) <|
 .c 15 (.call fn_impl_clone_impl_Formula [.v 14]) K83_10) K83_9
@[simp] def W83_11 := C.w K83_11.eq_1
def B_impl_Formula_copyOf : C := .seq (.pl <| .e 9 0 <|
 .o (.pnew 1 (.v 0) []) <|
 .o (.pnew 2 (.c (.agg #[.int .i64 0, .int .i64 0, .slice none 0 0])) []) .done) K83_11
@[simp] def WB_impl_Formula_copyOf := C.w B_impl_Formula_copyOf.eq_1
def R_impl_Formula_copyOf : FIR := ⟨B_impl_Formula_copyOf, 9, [(2, some (some 3))]⟩
theorem IR_impl_Formula_copyOf : cfun Try.prog H_impl_Formula_copyOf Try.f83 = some R_impl_Formula_copyOf := by kernel_rfl
theorem EN_impl_Formula_copyOf : ENT Try.prog B_impl_Formula_copyOf [(2, some (some 3))] 1 9 fn_impl_Formula_copyOf := fun hargs hw => enter Try.func83 rfl IR_impl_Formula_copyOf hargs hw
def H_impl_Formula_normal : Hint := ⟨[(0, false), (1, false), (2, false), (3, false), (4, true), (5, true), (6, false), (7, false), (8, true), (15, false), (71, false)], []⟩
def K51_1 : C := .seq (.pl <| .e 11 1 <|
 .o (.pget (some 11) none 8 0 (some 3)) <|
 .o (.pset none 4 0 3 (.v 11)) .done) (.ret)
@[simp] def W51_1 := C.w K51_1.eq_1
def K51_2 : Pl := .o (.pset none 4 0 3 (.v 13)) .done
@[simp] def W51_2 := Pl.w K51_2.eq_1
def K51_3 : Pl := .c 13 (.call fn_impl_formula [.c (.int .i64 3), .v 12]) K51_2
@[simp] def W51_3 := Pl.w K51_3.eq_1
def K51_4 : C := .seq (.pl <| .e 11 3 <|
 .o (.pget (some 11) none 8 0 (some 3)) <|
 .c 12 (.bls 3 1 [.int .i64 0, .int .i64 0, .slice none 0 0] [(0, 3, .v 11)]) K51_3) (.ret)
@[simp] def W51_4 := C.w K51_4.eq_1
def K51_5 : C := .cond 11 (.v 11) K51_4 (.skip)
@[simp] def W51_5 := C.w K51_5.eq_1
def K51_6 : C := .seq (.seq (.pl <| .e 11 1 <|
 .l 11 3 .done) K51_5) K51_1
@[simp] def W51_6 := C.w K51_6.eq_1
def K51_7 : C := .seq (.pl <| .e 11 5 <|
 .x 11 (.fa 0 (.v 2)) <|
 .l 12 11 <|
 .x 13 (.fa 1 (.v 2)) <|
 .l 14 13 <|
 .x 15 (.build [.int .i64 0, .int .i64 0, .slice none 0 0] [(0, 1, .v 12), (1, 1, .v 14)]) <|
 .o (.pnew 8 (.c (.agg #[.int .i64 0, .int .i64 0, .slice none 0 0])) []) <|
 .o (.pset none 8 0 3 (.v 15)) .done) K51_6
@[simp] def W51_7 := C.w K51_7.eq_1
def K51_8 : Pl := .o (.pset none 4 0 3 (.v 17)) .done
@[simp] def W51_8 := Pl.w K51_8.eq_1
def K51_9 : C := .seq (.pl <| .e 11 7 <|
 .x 11 (.fa 2 (.v 2)) <|
 .l 12 11 <|
 .x 13 (.ia 3 (.v 12) (.c (.int .i64 0))) <|
 .o (.ld (some 14) (.v 13) (some 3)) <|
 .l 15 3 <|
 .x 16 (.un .not (.v 15)) <|
 .c 17 (.call fn_impl_Formula_normal [.v 14, .v 16]) K51_8) (.ret)
@[simp] def W51_9 := C.w K51_9.eq_1
def K51_10 : Pl := .o (.pset none 4 0 3 (.v 18)) .done
@[simp] def W51_10 := Pl.w K51_10.eq_1
def K51_11 : Pl := .c 18 (.call fn_impl_formula [.v 12, .v 17]) K51_10
@[simp] def W51_11 := Pl.w K51_11.eq_1
def K51_12 : Pl := .c 17 (.bls 3 2 [.int .i64 0, .int .i64 0, .slice none 0 0] [(0, 3, .v 14), (3, 3, .v 16)]) K51_11
@[simp] def W51_12 := Pl.w K51_12.eq_1
def K51_13 : Pl := .m 15 6 <|
 .c 16 (.callv (.v 15) [.c (.int .i64 1)]) K51_12
@[simp] def W51_13 := Pl.w K51_13.eq_1
def K51_14 : Pl := .m 13 6 <|
 .c 14 (.callv (.v 13) [.c (.int .i64 0)]) K51_13
@[simp] def W51_14 := Pl.w K51_14.eq_1
def K51_15 : C := .seq (.pl <| .e 11 8 <|
 .m 11 7 <|
 .c 12 (.callv (.v 11) [.c (.int .i64 4), .c (.int .i64 5)]) K51_14) (.ret)
@[simp] def W51_15 := C.w K51_15.eq_1
def K51_16 : Pl := .o (.pset none 4 0 3 (.v 18)) .done
@[simp] def W51_16 := Pl.w K51_16.eq_1
def K51_17 : Pl := .c 18 (.call fn_impl_formula [.v 12, .v 17]) K51_16
@[simp] def W51_17 := Pl.w K51_17.eq_1
def K51_18 : Pl := .c 17 (.bls 3 2 [.int .i64 0, .int .i64 0, .slice none 0 0] [(0, 3, .v 14), (3, 3, .v 16)]) K51_17
@[simp] def W51_18 := Pl.w K51_18.eq_1
def K51_19 : Pl := .m 15 6 <|
 .c 16 (.callv (.v 15) [.c (.int .i64 1)]) K51_18
@[simp] def W51_19 := Pl.w K51_19.eq_1
def K51_20 : Pl := .m 13 6 <|
 .c 14 (.callv (.v 13) [.c (.int .i64 0)]) K51_19
@[simp] def W51_20 := Pl.w K51_20.eq_1
def K51_21 : C := .seq (.pl <| .e 11 8 <|
 .m 11 7 <|
 .c 12 (.callv (.v 11) [.c (.int .i64 5), .c (.int .i64 4)]) K51_20) (.ret)
@[simp] def W51_21 := C.w K51_21.eq_1
def K51_22 : Pl := .o (.pset none 4 0 3 (.v 14)) .done
@[simp] def W51_22 := Pl.w K51_22.eq_1
def K51_23 : Pl := .c 14 (.call fn_impl_formula [.c (.int .i64 6), .v 13]) K51_22
@[simp] def W51_23 := Pl.w K51_23.eq_1
def K51_24 : Pl := .c 13 (.bls 3 1 [.int .i64 0, .int .i64 0, .slice none 0 0] [(0, 3, .v 12)]) K51_23
@[simp] def W51_24 := Pl.w K51_24.eq_1
def K51_25 : C := .seq (.pl <| .e 11 4 <|
 .m 11 6 <|
 .c 12 (.callv (.v 11) [.c (.int .i64 0)]) K51_24) (.ret)
@[simp] def W51_25 := C.w K51_25.eq_1
def K51_26 : Pl := .o (.pset none 4 0 3 (.v 18)) .done
@[simp] def W51_26 := Pl.w K51_26.eq_1
def K51_27 : Pl := .c 18 (.call fn_impl_formula [.v 12, .v 17]) K51_26
@[simp] def W51_27 := Pl.w K51_27.eq_1
def K51_28 : Pl := .c 17 (.bls 3 2 [.int .i64 0, .int .i64 0, .slice none 0 0] [(0, 3, .v 14), (3, 3, .v 16)]) K51_27
@[simp] def W51_28 := Pl.w K51_28.eq_1
def K51_29 : Pl := .m 15 6 <|
 .c 16 (.callv (.v 15) [.c (.int .i64 1)]) K51_28
@[simp] def W51_29 := Pl.w K51_29.eq_1
def K51_30 : Pl := .m 13 6 <|
 .c 14 (.callv (.v 13) [.c (.int .i64 0)]) K51_29
@[simp] def W51_30 := Pl.w K51_30.eq_1
def K51_31 : C := .seq (.pl <| .e 11 8 <|
 .m 11 7 <|
 .c 12 (.callv (.v 11) [.c (.int .i64 7), .c (.int .i64 8)]) K51_30) (.ret)
@[simp] def W51_31 := C.w K51_31.eq_1
def K51_32 : Pl := .o (.pset none 4 0 3 (.v 18)) .done
@[simp] def W51_32 := Pl.w K51_32.eq_1
def K51_33 : Pl := .c 18 (.call fn_impl_formula [.v 12, .v 17]) K51_32
@[simp] def W51_33 := Pl.w K51_33.eq_1
def K51_34 : Pl := .c 17 (.bls 3 2 [.int .i64 0, .int .i64 0, .slice none 0 0] [(0, 3, .v 14), (3, 3, .v 16)]) K51_33
@[simp] def W51_34 := Pl.w K51_34.eq_1
def K51_35 : Pl := .m 15 6 <|
 .c 16 (.callv (.v 15) [.c (.int .i64 1)]) K51_34
@[simp] def W51_35 := Pl.w K51_35.eq_1
def K51_36 : Pl := .m 13 6 <|
 .c 14 (.callv (.v 13) [.c (.int .i64 0)]) K51_35
@[simp] def W51_36 := Pl.w K51_36.eq_1
def K51_37 : C := .seq (.pl <| .e 11 8 <|
 .m 11 7 <|
 .c 12 (.callv (.v 11) [.c (.int .i64 8), .c (.int .i64 7)]) K51_36) (.ret)
@[simp] def W51_37 := C.w K51_37.eq_1
def K51_38 : Pl := .o (.pset none 4 0 3 (.v 15)) .done
@[simp] def W51_38 := Pl.w K51_38.eq_1
def K51_39 : Pl := .c 15 (.call fn_impl_formula [.c (.int .i64 8), .v 14]) K51_38
@[simp] def W51_39 := Pl.w K51_39.eq_1
def K51_40 : Pl := .c 14 (.bls 3 2 [.int .i64 0, .int .i64 0, .slice none 0 0] [(0, 3, .v 11), (3, 3, .v 13)]) K51_39
@[simp] def W51_40 := Pl.w K51_40.eq_1
def K51_41 : C := .seq (.pl <| .e 11 5 <|
 .o (.pget (some 11) none 5 0 (some 3)) <|
 .m 12 6 <|
 .c 13 (.callv (.v 12) [.c (.int .i64 0)]) K51_40) (.ret)
@[simp] def W51_41 := C.w K51_41.eq_1
def K51_42 : Pl := .o (.pset none 4 0 3 (.v 15)) .done
@[simp] def W51_42 := Pl.w K51_42.eq_1
def K51_43 : Pl := .c 15 (.call fn_impl_formula [.c (.int .i64 7), .v 14]) K51_42
@[simp] def W51_43 := Pl.w K51_43.eq_1
def K51_44 : Pl := .c 14 (.bls 3 2 [.int .i64 0, .int .i64 0, .slice none 0 0] [(0, 3, .v 11), (3, 3, .v 13)]) K51_43
@[simp] def W51_44 := Pl.w K51_44.eq_1
def K51_45 : Pl := .m 12 6 <|
 .c 13 (.callv (.v 12) [.c (.int .i64 0)]) K51_44
@[simp] def W51_45 := Pl.w K51_45.eq_1
def K51_46 : C := .seq (.pl <| .e 11 5 <|
 .c 11 (.call fn_impl_formula [.c (.int .i64 1), .c (.slice none 0 0)]) K51_45) (.ret)
@[simp] def W51_46 := C.w K51_46.eq_1
def K51_47 : C := .cond 11 (.v 15) K51_46 (.skip)
@[simp] def W51_47 := C.w K51_47.eq_1
def K51_48 : C := .seq (.seq (.pl <| .e 11 5 <|
 .x 11 (.fa 0 (.v 2)) <|
 .l 12 11 <|
 .x 13 (.bin .eql (.v 12) (.c (.int .i64 9))) <|
 .l 14 3 <|
 .x 15 (.eqb true (.v 13) (.v 14)) .done) K51_47) K51_41
@[simp] def W51_48 := C.w K51_48.eq_1
def K51_49 : C := .cond 11 (.v 10) K51_48 (.skip)
@[simp] def W51_49 := C.w K51_49.eq_1
def K51_50 : C := .pl <| .e 11 1 <|
 .x 11 (.bin .eql (.v 9) (.c (.int .i64 10))) <|
 .m 10 11 .done
@[simp] def W51_50 := C.w K51_50.eq_1
def K51_51 : C := .cond 11 (.v 10) (.skip) K51_50
@[simp] def W51_51 := C.w K51_51.eq_1
def K51_52 : C := .seq (.seq (.pl <| .e 11 1 <|
 .x 11 (.bin .eql (.v 9) (.c (.int .i64 9))) <|
 .m 10 11 .done) K51_51) K51_49
@[simp] def W51_52 := C.w K51_52.eq_1
def K51_53 : C := .cond 11 (.v 12) K51_37 K51_52
@[simp] def W51_53 := C.w K51_53.eq_1
def K51_54 : C := .seq (.pl <| .e 11 2 <|
 .x 11 (.bin .eql (.v 9) (.c (.int .i64 8))) <|
 .m 12 11 .done) K51_53
@[simp] def W51_54 := C.w K51_54.eq_1
def K51_55 : C := .cond 11 (.v 12) K51_31 K51_54
@[simp] def W51_55 := C.w K51_55.eq_1
def K51_56 : C := .seq (.pl <| .e 11 2 <|
 .x 11 (.bin .eql (.v 9) (.c (.int .i64 7))) <|
 .m 12 11 .done) K51_55
@[simp] def W51_56 := C.w K51_56.eq_1
def K51_57 : C := .cond 11 (.v 12) K51_25 K51_56
@[simp] def W51_57 := C.w K51_57.eq_1
def K51_58 : C := .seq (.pl <| .e 11 2 <|
 .x 11 (.bin .eql (.v 9) (.c (.int .i64 6))) <|
 .m 12 11 .done) K51_57
@[simp] def W51_58 := C.w K51_58.eq_1
def K51_59 : C := .cond 11 (.v 12) K51_21 K51_58
@[simp] def W51_59 := C.w K51_59.eq_1
def K51_60 : C := .seq (.pl <| .e 11 2 <|
 .x 11 (.bin .eql (.v 9) (.c (.int .i64 5))) <|
 .m 12 11 .done) K51_59
@[simp] def W51_60 := C.w K51_60.eq_1
def K51_61 : C := .cond 11 (.v 12) K51_15 K51_60
@[simp] def W51_61 := C.w K51_61.eq_1
def K51_62 : C := .seq (.pl <| .e 11 2 <|
 .x 11 (.bin .eql (.v 9) (.c (.int .i64 4))) <|
 .m 12 11 .done) K51_61
@[simp] def W51_62 := C.w K51_62.eq_1
def K51_63 : C := .cond 11 (.v 12) K51_9 K51_62
@[simp] def W51_63 := C.w K51_63.eq_1
def K51_64 : C := .block 0 (.seq (.pl <| .e 11 2 <|
 .x 11 (.bin .eql (.v 9) (.c (.int .i64 3))) <|
 .m 12 11 .done) K51_63)
@[simp] def W51_64 := C.w K51_64.eq_1
def K51_65 : C := .seq (.seq (.pl <| .e 11 1 <|
 .x 11 (.fa 0 (.v 2)) <|
 .l 9 11 .done) K51_64) K51_7
@[simp] def W51_65 := C.w K51_65.eq_1
def K51_66 : C := .seq (.pl <| .e 11 1 <|
 .x 11 (.mkf (.func fn_impl_Formula_normal_2) [] [.v 3]) <|
 .m 7 11 .done) K51_65
@[simp] def W51_66 := C.w K51_66.eq_1
def K51_67 : C := .seq (.pl <| .e 11 1 <|
 .x 11 (.mkf (.func fn_impl_Formula_normal_1) [] [.v 2, .v 3]) <|
 .m 6 11 .done) K51_66
@[simp] def W51_67 := C.w K51_67.eq_1
def K51_68 : Pl := .o (.pnew 5 (.c (.agg #[.int .i64 0, .int .i64 0, .slice none 0 0])) []) <|
 .o (.pset none 5 0 3 (.v 13)) .done
@[simp] def W51_68 := Pl.w K51_68.eq_1
def K51_69 : Pl := .c 13 (.call fn_impl_formula [.c (.int .i64 3), .v 12]) K51_68
@[simp] def W51_69 := Pl.w K51_69.eq_1
def K51_70 : Pl := .c 12 (.bls 3 1 [.int .i64 0, .int .i64 0, .slice none 0 0] [(0, 3, .v 11)]) K51_69
@[simp] def W51_70 := Pl.w K51_70.eq_1
def K51_71 : C := .seq (.pl <| .e 11 3 <|
 .c 11 (.call fn_impl_formula [.c (.int .i64 1), .c (.slice none 0 0)]) K51_70) K51_67
@[simp] def W51_71 := C.w K51_71.eq_1
def K51_72 : Pl := .o (.pnew 4 (.c (.agg #[.int .i64 0, .int .i64 0, .slice none 0 0])) []) .done
@[simp] def W51_72 := Pl.w K51_72.eq_1
def K51_73 : Pl := .c 3 (.alloc (.v 1)) K51_72
@[simp] def W51_73 := Pl.w K51_73.eq_1
def B_impl_Formula_normal : C := .seq (.pl <| .e 11 0 <|
 .c 2 (.alloc (.v 0)) K51_73) K51_71
@[simp] def WB_impl_Formula_normal := C.w B_impl_Formula_normal.eq_1
def R_impl_Formula_normal : FIR := ⟨B_impl_Formula_normal, 11, [(4, some (some 3))]⟩
theorem IR_impl_Formula_normal : cfun Try.prog H_impl_Formula_normal Try.f51 = some R_impl_Formula_normal := by kernel_rfl
theorem EN_impl_Formula_normal : ENT Try.prog B_impl_Formula_normal [(4, some (some 3))] 2 11 fn_impl_Formula_normal := fun hargs hw => enter Try.func51 rfl IR_impl_Formula_normal hargs hw
def H_impl_Formula_normalForm : Hint := ⟨[(0, false), (1, true), (2, true), (3, false), (4, true)], []⟩
def K24_1 : C := .seq (.pl <| .e 5 1 <|
 .o (.pget (some 5) none 4 0 (some 3)) <|
 .o (.pset none 2 0 3 (.v 5)) <|
 .x 3 (.mv (.c (.bool true))) .done) (.ret)
@[simp] def W24_1 := C.w K24_1.eq_1
def K24_2 : C := .seq (.pl <| .e 5 1 <|
 .x 5 (.build [.int .i64 0, .int .i64 0, .slice none 0 0] []) <|
 .o (.pset none 2 0 3 (.v 5)) <|
 .x 3 (.mv (.c (.bool false))) .done) (.ret)
@[simp] def W24_2 := C.w K24_2.eq_1
def K24_3 : C := .cond 5 (.v 7) K24_2 (.skip)
@[simp] def W24_3 := C.w K24_3.eq_1
def K24_4 : Pl := .x 7 (.un .not (.v 6)) .done
@[simp] def W24_4 := Pl.w K24_4.eq_1
def K24_5 : C := .seq (.seq (.pl <| .e 5 3 <|
 .o (.pget (some 5) none 4 0 (some 3)) <|
 .c 6 (.call fn_impl_FormulaValid [.v 5]) K24_4) K24_3) K24_1
@[simp] def W24_5 := C.w K24_5.eq_1
def K24_6 : Pl := .o (.pnew 4 (.c (.agg #[.int .i64 0, .int .i64 0, .slice none 0 0])) []) <|
 .o (.pset none 4 0 3 (.v 6)) .done
@[simp] def W24_6 := Pl.w K24_6.eq_1
def K24_7 : C := .seq (.pl <| .e 5 2 <|
 .o (.pget (some 5) none 1 0 (some 3)) <|
 .c 6 (.call fn_impl_Formula_normal [.v 5, .c (.bool false)]) K24_6) K24_5
@[simp] def W24_7 := C.w K24_7.eq_1
def B_impl_Formula_normalForm : C := .seq (.pl <| .e 5 0 <|
 .o (.pnew 1 (.v 0) []) <|
 .o (.pnew 2 (.c (.agg #[.int .i64 0, .int .i64 0, .slice none 0 0])) []) <|
 .x 3 (.mv (.c (.bool false))) .done) K24_7
@[simp] def WB_impl_Formula_normalForm := C.w B_impl_Formula_normalForm.eq_1
def R_impl_Formula_normalForm : FIR := ⟨B_impl_Formula_normalForm, 5, [(2, some (some 3)), (3, none)]⟩
theorem IR_impl_Formula_normalForm : cfun Try.prog H_impl_Formula_normalForm Try.f24 = some R_impl_Formula_normalForm := by kernel_rfl
theorem EN_impl_Formula_normalForm : ENT Try.prog B_impl_Formula_normalForm [(2, some (some 3)), (3, none)] 1 5 fn_impl_Formula_normalForm := fun hargs hw => enter Try.func24 rfl IR_impl_Formula_normalForm hargs hw
def H_impl_Formula_normal_1 : Hint := ⟨[(0, false), (1, false), (2, false), (4, true)], []⟩
def K69_1 : Pl := .o (.pset none 3 0 3 (.v 10)) .done
@[simp] def W69_1 := Pl.w K69_1.eq_1
def K69_2 : C := .seq (.pl <| .e 4 7 <|
 .x 4 (.fa 2 (.v 1)) <|
 .l 5 4 <|
 .m 6 0 <|
 .x 7 (.ia 3 (.v 5) (.v 6)) <|
 .o (.ld (some 8) (.v 7) (some 3)) <|
 .l 9 2 <|
 .c 10 (.call fn_impl_Formula_normal [.v 8, .v 9]) K69_1) (.ret)
@[simp] def W69_2 := C.w K69_2.eq_1
def B_impl_Formula_normal_1 : C := .seq (.pl <| .e 4 0 <|
 .o (.pnew 3 (.c (.agg #[.int .i64 0, .int .i64 0, .slice none 0 0])) []) .done) K69_2
@[simp] def WB_impl_Formula_normal_1 := C.w B_impl_Formula_normal_1.eq_1
def R_impl_Formula_normal_1 : FIR := ⟨B_impl_Formula_normal_1, 4, [(3, some (some 3))]⟩
theorem IR_impl_Formula_normal_1 : cfun Try.prog H_impl_Formula_normal_1 Try.f69 = some R_impl_Formula_normal_1 := by kernel_rfl
theorem EN_impl_Formula_normal_1 : ENT Try.prog B_impl_Formula_normal_1 [(3, some (some 3))] 3 4 fn_impl_Formula_normal_1 := fun hargs hw => enter Try.func69 rfl IR_impl_Formula_normal_1 hargs hw
def H_impl_Formula_normal_2 : Hint := ⟨[(0, false), (1, false), (2, false), (5, false)], []⟩
def K70_1 : C := .seq (.pl <| .e 4 1 <|
 .m 4 0 <|
 .m 3 4 .done) (.ret)
@[simp] def W70_1 := C.w K70_1.eq_1
def K70_2 : C := .seq (.pl <| .e 4 1 <|
 .m 4 1 <|
 .m 3 4 .done) (.ret)
@[simp] def W70_2 := C.w K70_2.eq_1
def K70_3 : C := .cond 4 (.v 4) K70_2 (.skip)
@[simp] def W70_3 := C.w K70_3.eq_1
def K70_4 : C := .seq (.seq (.pl <| .e 4 1 <|
 .l 4 2 .done) K70_3) K70_1
@[simp] def W70_4 := C.w K70_4.eq_1
def B_impl_Formula_normal_2 : C := .seq (.pl <| .e 4 0 <|
 .x 3 (.mv (.c (.int .i64 0))) .done) K70_4
@[simp] def WB_impl_Formula_normal_2 := C.w B_impl_Formula_normal_2.eq_1
def R_impl_Formula_normal_2 : FIR := ⟨B_impl_Formula_normal_2, 4, [(3, none)]⟩
theorem IR_impl_Formula_normal_2 : cfun Try.prog H_impl_Formula_normal_2 Try.f70 = some R_impl_Formula_normal_2 := by kernel_rfl
theorem EN_impl_Formula_normal_2 : ENT Try.prog B_impl_Formula_normal_2 [(3, none)] 3 4 fn_impl_Formula_normal_2 := fun hargs hw => enter Try.func70 rfl IR_impl_Formula_normal_2 hargs hw
def H_impl_Formula_subformulas : Hint := ⟨[(0, false), (1, true), (2, false), (3, false), (4, false)], []⟩
def K66_1 : Pl := .m 2 6 .done
@[simp] def W66_1 := Pl.w K66_1.eq_1
def K66_2 : C := .seq (.pl <| .e 5 2 <|
 .l 5 3 <|
 .c 6 (.call fn_slices_Clip_S_impl_Formula_impl_Formula [.v 5]) K66_1) (.ret)
@[simp] def W66_2 := C.w K66_2.eq_1
def K66_3 : C := .seq (.pl <| .e 5 3 <|
 .l 5 4 <|
 .o (.pget (some 6) none 1 0 (some 3)) <|
 .c 7 (.callv (.v 5) [.v 6]) .done) K66_2
@[simp] def W66_3 := C.w K66_3.eq_1
def K66_4 : C := .seq (.pl <| .e 5 1 <|
 .x 5 (.mkf (.func fn_impl_Formula_subformulas_1) [] [.v 4, .v 3]) <|
 .o (.ex none (.store 1 (.v 4) (.v 5))) .done) K66_3
@[simp] def W66_4 := C.w K66_4.eq_1
def K66_5 : C := .seq (.pl <| .e 5 0 <|
 .c 4 (.alloc (.c (.nilFunc))) .done) K66_4
@[simp] def W66_5 := C.w K66_5.eq_1
def K66_6 : C := .seq (.pl <| .e 5 0 <|
 .c 3 (.alloc (.c (.slice none 0 0))) .done) K66_5
@[simp] def W66_6 := C.w K66_6.eq_1
def B_impl_Formula_subformulas : C := .seq (.pl <| .e 5 0 <|
 .o (.pnew 1 (.v 0) []) <|
 .x 2 (.mv (.c (.slice none 0 0))) .done) K66_6
@[simp] def WB_impl_Formula_subformulas := C.w B_impl_Formula_subformulas.eq_1
def R_impl_Formula_subformulas : FIR := ⟨B_impl_Formula_subformulas, 5, [(2, none)]⟩
theorem IR_impl_Formula_subformulas : cfun Try.prog H_impl_Formula_subformulas Try.f66 = some R_impl_Formula_subformulas := by kernel_rfl
theorem EN_impl_Formula_subformulas : ENT Try.prog B_impl_Formula_subformulas [(2, none)] 1 5 fn_impl_Formula_subformulas := fun hargs hw => enter Try.func66 rfl IR_impl_Formula_subformulas hargs hw
def H_impl_Formula_subformulas_1 : Hint := ⟨[(0, false), (1, false), (2, false), (3, true), (5, true), (7, false), (8, false), (9, false)], [[0, 4]]⟩
def K82_1 : Pl := .o (.ex none (.store 1 (.v 2) (.v 13))) .done
@[simp] def W82_1 := Pl.w K82_1.eq_1
def K82_2 : Pl := .o (.ex none (.store 3 (.v 14) (.v 10))) K82_1
@[simp] def W82_2 := Pl.w K82_2.eq_1
def K82_3 : Pl := .o (.ex none (.store 3 (.v 14) (.v 10))) .done
@[simp] def W82_3 := Pl.w K82_3.eq_1
def K82_4 : Pl := .o (.ex none (.store 1 (.v 2) (.v 13))) K82_3
@[simp] def W82_4 := Pl.w K82_4.eq_1
def K82_5 : Pl := .x 14 (.ia 3 (.v 13) (.v 11)) <|
 .both K82_2 K82_4
@[simp] def W82_5 := Pl.w K82_5.eq_1
def K82_6 : Pl := .st (.re 8 (.v 2) none none) <|
 .c 13 (.app 40 3 [.int .i64 0, .int .i64 0, .slice none 0 0] (.o (.v 8)) (.p 1 12)) K82_5
@[simp] def W82_6 := Pl.w K82_6.eq_1
def K82_7 : C := .pl <| .e 8 7 <|
 .l 8 2 <|
 .o (.pget (some 9) none 3 0 (some 3)) <|
 .x 11 (.lenV (.v 8)) <|
 .o (.psl 12 [.int .i64 0, .int .i64 0, .slice none 0 0] [(0, 3, .c (.agg #[.int .i64 0, .int .i64 0, .slice none 0 0]))]) <|
 .c 10 (.call fn_impl_Formula_copyOf [.v 9]) K82_6
@[simp] def W82_7 := C.w K82_7.eq_1
def K82_8 : C := .cond 8 (.v 11) K82_7 (.skip)
@[simp] def W82_8 := C.w K82_8.eq_1
def K82_9 : Pl := .x 11 (.bin .lss (.v 10) (.c (.int .i64 0))) .done
@[simp] def W82_9 := Pl.w K82_9.eq_1
def K82_10 : C := .seq (.pl <| .e 8 4 <|
 .l 8 2 <|
 .o (.pget (some 9) none 3 0 (some 3)) <|
 .c 10 (.call fn_impl_formulaAt [.v 8, .v 9]) K82_9) K82_8
@[simp] def W82_10 := C.w K82_10.eq_1
def K82_11 : C := .pl <| .e 8 1 <|
 .x 8 (.bin .add (.v 7) (.c (.int .i64 1))) <|
 .m 7 8 .done
@[simp] def W82_11 := C.w K82_11.eq_1
def K82_12 : C := .pl <| .e 8 3 <|
 .l 8 1 <|
 .o (.pget (some 9) none 4 0 (some 3)) <|
 .c 10 (.callv (.v 8) [.v 9]) .done
@[simp] def W82_12 := C.w K82_12.eq_1
def K82_13 : C := .seq (.block 1 (.seq (.pl <| .e 8 2 <|
 .x 8 (.ia 3 (.v 5) (.v 7)) <|
 .o (.ld (some 9) (.v 8) (some 3)) <|
 .o (.pnew 4 (.c (.agg #[.int .i64 0, .int .i64 0, .slice none 0 0])) []) <|
 .o (.pset none 4 0 3 (.v 9)) .done) K82_12)) K82_11
@[simp] def W82_13 := C.w K82_13.eq_1
def K82_14 : C := .seq (.cond 8 (.v 8) (.skip) (.exit 0)) K82_13
@[simp] def W82_14 := C.w K82_14.eq_1
def K82_15 : C := .seq (.pl <| .e 8 1 <|
 .x 8 (.bin .lss (.v 7) (.v 6)) .done) K82_14
@[simp] def W82_15 := C.w K82_15.eq_1
def K82_16 : C := .block 0 (.loop 8 [0, 4] K82_15)
@[simp] def W82_16 := C.w K82_16.eq_1
def K82_17 : C := .seq (.seq (.pl <| .e 8 1 <|
 .a 8 3 <|
 .g 5 8 3 2 <|
 .x 6 (.lenV (.v 5)) <|
 .x 7 (.mv (.c (.int .i64 0))) .done) K82_16) K82_10
@[simp] def W82_17 := C.w K82_17.eq_1
def B_impl_Formula_subformulas_1 : C := .seq (.pl <| .e 8 0 <|
 .o (.pnew 3 (.v 0) []) .done) K82_17
@[simp] def WB_impl_Formula_subformulas_1 := C.w B_impl_Formula_subformulas_1.eq_1
def R_impl_Formula_subformulas_1 : FIR := ⟨B_impl_Formula_subformulas_1, 8, []⟩
theorem IR_impl_Formula_subformulas_1 : cfun Try.prog H_impl_Formula_subformulas_1 Try.f82 = some R_impl_Formula_subformulas_1 := by kernel_rfl
theorem EN_impl_Formula_subformulas_1 : ENT Try.prog B_impl_Formula_subformulas_1 [] 3 8 fn_impl_Formula_subformulas_1 := fun hargs hw => enter Try.func82 rfl IR_impl_Formula_subformulas_1 hargs hw
def H_impl_Formula_walk : Hint := ⟨[(0, false), (1, false), (2, false), (3, true), (4, false), (5, false), (6, false), (7, false)], []⟩
def K85_1 : Pl := .x 12 (.un .not (.v 11)) <|
 .m 6 12 .done
@[simp] def W85_1 := Pl.w K85_1.eq_1
def K85_2 : C := .seq (.pl <| .e 8 5 <|
 .a 8 3 <|
 .g 9 8 3 2 <|
 .x 10 (.mkf (.func fn_impl_Formula_walk_1) [] [.v 4, .v 5]) <|
 .c 11 (.call fn_slices_ContainsFunc_S_impl_Formula_impl_Formula [.v 9, .v 10]) K85_1) (.ret)
@[simp] def W85_2 := C.w K85_2.eq_1
def K85_3 : C := .seq (.pl <| .e 8 0 <|
 .x 6 (.mv (.c (.bool false))) .done) (.ret)
@[simp] def W85_3 := C.w K85_3.eq_1
def K85_4 : C := .cond 8 (.v 37) K85_3 (.skip)
@[simp] def W85_4 := C.w K85_4.eq_1
def K85_5 : Pl := .n 29 (.px (some 36) (.bin .neq (.v 32) (.v 35))) <|
 .x 37 (.pick (.v 29) (.c (.bool true)) (.v 36)) .done
@[simp] def W85_5 := Pl.w K85_5.eq_1
def K85_6 : Pl := .n 22 (.px (some 27) (.un .not (.v 26))) <|
 .x 28 (.pick (.v 22) (.c (.bool true)) (.v 27)) <|
 .m 29 28 <|
 .n 29 (.als 30 none 3) <|
 .n 29 (.pget (some 31) (some 30) 3 2 none) <|
 .n 29 (.px (some 32) (.lenV (.v 31))) <|
 .n 29 (.als 33 none 3) <|
 .n 29 (.pget (some 34) (some 33) 3 0 none) <|
 .st (.act (some (.v 29, false)) (.ex (some 35) (.call fn_impl_operands [.v 34]))) K85_5
@[simp] def W85_6 := Pl.w K85_6.eq_1
def K85_7 : Pl := .n 16 (.px (some 20) (.un .not (.v 19))) <|
 .x 21 (.pick (.v 16) (.c (.bool true)) (.v 20)) <|
 .m 22 21 <|
 .n 22 (.als 23 none 3) <|
 .n 22 (.pget (some 24) (some 23) 3 1 none) <|
 .n 22 (.px (some 25) (.mv (.v 7))) <|
 .st (.act (some (.v 22, false)) (.ex (some 26) (.call fn_impl_in [.v 24, .c (.int .i64 0), .v 25]))) K85_6
@[simp] def W85_7 := Pl.w K85_7.eq_1
def K85_8 : C := .seq (.seq (.pl <| .e 8 30 <|
 .l 8 4 <|
 .x 9 (.bin .gtr (.v 8) (.c (.int .i64 6))) <|
 .m 10 9 <|
 .n 10 (.ld (some 11) (.v 5) none) <|
 .n 10 (.px (some 12) (.nilc (.v 11))) <|
 .n 10 (.ld (some 13) (.v 12) none) <|
 .n 10 (.px (some 14) (.bin .gtr (.v 13) (.c (.int .i64 12)))) <|
 .x 15 (.pick (.v 10) (.c (.bool true)) (.v 14)) <|
 .m 16 15 <|
 .n 16 (.als 17 none 3) <|
 .n 16 (.pget (some 18) (some 17) 3 0 none) <|
 .st (.act (some (.v 16, false)) (.ex (some 19) (.call fn_impl_in [.v 18, .c (.int .i64 1), .c (.int .i64 10)]))) K85_7) K85_4) K85_2
@[simp] def W85_8 := C.w K85_8.eq_1
def K85_9 : C := .pl <| .e 8 0 <|
 .x 7 (.mv (.c (.int .i64 2))) .done
@[simp] def W85_9 := C.w K85_9.eq_1
def K85_10 : C := .cond 8 (.v 10) K85_9 (.skip)
@[simp] def W85_10 := C.w K85_10.eq_1
def K85_11 : C := .seq (.seq (.pl <| .e 8 3 <|
 .a 8 3 <|
 .g 9 8 3 0 <|
 .x 10 (.bin .eql (.v 9) (.c (.int .i64 2))) .done) K85_10) K85_8
@[simp] def W85_11 := C.w K85_11.eq_1
def K85_12 : C := .seq (.pl <| .e 8 0 <|
 .x 7 (.mv (.c (.int .i64 0))) .done) K85_11
@[simp] def W85_12 := C.w K85_12.eq_1
def K85_13 : C := .seq (.pl <| .e 8 5 <|
 .l 8 5 <|
 .x 9 (.nilc (.v 8)) <|
 .l 10 9 <|
 .x 11 (.bin .add (.v 10) (.c (.int .i64 1))) <|
 .x 12 (.nilc (.v 8)) <|
 .o (.ex none (.store 1 (.v 12) (.v 11))) .done) K85_12
@[simp] def W85_13 := C.w K85_13.eq_1
def K85_14 : Pl := .x 6 (.mv (.c (.bool false))) .done
@[simp] def W85_14 := Pl.w K85_14.eq_1
def K85_15 : Pl := .c 5 (.alloc (.v 2)) K85_14
@[simp] def W85_15 := Pl.w K85_15.eq_1
def B_impl_Formula_walk : C := .seq (.pl <| .e 8 0 <|
 .o (.pnew 3 (.v 0) []) <|
 .c 4 (.alloc (.v 1)) K85_15) K85_13
@[simp] def WB_impl_Formula_walk := C.w B_impl_Formula_walk.eq_1
def R_impl_Formula_walk : FIR := ⟨B_impl_Formula_walk, 8, [(6, none)]⟩
theorem IR_impl_Formula_walk : cfun Try.prog H_impl_Formula_walk Try.f85 = some R_impl_Formula_walk := by kernel_rfl
theorem EN_impl_Formula_walk : ENT Try.prog B_impl_Formula_walk [(6, none)] 3 8 fn_impl_Formula_walk := fun hargs hw => enter Try.func85 rfl IR_impl_Formula_walk hargs hw
def H_impl_Formula_walk_1 : Hint := ⟨[(0, false), (1, false), (2, false), (3, true), (4, false)], []⟩
def K97_1 : Pl := .x 10 (.un .not (.v 9)) <|
 .m 4 10 .done
@[simp] def W97_1 := Pl.w K97_1.eq_1
def K97_2 : C := .seq (.pl <| .e 5 6 <|
 .o (.pget (some 5) none 3 0 (some 3)) <|
 .l 6 1 <|
 .x 7 (.bin .add (.v 6) (.c (.int .i64 1))) <|
 .l 8 2 <|
 .c 9 (.call fn_impl_Formula_walk [.v 5, .v 7, .v 8]) K97_1) (.ret)
@[simp] def W97_2 := C.w K97_2.eq_1
def B_impl_Formula_walk_1 : C := .seq (.pl <| .e 5 0 <|
 .o (.pnew 3 (.v 0) []) <|
 .x 4 (.mv (.c (.bool false))) .done) K97_2
@[simp] def WB_impl_Formula_walk_1 := C.w B_impl_Formula_walk_1.eq_1
def R_impl_Formula_walk_1 : FIR := ⟨B_impl_Formula_walk_1, 5, [(4, none)]⟩
theorem IR_impl_Formula_walk_1 : cfun Try.prog H_impl_Formula_walk_1 Try.f97 = some R_impl_Formula_walk_1 := by kernel_rfl
theorem EN_impl_Formula_walk_1 : ENT Try.prog B_impl_Formula_walk_1 [(4, none)] 3 5 fn_impl_Formula_walk_1 := fun hargs hw => enter Try.func97 rfl IR_impl_Formula_walk_1 hargs hw
def H_impl_NormalForm : Hint := ⟨[(0, false), (1, true), (2, true), (3, false)], []⟩
def K49_1 : Pl := .x 6 (.extract 0 (.v 5)) <|
 .x 7 (.extract 1 (.v 5)) <|
 .o (.pset none 2 0 3 (.v 6)) <|
 .m 3 7 .done
@[simp] def W49_1 := Pl.w K49_1.eq_1
def K49_2 : C := .seq (.pl <| .e 4 4 <|
 .o (.pget (some 4) none 1 0 (some 3)) <|
 .c 5 (.call fn_impl_Formula_normalForm [.v 4]) K49_1) (.ret)
@[simp] def W49_2 := C.w K49_2.eq_1
def K49_3 : C := .seq (.pl <| .e 4 1 <|
 .x 4 (.build [.int .i64 0, .int .i64 0, .slice none 0 0] []) <|
 .o (.pset none 2 0 3 (.v 4)) <|
 .x 3 (.mv (.c (.bool false))) .done) (.ret)
@[simp] def W49_3 := C.w K49_3.eq_1
def K49_4 : C := .cond 4 (.v 6) K49_3 (.skip)
@[simp] def W49_4 := C.w K49_4.eq_1
def K49_5 : Pl := .x 6 (.un .not (.v 5)) .done
@[simp] def W49_5 := Pl.w K49_5.eq_1
def K49_6 : C := .seq (.seq (.pl <| .e 4 3 <|
 .o (.pget (some 4) none 1 0 (some 3)) <|
 .c 5 (.call fn_impl_FormulaValid [.v 4]) K49_5) K49_4) K49_2
@[simp] def W49_6 := C.w K49_6.eq_1
def B_impl_NormalForm : C := .seq (.pl <| .e 4 0 <|
 .o (.pnew 1 (.v 0) []) <|
 .o (.pnew 2 (.c (.agg #[.int .i64 0, .int .i64 0, .slice none 0 0])) []) <|
 .x 3 (.mv (.c (.bool false))) .done) K49_6
@[simp] def WB_impl_NormalForm := C.w B_impl_NormalForm.eq_1
def R_impl_NormalForm : FIR := ⟨B_impl_NormalForm, 4, [(2, some (some 3)), (3, none)]⟩
theorem IR_impl_NormalForm : cfun Try.prog H_impl_NormalForm Try.f49 = some R_impl_NormalForm := by kernel_rfl
theorem EN_impl_NormalForm : ENT Try.prog B_impl_NormalForm [(2, some (some 3)), (3, none)] 1 4 fn_impl_NormalForm := fun hargs hw => enter Try.func49 rfl IR_impl_NormalForm hargs hw
def H_impl_TranslateFormula : Hint := ⟨[(0, false), (1, true), (2, true), (3, false), (4, false), (5, false), (6, true), (8, false), (9, false), (10, true), (11, false), (12, false), (13, false), (30, false), (31, false), (32, false), (53, false), (54, false)], [[0, 1, 3, 5, 8, 9, 10, 11, 12, 16, 17], [0, 1, 3, 4, 5, 8, 9, 11, 12, 13, 14, 15]]⟩
def K7_1 : Pl := .x 23 (.extract 0 (.v 22)) <|
 .x 24 (.extract 1 (.v 22)) <|
 .o (.pset none 2 0 3 (.v 23)) <|
 .m 3 24 .done
@[simp] def W7_1 := Pl.w K7_1.eq_1
def K7_2 : C := .seq (.pl <| .e 18 7 <|
 .m 18 10 <|
 .m 19 12 <|
 .l 20 7 <|
 .x 21 (.mkf (.func fn_impl_translator_moves) [.v 20] []) <|
 .c 22 (.call fn_impl_explore_impl_phased [.v 18, .v 19, .v 21]) K7_1) (.ret)
@[simp] def W7_2 := C.w K7_2.eq_1
def K7_3 : C := .seq (.pl <| .e 18 1 <|
 .x 18 (.mkf (.func fn_impl_TranslateFormula_1) [] [.v 7]) <|
 .m 12 18 .done) K7_2
@[simp] def W7_3 := C.w K7_3.eq_1
def K7_4 : C := .pl <| .e 18 1 <|
 .x 18 (.bin .add (.v 17) (.c (.int .i64 1))) <|
 .m 17 18 .done
@[simp] def W7_4 := C.w K7_4.eq_1
def K7_5 : Pl := .m 10 22 .done
@[simp] def W7_5 := Pl.w K7_5.eq_1
def K7_6 : C := .pl <| .e 18 5 <|
 .m 18 10 <|
 .m 19 11 <|
 .x 20 (.build [.int .i64 0, .int .i64 0] [(0, 1, .v 19), (1, 1, .c (.int .i64 0))]) <|
 .o (.psl 21 [.int .i64 0, .int .i64 0] [(0, 2, .v 20)]) <|
 .c 22 (.app 16 2 [.int .i64 0, .int .i64 0] (.o (.v 18)) (.p 1 21)) K7_5
@[simp] def W7_6 := C.w K7_6.eq_1
def K7_7 : C := .cond 18 (.v 21) K7_6 (.skip)
@[simp] def W7_7 := C.w K7_7.eq_1
def K7_8 : C := .seq (.pl <| .e 18 4 <|
 .l 18 7 <|
 .o (.pget (some 19) none 6 0 (some 3)) <|
 .m 20 11 <|
 .c 21 (.call fn_impl_translator_holds [.v 18, .v 19, .v 20]) .done) K7_7
@[simp] def W7_8 := C.w K7_8.eq_1
def K7_9 : C := .seq (.block 3 (.seq (.pl <| .e 18 1 <|
 .m 18 17 <|
 .m 11 18 .done) K7_8)) K7_4
@[simp] def W7_9 := C.w K7_9.eq_1
def K7_10 : C := .seq (.cond 18 (.v 18) (.skip) (.exit 2)) K7_9
@[simp] def W7_10 := C.w K7_10.eq_1
def K7_11 : C := .seq (.pl <| .e 18 1 <|
 .x 18 (.bin .lss (.v 17) (.v 16)) .done) K7_10
@[simp] def W7_11 := C.w K7_11.eq_1
def K7_12 : C := .block 2 (.loop 18 [0, 1, 3, 4, 5, 8, 9, 11, 12, 13, 14, 15] K7_11)
@[simp] def W7_12 := C.w K7_12.eq_1
def K7_13 : C := .seq (.seq (.pl <| .e 18 2 <|
 .m 18 4 <|
 .x 19 (.lenV (.v 18)) <|
 .x 16 (.bin .shl (.c (.int .i64 1)) (.v 19)) <|
 .x 17 (.mv (.c (.int .i64 0))) .done) K7_12) K7_3
@[simp] def W7_13 := C.w K7_13.eq_1
def K7_14 : C := .seq (.pl <| .e 18 0 <|
 .x 10 (.mv (.c (.slice none 0 0))) .done) K7_13
@[simp] def W7_14 := C.w K7_14.eq_1
def K7_15 : C := .pl <| .e 18 1 <|
 .x 18 (.bin .add (.v 15) (.c (.int .i64 1))) <|
 .m 15 18 .done
@[simp] def W7_15 := C.w K7_15.eq_1
def K7_16 : Pl := .st (.re 18 (.v 7) none none) <|
 .x 26 (.nilc (.v 18)) <|
 .x 27 (.fa 1 (.v 26)) <|
 .o (.ex none (.store 1 (.v 27) (.v 25))) .done
@[simp] def W7_16 := Pl.w K7_16.eq_1
def K7_17 : C := .pl <| .e 18 10 <|
 .l 18 7 <|
 .l 19 7 <|
 .x 20 (.nilc (.v 19)) <|
 .x 21 (.fa 1 (.v 20)) <|
 .l 22 21 <|
 .m 23 8 <|
 .o (.psl 24 [.int .i64 0] [(0, 1, .v 23)]) <|
 .c 25 (.app 8 1 [.int .i64 0] (.o (.v 22)) (.p 1 24)) K7_16
@[simp] def W7_17 := C.w K7_17.eq_1
def K7_18 : C := .cond 18 (.v 20) K7_17 (.skip)
@[simp] def W7_18 := C.w K7_18.eq_1
def K7_19 : C := .seq (.pl <| .e 18 3 <|
 .a 18 9 <|
 .g 19 18 9 0 <|
 .x 20 (.bin .eql (.v 19) (.c (.int .i64 7))) .done) K7_18
@[simp] def W7_19 := C.w K7_19.eq_1
def K7_20 : C := .seq (.block 1 (.seq (.pl <| .e 18 3 <|
 .m 18 15 <|
 .x 19 (.ia 3 (.v 13) (.v 15)) <|
 .o (.ld (some 20) (.v 19) (some 3)) <|
 .o (.pnew 9 (.c (.agg #[.int .i64 0, .int .i64 0, .slice none 0 0])) []) <|
 .m 8 18 <|
 .o (.pset none 9 0 3 (.v 20)) .done) K7_19)) K7_15
@[simp] def W7_20 := C.w K7_20.eq_1
def K7_21 : C := .seq (.cond 18 (.v 18) (.skip) (.exit 0)) K7_20
@[simp] def W7_21 := C.w K7_21.eq_1
def K7_22 : C := .seq (.pl <| .e 18 1 <|
 .x 18 (.bin .lss (.v 15) (.v 14)) .done) K7_21
@[simp] def W7_22 := C.w K7_22.eq_1
def K7_23 : C := .block 0 (.loop 18 [0, 1, 3, 5, 8, 9, 10, 11, 12, 16, 17] K7_22)
@[simp] def W7_23 := C.w K7_23.eq_1
def K7_24 : C := .seq (.seq (.pl <| .e 18 0 <|
 .m 13 4 <|
 .x 14 (.lenV (.v 13)) <|
 .x 15 (.mv (.c (.int .i64 0))) .done) K7_23) K7_14
@[simp] def W7_24 := C.w K7_24.eq_1
def K7_25 : Pl := .o (.ex none (.store 1 (.v 7) (.v 20))) .done
@[simp] def W7_25 := Pl.w K7_25.eq_1
def K7_26 : Pl := .c 7 (.alloc (.c (.pointer none))) K7_25
@[simp] def W7_26 := Pl.w K7_26.eq_1
def K7_27 : C := .seq (.pl <| .e 18 3 <|
 .m 18 4 <|
 .x 19 (.build [.slice none 0 0, .slice none 0 0] [(0, 1, .v 18)]) <|
 .c 20 (.alloc (.v 19)) K7_26) K7_24
@[simp] def W7_27 := C.w K7_27.eq_1
def K7_28 : Pl := .m 20 19 <|
 .x 21 (.extract 0 (.v 20)) <|
 .x 22 (.extract 1 (.v 20)) <|
 .o (.pnew 6 (.c (.agg #[.int .i64 0, .int .i64 0, .slice none 0 0])) []) <|
 .o (.pset none 6 0 3 (.v 21)) <|
 .m 23 22 .done
@[simp] def W7_28 := Pl.w K7_28.eq_1
def K7_29 : C := .seq (.pl <| .e 18 6 <|
 .o (.pget (some 18) none 1 0 (some 3)) <|
 .c 19 (.call fn_impl_Formula_normalForm [.v 18]) K7_28) K7_27
@[simp] def W7_29 := C.w K7_29.eq_1
def K7_30 : C := .seq (.pl <| .e 18 1 <|
 .x 18 (.build [.slice none 0 0, .slice none 0 0, .slice none 0 0] []) <|
 .o (.pset none 2 0 3 (.v 18)) <|
 .x 3 (.mv (.c (.bool false))) .done) (.ret)
@[simp] def W7_30 := C.w K7_30.eq_1
def K7_31 : C := .cond 18 (.v 19) K7_30 (.skip)
@[simp] def W7_31 := C.w K7_31.eq_1
def K7_32 : C := .seq (.seq (.pl <| .e 18 2 <|
 .m 18 5 <|
 .x 19 (.un .not (.v 18)) .done) K7_31) K7_29
@[simp] def W7_32 := C.w K7_32.eq_1
def K7_33 : Pl := .m 20 19 <|
 .x 21 (.extract 0 (.v 20)) <|
 .x 22 (.extract 1 (.v 20)) <|
 .m 4 21 <|
 .m 5 22 .done
@[simp] def W7_33 := Pl.w K7_33.eq_1
def K7_34 : C := .seq (.pl <| .e 18 5 <|
 .o (.pget (some 18) none 1 0 (some 3)) <|
 .c 19 (.call fn_impl_BasicFormulas [.v 18]) K7_33) K7_32
@[simp] def W7_34 := C.w K7_34.eq_1
def B_impl_TranslateFormula : C := .seq (.pl <| .e 18 0 <|
 .o (.pnew 1 (.v 0) []) <|
 .o (.pnew 2 (.c (.agg #[.slice none 0 0, .slice none 0 0, .slice none 0 0])) []) <|
 .x 3 (.mv (.c (.bool false))) .done) K7_34
@[simp] def WB_impl_TranslateFormula := C.w B_impl_TranslateFormula.eq_1
def R_impl_TranslateFormula : FIR := ⟨B_impl_TranslateFormula, 18, [(2, some (some 3)), (3, none)]⟩
theorem IR_impl_TranslateFormula : cfun Try.prog H_impl_TranslateFormula Try.f7 = some R_impl_TranslateFormula := by kernel_rfl
theorem EN_impl_TranslateFormula : ENT Try.prog B_impl_TranslateFormula [(2, some (some 3)), (3, none)] 1 18 fn_impl_TranslateFormula := fun hargs hw => enter Try.func7 rfl IR_impl_TranslateFormula hargs hw
def H_impl_TranslateFormula_1 : Hint := ⟨[(0, false), (1, false), (2, true), (3, false)], []⟩
def K26_1 : Pl := .n 10 (.px (some 19) (.pick (.v 14) (.v 18) (.c (.bool false)))) <|
 .x 20 (.pick (.v 10) (.c (.bool true)) (.v 19)) <|
 .m 3 20 .done
@[simp] def W26_1 := Pl.w K26_1.eq_1
def K26_2 : C := .seq (.pl <| .e 4 17 <|
 .l 4 1 <|
 .x 5 (.nilc (.v 4)) <|
 .x 6 (.fa 1 (.v 5)) <|
 .l 7 6 <|
 .x 8 (.lenV (.v 7)) <|
 .x 9 (.bin .eql (.v 8) (.c (.int .i64 0))) <|
 .m 10 9 <|
 .n 10 (.als 11 none 2) <|
 .n 10 (.pget (some 12) (some 11) 2 1 none) <|
 .n 10 (.px (some 13) (.bin .eql (.v 12) (.c (.int .i64 0)))) <|
 .n 10 (.px (some 14) (.mv (.v 13))) <|
 .y 14 (.ld (some 15) (.v 1) none) <|
 .y 14 (.als 16 none 2) <|
 .y 14 (.pget (some 17) (some 16) 2 0 none) <|
 .st (.act (some (.v 14, true)) (.ex (some 18) (.call fn_impl_translator_fulfils [.v 15, .v 17, .c (.int .i64 0)]))) K26_1) (.ret)
@[simp] def W26_2 := C.w K26_2.eq_1
def B_impl_TranslateFormula_1 : C := .seq (.pl <| .e 4 0 <|
 .o (.pnew 2 (.v 0) []) <|
 .x 3 (.mv (.c (.bool false))) .done) K26_2
@[simp] def WB_impl_TranslateFormula_1 := C.w B_impl_TranslateFormula_1.eq_1
def R_impl_TranslateFormula_1 : FIR := ⟨B_impl_TranslateFormula_1, 4, [(3, none)]⟩
theorem IR_impl_TranslateFormula_1 : cfun Try.prog H_impl_TranslateFormula_1 Try.f26 = some R_impl_TranslateFormula_1 := by kernel_rfl
theorem EN_impl_TranslateFormula_1 : ENT Try.prog B_impl_TranslateFormula_1 [(3, none)] 2 4 fn_impl_TranslateFormula_1 := fun hargs hw => enter Try.func26 rfl IR_impl_TranslateFormula_1 hargs hw
def H_impl_basics : Hint := ⟨[(0, false), (1, true), (2, false), (3, false), (5, true), (7, false), (8, false), (9, false)], [[0, 1, 2, 4]]⟩
def K50_1 : Pl := .m 2 9 .done
@[simp] def W50_1 := Pl.w K50_1.eq_1
def K50_2 : C := .seq (.pl <| .e 8 2 <|
 .m 8 3 <|
 .c 9 (.call fn_slices_Clip_S_impl_Formula_impl_Formula [.v 8]) K50_1) (.ret)
@[simp] def W50_2 := C.w K50_2.eq_1
def K50_3 : C := .pl <| .e 8 1 <|
 .x 8 (.bin .add (.v 7) (.c (.int .i64 1))) <|
 .m 7 8 .done
@[simp] def W50_3 := C.w K50_3.eq_1
def K50_4 : Pl := .m 3 11 .done
@[simp] def W50_4 := Pl.w K50_4.eq_1
def K50_5 : C := .pl <| .e 8 4 <|
 .m 8 3 <|
 .o (.pget (some 9) none 4 0 (some 3)) <|
 .o (.psl 10 [.int .i64 0, .int .i64 0, .slice none 0 0] [(0, 3, .v 9)]) <|
 .c 11 (.app 40 3 [.int .i64 0, .int .i64 0, .slice none 0 0] (.o (.v 8)) (.p 1 10)) K50_4
@[simp] def W50_5 := C.w K50_5.eq_1
def K50_6 : C := .cond 8 (.v 25) K50_5 (.skip)
@[simp] def W50_6 := C.w K50_6.eq_1
def K50_7 : C := .seq (.pl <| .e 8 18 <|
 .a 8 4 <|
 .g 9 8 4 0 <|
 .x 10 (.bin .eql (.v 9) (.c (.int .i64 2))) <|
 .m 11 10 <|
 .n 11 (.als 12 none 4) <|
 .n 11 (.pget (some 13) (some 12) 4 0 none) <|
 .n 11 (.px (some 14) (.bin .eql (.v 13) (.c (.int .i64 6)))) <|
 .x 15 (.pick (.v 11) (.c (.bool true)) (.v 14)) <|
 .m 16 15 <|
 .n 16 (.als 17 none 4) <|
 .n 16 (.pget (some 18) (some 17) 4 0 none) <|
 .n 16 (.px (some 19) (.bin .eql (.v 18) (.c (.int .i64 7)))) <|
 .x 20 (.pick (.v 16) (.c (.bool true)) (.v 19)) <|
 .m 21 20 <|
 .n 21 (.als 22 none 4) <|
 .n 21 (.pget (some 23) (some 22) 4 0 none) <|
 .n 21 (.px (some 24) (.bin .eql (.v 23) (.c (.int .i64 8)))) <|
 .x 25 (.pick (.v 21) (.c (.bool true)) (.v 24)) .done) K50_6
@[simp] def W50_7 := C.w K50_7.eq_1
def K50_8 : C := .seq (.block 1 (.seq (.pl <| .e 8 2 <|
 .x 8 (.ia 3 (.v 5) (.v 7)) <|
 .o (.ld (some 9) (.v 8) (some 3)) <|
 .o (.pnew 4 (.c (.agg #[.int .i64 0, .int .i64 0, .slice none 0 0])) []) <|
 .o (.pset none 4 0 3 (.v 9)) .done) K50_7)) K50_3
@[simp] def W50_8 := C.w K50_8.eq_1
def K50_9 : C := .seq (.cond 8 (.v 8) (.skip) (.exit 0)) K50_8
@[simp] def W50_9 := C.w K50_9.eq_1
def K50_10 : C := .seq (.pl <| .e 8 1 <|
 .x 8 (.bin .lss (.v 7) (.v 6)) .done) K50_9
@[simp] def W50_10 := C.w K50_10.eq_1
def K50_11 : C := .block 0 (.loop 8 [0, 1, 2, 4] K50_10)
@[simp] def W50_11 := C.w K50_11.eq_1
def K50_12 : Pl := .x 6 (.lenV (.v 5)) <|
 .x 7 (.mv (.c (.int .i64 0))) .done
@[simp] def W50_12 := Pl.w K50_12.eq_1
def K50_13 : C := .seq (.seq (.pl <| .e 8 1 <|
 .o (.pget (some 8) none 1 0 (some 3)) <|
 .c 5 (.call fn_impl_Formula_subformulas [.v 8]) K50_12) K50_11) K50_2
@[simp] def W50_13 := C.w K50_13.eq_1
def K50_14 : C := .seq (.pl <| .e 8 0 <|
 .x 3 (.mv (.c (.slice none 0 0))) .done) K50_13
@[simp] def W50_14 := C.w K50_14.eq_1
def B_impl_basics : C := .seq (.pl <| .e 8 0 <|
 .o (.pnew 1 (.v 0) []) <|
 .x 2 (.mv (.c (.slice none 0 0))) .done) K50_14
@[simp] def WB_impl_basics := C.w B_impl_basics.eq_1
def R_impl_basics : FIR := ⟨B_impl_basics, 8, [(2, none)]⟩
theorem IR_impl_basics : cfun Try.prog H_impl_basics Try.f50 = some R_impl_basics := by kernel_rfl
theorem EN_impl_basics : ENT Try.prog B_impl_basics [(2, none)] 1 8 fn_impl_basics := fun hargs hw => enter Try.func50 rfl IR_impl_basics hargs hw
def H_impl_clone_bool : Hint := ⟨[(0, false), (2, false)], []⟩
def K79_1 : Pl := .m 1 4 .done
@[simp] def W79_1 := Pl.w K79_1.eq_1
def K79_2 : Pl := .c 4 (.call fn_slices_Clip_S_bool_bool [.v 3]) K79_1
@[simp] def W79_2 := Pl.w K79_2.eq_1
def K79_3 : C := .seq (.pl <| .e 2 3 <|
 .m 2 0 <|
 .c 3 (.call fn_slices_Clone_S_bool_bool [.v 2]) K79_2) (.ret)
@[simp] def W79_3 := C.w K79_3.eq_1
def B_impl_clone_bool : C := .seq (.pl <| .e 2 0 <|
 .x 1 (.mv (.c (.slice none 0 0))) .done) K79_3
@[simp] def WB_impl_clone_bool := C.w B_impl_clone_bool.eq_1
def R_impl_clone_bool : FIR := ⟨B_impl_clone_bool, 2, [(1, none)]⟩
theorem IR_impl_clone_bool : cfun Try.prog H_impl_clone_bool Try.f79 = some R_impl_clone_bool := by kernel_rfl
theorem EN_impl_clone_bool : ENT Try.prog B_impl_clone_bool [(1, none)] 1 2 fn_impl_clone_bool := fun hargs hw => enter Try.func79 rfl IR_impl_clone_bool hargs hw
def H_impl_clone_impl_Formula : Hint := ⟨[(0, false), (2, false)], []⟩
def K84_1 : Pl := .m 1 4 .done
@[simp] def W84_1 := Pl.w K84_1.eq_1
def K84_2 : Pl := .c 4 (.call fn_slices_Clip_S_impl_Formula_impl_Formula [.v 3]) K84_1
@[simp] def W84_2 := Pl.w K84_2.eq_1
def K84_3 : C := .seq (.pl <| .e 2 3 <|
 .m 2 0 <|
 .c 3 (.call fn_slices_Clone_S_impl_Formula_impl_Formula [.v 2]) K84_2) (.ret)
@[simp] def W84_3 := C.w K84_3.eq_1
def B_impl_clone_impl_Formula : C := .seq (.pl <| .e 2 0 <|
 .x 1 (.mv (.c (.slice none 0 0))) .done) K84_3
@[simp] def WB_impl_clone_impl_Formula := C.w B_impl_clone_impl_Formula.eq_1
def R_impl_clone_impl_Formula : FIR := ⟨B_impl_clone_impl_Formula, 2, [(1, none)]⟩
theorem IR_impl_clone_impl_Formula : cfun Try.prog H_impl_clone_impl_Formula Try.f84 = some R_impl_clone_impl_Formula := by kernel_rfl
theorem EN_impl_clone_impl_Formula : ENT Try.prog B_impl_clone_impl_Formula [(1, none)] 1 2 fn_impl_clone_impl_Formula := fun hargs hw => enter Try.func84 rfl IR_impl_clone_impl_Formula hargs hw
def H_impl_clone_impl_Transition : Hint := ⟨[(0, false), (2, false)], []⟩
def K80_1 : Pl := .m 1 4 .done
@[simp] def W80_1 := Pl.w K80_1.eq_1
def K80_2 : Pl := .c 4 (.call fn_slices_Clip_S_impl_Transition_impl_Transition [.v 3]) K80_1
@[simp] def W80_2 := Pl.w K80_2.eq_1
def K80_3 : C := .seq (.pl <| .e 2 3 <|
 .m 2 0 <|
 .c 3 (.call fn_slices_Clone_S_impl_Transition_impl_Transition [.v 2]) K80_2) (.ret)
@[simp] def W80_3 := C.w K80_3.eq_1
def B_impl_clone_impl_Transition : C := .seq (.pl <| .e 2 0 <|
 .x 1 (.mv (.c (.slice none 0 0))) .done) K80_3
@[simp] def WB_impl_clone_impl_Transition := C.w B_impl_clone_impl_Transition.eq_1
def R_impl_clone_impl_Transition : FIR := ⟨B_impl_clone_impl_Transition, 2, [(1, none)]⟩
theorem IR_impl_clone_impl_Transition : cfun Try.prog H_impl_clone_impl_Transition Try.f80 = some R_impl_clone_impl_Transition := by kernel_rfl
theorem EN_impl_clone_impl_Transition : ENT Try.prog B_impl_clone_impl_Transition [(1, none)] 1 2 fn_impl_clone_impl_Transition := fun hargs hw => enter Try.func80 rfl IR_impl_clone_impl_Transition hargs hw
def H_impl_clone_int : Hint := ⟨[(0, false), (2, false)], []⟩
def K78_1 : Pl := .m 1 4 .done
@[simp] def W78_1 := Pl.w K78_1.eq_1
def K78_2 : Pl := .c 4 (.call fn_slices_Clip_S_int_int [.v 3]) K78_1
@[simp] def W78_2 := Pl.w K78_2.eq_1
def K78_3 : C := .seq (.pl <| .e 2 3 <|
 .m 2 0 <|
 .c 3 (.call fn_slices_Clone_S_int_int [.v 2]) K78_2) (.ret)
@[simp] def W78_3 := C.w K78_3.eq_1
def B_impl_clone_int : C := .seq (.pl <| .e 2 0 <|
 .x 1 (.mv (.c (.slice none 0 0))) .done) K78_3
@[simp] def WB_impl_clone_int := C.w B_impl_clone_int.eq_1
def R_impl_clone_int : FIR := ⟨B_impl_clone_int, 2, [(1, none)]⟩
theorem IR_impl_clone_int : cfun Try.prog H_impl_clone_int Try.f78 = some R_impl_clone_int := by kernel_rfl
theorem EN_impl_clone_int : ENT Try.prog B_impl_clone_int [(1, none)] 1 2 fn_impl_clone_int := fun hargs hw => enter Try.func78 rfl IR_impl_clone_int hargs hw
def H_impl_explore_impl_phased : Hint := ⟨[(0, false), (1, false), (2, false), (6, true), (7, false), (8, true), (9, false), (10, false), (11, false), (13, true), (14, false), (16, true), (24, false), (25, false), (26, false), (70, false), (71, false), (72, false)], [[0, 4, 6, 9, 10, 11, 15, 16, 17], [0, 4, 6, 9, 11, 12, 13, 14, 15, 16, 17], [0, 4, 6, 9, 11, 12, 13, 14]]⟩
def K28_1 : Pl := .o (.pset none 3 0 3 (.v 19)) <|
 .x 4 (.mv (.c (.bool true))) .done
@[simp] def W28_1 := Pl.w K28_1.eq_1
def K28_2 : C := .seq (.pl <| .e 18 2 <|
 .o (.pget (some 18) none 5 0 (some 3)) <|
 .c 19 (.call fn_impl_Automaton_copyOf [.v 18]) K28_1) (.ret)
@[simp] def W28_2 := C.w K28_2.eq_1
def K28_3 : C := .seq (.pl <| .e 18 1 <|
 .x 18 (.build [.slice none 0 0, .slice none 0 0, .slice none 0 0] []) <|
 .o (.pset none 3 0 3 (.v 18)) <|
 .x 4 (.mv (.c (.bool false))) .done) (.ret)
@[simp] def W28_3 := C.w K28_3.eq_1
def K28_4 : C := .cond 18 (.v 20) K28_3 (.skip)
@[simp] def W28_4 := C.w K28_4.eq_1
def K28_5 : Pl := .x 20 (.un .not (.v 19)) .done
@[simp] def W28_5 := Pl.w K28_5.eq_1
def K28_6 : C := .seq (.seq (.pl <| .e 18 3 <|
 .o (.pget (some 18) none 5 0 (some 3)) <|
 .c 19 (.call fn_impl_AutomatonValid [.v 18]) K28_5) K28_4) K28_2
@[simp] def W28_6 := C.w K28_6.eq_1
def K28_7 : C := .pl <| .e 18 2 <|
 .m 18 10 <|
 .x 19 (.bin .add (.v 18) (.c (.int .i64 1))) <|
 .m 10 19 .done
@[simp] def W28_7 := C.w K28_7.eq_1
def K28_8 : C := .pl <| .e 18 1 <|
 .x 18 (.bin .add (.v 17) (.c (.int .i64 1))) <|
 .m 17 18 .done
@[simp] def W28_8 := C.w K28_8.eq_1
def K28_9 : Pl := .a 32 5 <|
 .o (.pset (some 32) 5 2 1 (.v 31)) .done
@[simp] def W28_9 := Pl.w K28_9.eq_1
def K28_10 : Pl := .x 29 (.build [.int .i64 0, .int .i64 0, .int .i64 0, .int .i64 0] [(0, 1, .v 20), (1, 1, .v 22), (2, 1, .v 24), (3, 1, .v 28)]) <|
 .o (.psl 30 [.int .i64 0, .int .i64 0, .int .i64 0, .int .i64 0] [(0, 4, .v 29)]) <|
 .c 31 (.app 32 4 [.int .i64 0, .int .i64 0, .int .i64 0, .int .i64 0] (.o (.v 19)) (.p 1 30)) K28_9
@[simp] def W28_10 := Pl.w K28_10.eq_1
def K28_11 : C := .pl <| .e 18 15 <|
 .a 18 5 <|
 .g 19 18 5 2 <|
 .m 20 10 <|
 .a 21 11 <|
 .g 22 21 11 0 <|
 .a 23 11 <|
 .g 24 23 11 1 <|
 .m 25 8 <|
 .a 26 11 <|
 .o (.pget (some 27) (some 26) 11 2 (some 2)) <|
 .c 28 (.callv (.v 25) [.v 27]) K28_10
@[simp] def W28_11 := C.w K28_11.eq_1
def K28_12 : C := .seq (.block 5 (.seq (.pl <| .e 18 2 <|
 .x 18 (.ia 4 (.v 15) (.v 17)) <|
 .o (.ld (some 19) (.v 18) (some 4)) <|
 .o (.pnew 11 (.c (.agg #[.int .i64 0, .int .i64 0, .int .i64 0, .int .i64 0])) []) <|
 .o (.pset none 11 0 4 (.v 19)) .done) K28_11)) K28_8
@[simp] def W28_12 := C.w K28_12.eq_1
def K28_13 : C := .seq (.cond 18 (.v 18) (.skip) (.exit 4)) K28_12
@[simp] def W28_13 := C.w K28_13.eq_1
def K28_14 : C := .seq (.pl <| .e 18 1 <|
 .x 18 (.bin .lss (.v 17) (.v 16)) .done) K28_13
@[simp] def W28_14 := C.w K28_14.eq_1
def K28_15 : C := .block 4 (.loop 18 [0, 4, 6, 9, 11, 12, 13, 14] K28_14)
@[simp] def W28_15 := C.w K28_15.eq_1
def K28_16 : Pl := .x 16 (.lenV (.v 15)) <|
 .x 17 (.mv (.c (.int .i64 0))) .done
@[simp] def W28_16 := Pl.w K28_16.eq_1
def K28_17 : C := .seq (.pl <| .e 18 5 <|
 .m 18 2 <|
 .l 19 7 <|
 .m 20 10 <|
 .x 21 (.ia 2 (.v 19) (.v 20)) <|
 .o (.ld (some 22) (.v 21) (some 2)) <|
 .c 15 (.callv (.v 18) [.v 22]) K28_16) K28_15
@[simp] def W28_17 := C.w K28_17.eq_1
def K28_18 : Pl := .a 28 5 <|
 .o (.pset (some 28) 5 1 1 (.v 27)) .done
@[simp] def W28_18 := Pl.w K28_18.eq_1
def K28_19 : Pl := .o (.psl 26 [.bool false] [(0, 1, .v 25)]) <|
 .c 27 (.app 1 1 [.bool false] (.o (.v 19)) (.p 1 26)) K28_18
@[simp] def W28_19 := Pl.w K28_19.eq_1
def K28_20 : C := .seq (.pl <| .e 18 11 <|
 .a 18 5 <|
 .g 19 18 5 1 <|
 .m 20 1 <|
 .l 21 7 <|
 .m 22 10 <|
 .x 23 (.ia 2 (.v 21) (.v 22)) <|
 .o (.ld (some 24) (.v 23) (some 2)) <|
 .c 25 (.callv (.v 20) [.v 24]) K28_19) K28_17
@[simp] def W28_20 := C.w K28_20.eq_1
def K28_21 : C := .seq (.pl <| .e 18 1 <|
 .x 18 (.build [.slice none 0 0, .slice none 0 0, .slice none 0 0] []) <|
 .o (.pset none 3 0 3 (.v 18)) <|
 .x 4 (.mv (.c (.bool false))) .done) (.ret)
@[simp] def W28_21 := C.w K28_21.eq_1
def K28_22 : C := .cond 18 (.v 25) K28_21 (.skip)
@[simp] def W28_22 := C.w K28_22.eq_1
def K28_23 : C := .seq (.block 3 (.seq (.seq (.pl <| .e 18 8 <|
 .m 18 10 <|
 .x 19 (.bin .eql (.v 18) (.c (.int .i64 64))) <|
 .m 20 19 <|
 .n 20 (.als 21 none 5) <|
 .n 20 (.pget (some 22) (some 21) 5 2 none) <|
 .n 20 (.px (some 23) (.lenV (.v 22))) <|
 .n 20 (.px (some 24) (.bin .gtr (.v 23) (.c (.int .i64 2048)))) <|
 .x 25 (.pick (.v 20) (.c (.bool true)) (.v 24)) .done) K28_22) K28_20)) K28_7
@[simp] def W28_23 := C.w K28_23.eq_1
def K28_24 : C := .cond 18 (.v 21) (.skip) (.exit 2)
@[simp] def W28_24 := C.w K28_24.eq_1
def K28_25 : C := .seq (.seq (.pl <| .e 18 4 <|
 .m 18 10 <|
 .l 19 7 <|
 .x 20 (.lenV (.v 19)) <|
 .x 21 (.bin .lss (.v 18) (.v 20)) .done) K28_24) K28_23
@[simp] def W28_25 := C.w K28_25.eq_1
def K28_26 : C := .block 2 (.loop 18 [0, 4, 6, 9, 11, 12, 13, 14, 15, 16, 17] K28_25)
@[simp] def W28_26 := C.w K28_26.eq_1
def K28_27 : C := .seq (.seq (.pl <| .e 18 0 <|
 .x 10 (.mv (.c (.int .i64 0))) .done) K28_26) K28_6
@[simp] def W28_27 := C.w K28_27.eq_1
def K28_28 : C := .pl <| .e 18 1 <|
 .x 18 (.bin .add (.v 14) (.c (.int .i64 1))) <|
 .m 14 18 .done
@[simp] def W28_28 := C.w K28_28.eq_1
def K28_29 : Pl := .a 25 5 <|
 .o (.pset (some 25) 5 0 1 (.v 24)) .done
@[simp] def W28_29 := Pl.w K28_29.eq_1
def K28_30 : Pl := .o (.psl 23 [.int .i64 0] [(0, 1, .v 22)]) <|
 .c 24 (.app 8 1 [.int .i64 0] (.o (.v 19)) (.p 1 23)) K28_29
@[simp] def W28_30 := Pl.w K28_30.eq_1
def K28_31 : C := .pl <| .e 18 8 <|
 .a 18 5 <|
 .g 19 18 5 0 <|
 .m 20 8 <|
 .o (.pget (some 21) none 9 0 (some 2)) <|
 .c 22 (.callv (.v 20) [.v 21]) K28_30
@[simp] def W28_31 := C.w K28_31.eq_1
def K28_32 : C := .seq (.block 1 (.seq (.pl <| .e 18 2 <|
 .x 18 (.ia 2 (.v 12) (.v 14)) <|
 .o (.ld (some 19) (.v 18) (some 2)) <|
 .o (.pnew 9 (.c (.agg #[.int .i64 0, .int .i64 0])) []) <|
 .o (.pset none 9 0 2 (.v 19)) .done) K28_31)) K28_28
@[simp] def W28_32 := C.w K28_32.eq_1
def K28_33 : C := .seq (.cond 18 (.v 18) (.skip) (.exit 0)) K28_32
@[simp] def W28_33 := C.w K28_33.eq_1
def K28_34 : C := .seq (.pl <| .e 18 1 <|
 .x 18 (.bin .lss (.v 14) (.v 13)) .done) K28_33
@[simp] def W28_34 := C.w K28_34.eq_1
def K28_35 : C := .block 0 (.loop 18 [0, 4, 6, 9, 10, 11, 15, 16, 17] K28_34)
@[simp] def W28_35 := C.w K28_35.eq_1
def K28_36 : C := .seq (.seq (.pl <| .e 18 0 <|
 .m 12 0 <|
 .x 13 (.lenV (.v 12)) <|
 .x 14 (.mv (.c (.int .i64 0))) .done) K28_35) K28_27
@[simp] def W28_36 := C.w K28_36.eq_1
def K28_37 : C := .seq (.pl <| .e 18 1 <|
 .x 18 (.mkf (.func fn_impl_explore_impl_phased_1) [] [.v 6, .v 7]) <|
 .m 8 18 .done) K28_36
@[simp] def W28_37 := C.w K28_37.eq_1
def K28_38 : C := .seq (.pl <| .e 18 0 <|
 .c 7 (.alloc (.c (.slice none 0 0))) .done) K28_37
@[simp] def W28_38 := C.w K28_38.eq_1
def K28_39 : Pl := .o (.ex none (.store 1 (.v 6) (.v 18))) .done
@[simp] def W28_39 := Pl.w K28_39.eq_1
def K28_40 : Pl := .c 6 (.alloc (.c (.map none))) K28_39
@[simp] def W28_40 := Pl.w K28_40.eq_1
def K28_41 : C := .seq (.pl <| .e 18 1 <|
 .c 18 (.mkm) K28_40) K28_38
@[simp] def W28_41 := C.w K28_41.eq_1
def K28_42 : C := .seq (.pl <| .e 18 0 <|
 .o (.pnew 5 (.c (.agg #[.slice none 0 0, .slice none 0 0, .slice none 0 0])) []) .done) K28_41
@[simp] def W28_42 := C.w K28_42.eq_1
def K28_43 : Pl := .x 19 (.build [.slice none 0 0, .slice none 0 0, .slice none 0 0] [(1, 1, .v 18)]) <|
 .o (.pset none 3 0 3 (.v 19)) <|
 .x 4 (.mv (.c (.bool true))) .done
@[simp] def W28_43 := Pl.w K28_43.eq_1
def K28_44 : C := .seq (.pl <| .e 18 2 <|
 .c 18 (.mks 1 1 [.bool false] (.c (.int .i64 1)) (.c (.int .i64 1))) K28_43) (.ret)
@[simp] def W28_44 := C.w K28_44.eq_1
def K28_45 : C := .cond 18 (.v 20) K28_44 (.skip)
@[simp] def W28_45 := C.w K28_45.eq_1
def K28_46 : C := .seq (.seq (.pl <| .e 18 3 <|
 .m 18 0 <|
 .x 19 (.lenV (.v 18)) <|
 .x 20 (.bin .eql (.v 19) (.c (.int .i64 0))) .done) K28_45) K28_42
@[simp] def W28_46 := C.w K28_46.eq_1
def B_impl_explore_impl_phased : C := .seq (.pl <| .e 18 0 <|
 .o (.pnew 3 (.c (.agg #[.slice none 0 0, .slice none 0 0, .slice none 0 0])) []) <|
 .x 4 (.mv (.c (.bool false))) .done) K28_46
@[simp] def WB_impl_explore_impl_phased := C.w B_impl_explore_impl_phased.eq_1
def R_impl_explore_impl_phased : FIR := ⟨B_impl_explore_impl_phased, 18, [(3, some (some 3)), (4, none)]⟩
theorem IR_impl_explore_impl_phased : cfun Try.prog H_impl_explore_impl_phased Try.f28 = some R_impl_explore_impl_phased := by kernel_rfl
theorem EN_impl_explore_impl_phased : ENT Try.prog B_impl_explore_impl_phased [(3, some (some 3)), (4, none)] 3 18 fn_impl_explore_impl_phased := fun hargs hw => enter Try.func28 rfl IR_impl_explore_impl_phased hargs hw
def H_impl_explore_impl_phased_1 : Hint := ⟨[(0, false), (1, false), (2, false), (3, true), (4, false), (5, false), (6, false)], []⟩
def K54_1 : C := .seq (.pl <| .e 7 1 <|
 .m 7 5 <|
 .m 4 7 .done) (.ret)
@[simp] def W54_1 := C.w K54_1.eq_1
def K54_2 : Pl := .o (.ex none (.store 1 (.v 2) (.v 10))) .done
@[simp] def W54_2 := Pl.w K54_2.eq_1
def K54_3 : C := .pl <| .e 7 4 <|
 .l 7 2 <|
 .o (.pget (some 8) none 3 0 (some 2)) <|
 .o (.psl 9 [.int .i64 0, .int .i64 0] [(0, 2, .v 8)]) <|
 .c 10 (.app 16 2 [.int .i64 0, .int .i64 0] (.o (.v 7)) (.p 1 9)) K54_2
@[simp] def W54_3 := C.w K54_3.eq_1
def K54_4 : C := .seq (.pl <| .e 7 3 <|
 .l 7 1 <|
 .o (.pget (some 8) none 3 0 (some 2)) <|
 .m 9 5 <|
 .o (.ex none (.mput (.many [.i, .i]) (.v 7) (.v 8) (.v 9))) .done) K54_3
@[simp] def W54_4 := C.w K54_4.eq_1
def K54_5 : C := .seq (.pl <| .e 7 2 <|
 .l 7 2 <|
 .x 8 (.lenV (.v 7)) <|
 .m 5 8 .done) K54_4
@[simp] def W54_5 := C.w K54_5.eq_1
def K54_6 : C := .cond 7 (.v 8) K54_5 (.skip)
@[simp] def W54_6 := C.w K54_6.eq_1
def K54_7 : C := .seq (.seq (.pl <| .e 7 2 <|
 .m 7 6 <|
 .x 8 (.un .not (.v 7)) .done) K54_6) K54_1
@[simp] def W54_7 := C.w K54_7.eq_1
def K54_8 : Pl := .m 10 9 <|
 .x 11 (.extract 0 (.v 10)) <|
 .x 12 (.extract 1 (.v 10)) <|
 .m 5 11 <|
 .m 6 12 .done
@[simp] def W54_8 := Pl.w K54_8.eq_1
def K54_9 : C := .seq (.pl <| .e 7 6 <|
 .l 7 1 <|
 .o (.pget (some 8) none 3 0 (some 2)) <|
 .c 9 (.mget (.many [.i, .i]) (.int .i64 0) true (.v 7) (.v 8)) K54_8) K54_7
@[simp] def W54_9 := C.w K54_9.eq_1
def B_impl_explore_impl_phased_1 : C := .seq (.pl <| .e 7 0 <|
 .o (.pnew 3 (.v 0) []) <|
 .x 4 (.mv (.c (.int .i64 0))) .done) K54_9
@[simp] def WB_impl_explore_impl_phased_1 := C.w B_impl_explore_impl_phased_1.eq_1
def R_impl_explore_impl_phased_1 : FIR := ⟨B_impl_explore_impl_phased_1, 7, [(4, none)]⟩
theorem IR_impl_explore_impl_phased_1 : cfun Try.prog H_impl_explore_impl_phased_1 Try.f54 = some R_impl_explore_impl_phased_1 := by kernel_rfl
theorem EN_impl_explore_impl_phased_1 : ENT Try.prog B_impl_explore_impl_phased_1 [(4, none)] 3 7 fn_impl_explore_impl_phased_1 := fun hargs hw => enter Try.func54 rfl IR_impl_explore_impl_phased_1 hargs hw
def H_impl_formula : Hint := ⟨[(0, false), (1, false), (4, true)], []⟩
def K68_1 : Pl := .x 6 (.build [.int .i64 0, .int .i64 0, .slice none 0 0] [(0, 1, .v 3), (1, 1, .c (.int .i64 0)), (2, 1, .v 5)]) <|
 .o (.pset none 2 0 3 (.v 6)) .done
@[simp] def W68_1 := Pl.w K68_1.eq_1
def K68_2 : C := .seq (.pl <| .e 3 4 <|
 .m 3 0 <|
 .m 4 1 <|
 .c 5 (.call fn_impl_clone_impl_Formula [.v 4]) K68_1) (.ret)
@[simp] def W68_2 := C.w K68_2.eq_1
def B_impl_formula : C := .seq (.pl <| .e 3 0 <|
 .o (.pnew 2 (.c (.agg #[.int .i64 0, .int .i64 0, .slice none 0 0])) []) .done) K68_2
@[simp] def WB_impl_formula := C.w B_impl_formula.eq_1
def R_impl_formula : FIR := ⟨B_impl_formula, 3, [(2, some (some 3))]⟩
theorem IR_impl_formula : cfun Try.prog H_impl_formula Try.f68 = some R_impl_formula := by kernel_rfl
theorem EN_impl_formula : ENT Try.prog B_impl_formula [(2, some (some 3))] 2 3 fn_impl_formula := fun hargs hw => enter Try.func68 rfl IR_impl_formula hargs hw
end Go.Proofs.Ytbanccfdojgocaa

namespace Go.Proofs.Ytbanccfdojgocaa
open Go
def H_spec_l5Dual : Hint := ⟨[(0, false), (2, false), (3, false)], []⟩
def K64_1 : C := .seq (.pl <| .e 3 0 <|
 .x 1 (.mv (.c (.int .i64 7))) .done) (.ret)
@[simp] def W64_1 := C.w K64_1.eq_1
def K64_2 : C := .seq (.pl <| .e 3 0 <|
 .x 1 (.mv (.c (.int .i64 5))) .done) (.ret)
@[simp] def W64_2 := C.w K64_2.eq_1
def K64_3 : C := .seq (.pl <| .e 3 0 <|
 .x 1 (.mv (.c (.int .i64 4))) .done) (.ret)
@[simp] def W64_3 := C.w K64_3.eq_1
def K64_4 : C := .seq (.pl <| .e 3 0 <|
 .x 1 (.mv (.c (.int .i64 8))) .done) (.ret)
@[simp] def W64_4 := C.w K64_4.eq_1
def K64_5 : C := .cond 3 (.v 4) K64_4 (.skip)
@[simp] def W64_5 := C.w K64_5.eq_1
def K64_6 : C := .seq (.pl <| .e 3 2 <|
 .x 3 (.bin .eql (.v 2) (.c (.int .i64 7))) <|
 .m 4 3 .done) K64_5
@[simp] def W64_6 := C.w K64_6.eq_1
def K64_7 : C := .cond 3 (.v 4) K64_3 K64_6
@[simp] def W64_7 := C.w K64_7.eq_1
def K64_8 : C := .seq (.pl <| .e 3 2 <|
 .x 3 (.bin .eql (.v 2) (.c (.int .i64 5))) <|
 .m 4 3 .done) K64_7
@[simp] def W64_8 := C.w K64_8.eq_1
def K64_9 : C := .cond 3 (.v 4) K64_2 K64_8
@[simp] def W64_9 := C.w K64_9.eq_1
def K64_10 : C := .block 0 (.seq (.pl <| .e 3 2 <|
 .x 3 (.bin .eql (.v 2) (.c (.int .i64 4))) <|
 .m 4 3 .done) K64_9)
@[simp] def W64_10 := C.w K64_10.eq_1
def K64_11 : C := .seq (.seq (.pl <| .e 3 0 <|
 .m 2 0 .done) K64_10) K64_1
@[simp] def W64_11 := C.w K64_11.eq_1
def B_spec_l5Dual : C := .seq (.pl <| .e 3 0 <|
 .x 1 (.mv (.c (.int .i64 0))) .done) K64_11
@[simp] def WB_spec_l5Dual := C.w B_spec_l5Dual.eq_1
def R_spec_l5Dual : FIR := ⟨B_spec_l5Dual, 3, [(1, none)]⟩
theorem IR_spec_l5Dual : cfun Try.prog H_spec_l5Dual Try.f64 = some R_spec_l5Dual := by kernel_rfl
theorem EN_spec_l5Dual : ENT Try.prog B_spec_l5Dual [(1, none)] 1 3 fn_spec_l5Dual := fun hargs hw => enter Try.func64 rfl IR_spec_l5Dual hargs hw
def H_spec_l5Find : Hint := ⟨[(0, false), (1, false), (3, true), (4, false), (5, false)], [[1, 3]]⟩
def K46_1 : C := .seq (.pl <| .e 5 0 <|
 .x 3 (.mv (.c (.int .i64 (-1)))) .done) (.ret)
@[simp] def W46_1 := C.w K46_1.eq_1
def K46_2 : C := .pl <| .e 5 2 <|
 .m 5 4 <|
 .x 6 (.bin .add (.v 5) (.c (.int .i64 1))) <|
 .m 4 6 .done
@[simp] def W46_2 := C.w K46_2.eq_1
def K46_3 : C := .seq (.pl <| .e 5 1 <|
 .m 5 4 <|
 .m 3 5 .done) (.ret)
@[simp] def W46_3 := C.w K46_3.eq_1
def K46_4 : C := .cond 5 (.v 10) K46_3 (.skip)
@[simp] def W46_4 := C.w K46_4.eq_1
def K46_5 : C := .seq (.block 1 (.seq (.pl <| .e 5 6 <|
 .m 5 0 <|
 .m 6 4 <|
 .x 7 (.ia 3 (.v 5) (.v 6)) <|
 .o (.ld (some 8) (.v 7) (some 3)) <|
 .o (.pget (some 9) none 2 0 (some 3)) <|
 .c 10 (.call fn_spec_FormulaSame [.v 8, .v 9]) .done) K46_4)) K46_2
@[simp] def W46_5 := C.w K46_5.eq_1
def K46_6 : C := .cond 5 (.v 8) (.skip) (.exit 0)
@[simp] def W46_6 := C.w K46_6.eq_1
def K46_7 : C := .seq (.seq (.pl <| .e 5 4 <|
 .m 5 4 <|
 .m 6 0 <|
 .x 7 (.lenV (.v 6)) <|
 .x 8 (.bin .lss (.v 5) (.v 7)) .done) K46_6) K46_5
@[simp] def W46_7 := C.w K46_7.eq_1
def K46_8 : C := .block 0 (.loop 5 [1, 3] K46_7)
@[simp] def W46_8 := C.w K46_8.eq_1
def K46_9 : C := .seq (.seq (.pl <| .e 5 0 <|
 .x 4 (.mv (.c (.int .i64 0))) .done) K46_8) K46_1
@[simp] def W46_9 := C.w K46_9.eq_1
def B_spec_l5Find : C := .seq (.pl <| .e 5 0 <|
 .o (.pnew 2 (.v 1) []) <|
 .x 3 (.mv (.c (.int .i64 0))) .done) K46_9
@[simp] def WB_spec_l5Find := C.w B_spec_l5Find.eq_1
def R_spec_l5Find : FIR := ⟨B_spec_l5Find, 5, [(3, none)]⟩
theorem IR_spec_l5Find : cfun Try.prog H_spec_l5Find Try.f46 = some R_spec_l5Find := by kernel_rfl
theorem EN_spec_l5Find : ENT Try.prog B_spec_l5Find [(3, none)] 2 5 fn_spec_l5Find := fun hargs hw => enter Try.func46 rfl IR_spec_l5Find hargs hw
def H_spec_l5Not : Hint := ⟨[(0, false), (1, true), (2, true)], []⟩
def K62_1 : Pl := .x 5 (.build [.int .i64 0, .int .i64 0, .slice none 0 0] [(0, 1, .c (.int .i64 3)), (2, 1, .v 4)]) <|
 .o (.pset none 2 0 3 (.v 5)) .done
@[simp] def W62_1 := Pl.w K62_1.eq_1
def K62_2 : C := .seq (.pl <| .e 3 3 <|
 .o (.pget (some 3) none 1 0 (some 3)) <|
 .c 4 (.bls 3 1 [.int .i64 0, .int .i64 0, .slice none 0 0] [(0, 3, .v 3)]) K62_1) (.ret)
@[simp] def W62_2 := C.w K62_2.eq_1
def B_spec_l5Not : C := .seq (.pl <| .e 3 0 <|
 .o (.pnew 1 (.v 0) []) <|
 .o (.pnew 2 (.c (.agg #[.int .i64 0, .int .i64 0, .slice none 0 0])) []) .done) K62_2
@[simp] def WB_spec_l5Not := C.w B_spec_l5Not.eq_1
def R_spec_l5Not : FIR := ⟨B_spec_l5Not, 3, [(2, some (some 3))]⟩
theorem IR_spec_l5Not : cfun Try.prog H_spec_l5Not Try.f62 = some R_spec_l5Not := by kernel_rfl
theorem EN_spec_l5Not : ENT Try.prog B_spec_l5Not [(2, some (some 3))] 1 3 fn_spec_l5Not := fun hargs hw => enter Try.func62 rfl IR_spec_l5Not hargs hw
def H_spec_l5Push : Hint := ⟨[(0, false), (1, false), (2, true), (4, true), (5, true), (6, false), (8, false), (9, false), (43, false)], []⟩
def K44_1 : Pl := .x 23 (.build [.int .i64 0, .int .i64 0, .slice none 0 0] [(0, 1, .v 9), (2, 1, .v 22)]) <|
 .o (.pset none 3 0 3 (.v 23)) .done
@[simp] def W44_1 := Pl.w K44_1.eq_1
def K44_2 : Pl := .c 22 (.bls 3 2 [.int .i64 0, .int .i64 0, .slice none 0 0] [(0, 3, .v 15), (3, 3, .v 21)]) K44_1
@[simp] def W44_2 := Pl.w K44_2.eq_1
def K44_3 : Pl := .st (.re 19 (.v 18) (some 3) none) <|
 .c 21 (.call fn_spec_l5Push [.v 19, .v 20]) K44_2
@[simp] def W44_3 := Pl.w K44_3.eq_1
def K44_4 : C := .seq (.pl <| .e 9 15 <|
 .m 9 5 <|
 .a 10 2 <|
 .g 11 10 2 2 <|
 .x 12 (.ia 3 (.v 11) (.c (.int .i64 0))) <|
 .o (.ld (some 13) (.v 12) (some 3)) <|
 .m 14 1 <|
 .a 16 2 <|
 .g 17 16 2 2 <|
 .x 18 (.ia 3 (.v 17) (.c (.int .i64 1))) <|
 .o (.ld (some 19) (.v 18) (some 3)) <|
 .m 20 1 <|
 .c 15 (.call fn_spec_l5Push [.v 13, .v 14]) K44_3) (.ret)
@[simp] def W44_4 := C.w K44_4.eq_1
def K44_5 : Pl := .m 5 10 .done
@[simp] def W44_5 := Pl.w K44_5.eq_1
def K44_6 : C := .pl <| .e 9 2 <|
 .m 9 5 <|
 .c 10 (.call fn_spec_l5Dual [.v 9]) K44_5
@[simp] def W44_6 := C.w K44_6.eq_1
def K44_7 : C := .cond 9 (.v 9) K44_6 (.skip)
@[simp] def W44_7 := C.w K44_7.eq_1
def K44_8 : C := .seq (.seq (.pl <| .e 9 1 <|
 .m 9 1 .done) K44_7) K44_4
@[simp] def W44_8 := C.w K44_8.eq_1
def K44_9 : C := .seq (.pl <| .e 9 2 <|
 .a 9 2 <|
 .g 10 9 2 0 <|
 .m 5 10 .done) K44_8
@[simp] def W44_9 := C.w K44_9.eq_1
def K44_10 : C := .seq (.pl <| .e 9 5 <|
 .a 9 2 <|
 .g 10 9 2 0 <|
 .a 11 2 <|
 .g 12 11 2 1 <|
 .x 13 (.build [.int .i64 0, .int .i64 0, .slice none 0 0] [(0, 1, .v 10), (1, 1, .v 12)]) <|
 .o (.pset none 3 0 3 (.v 13)) .done) (.ret)
@[simp] def W44_10 := C.w K44_10.eq_1
def K44_11 : Pl := .o (.pset none 3 0 3 (.v 14)) .done
@[simp] def W44_11 := Pl.w K44_11.eq_1
def K44_12 : C := .seq (.pl <| .e 9 6 <|
 .a 9 2 <|
 .g 10 9 2 0 <|
 .a 11 2 <|
 .g 12 11 2 1 <|
 .x 13 (.build [.int .i64 0, .int .i64 0, .slice none 0 0] [(0, 1, .v 10), (1, 1, .v 12)]) <|
 .c 14 (.call fn_spec_l5Not [.v 13]) K44_11) (.ret)
@[simp] def W44_12 := C.w K44_12.eq_1
def K44_13 : C := .cond 9 (.v 9) K44_12 (.skip)
@[simp] def W44_13 := C.w K44_13.eq_1
def K44_14 : C := .seq (.seq (.pl <| .e 9 1 <|
 .m 9 1 .done) K44_13) K44_10
@[simp] def W44_14 := C.w K44_14.eq_1
def K44_15 : Pl := .o (.pset none 3 0 3 (.v 15)) .done
@[simp] def W44_15 := Pl.w K44_15.eq_1
def K44_16 : C := .seq (.pl <| .e 9 7 <|
 .a 9 2 <|
 .g 10 9 2 2 <|
 .x 11 (.ia 3 (.v 10) (.c (.int .i64 0))) <|
 .o (.ld (some 12) (.v 11) (some 3)) <|
 .m 13 1 <|
 .x 14 (.un .not (.v 13)) <|
 .c 15 (.call fn_spec_l5Push [.v 12, .v 14]) K44_15) (.ret)
@[simp] def W44_16 := C.w K44_16.eq_1
def K44_17 : Pl := .x 16 (.build [.int .i64 0, .int .i64 0, .slice none 0 0] [(0, 1, .c (.int .i64 6)), (2, 1, .v 15)]) <|
 .o (.pset none 3 0 3 (.v 16)) .done
@[simp] def W44_17 := Pl.w K44_17.eq_1
def K44_18 : Pl := .c 15 (.bls 3 1 [.int .i64 0, .int .i64 0, .slice none 0 0] [(0, 3, .v 14)]) K44_17
@[simp] def W44_18 := Pl.w K44_18.eq_1
def K44_19 : C := .seq (.pl <| .e 9 8 <|
 .a 9 2 <|
 .g 10 9 2 2 <|
 .x 11 (.ia 3 (.v 10) (.c (.int .i64 0))) <|
 .o (.ld (some 12) (.v 11) (some 3)) <|
 .m 13 1 <|
 .c 14 (.call fn_spec_l5Push [.v 12, .v 13]) K44_18) (.ret)
@[simp] def W44_19 := C.w K44_19.eq_1
def K44_20 : Pl := .x 13 (.build [.int .i64 0, .int .i64 0, .slice none 0 0] [(0, 1, .c (.int .i64 8)), (2, 1, .v 12)]) <|
 .o (.pset none 3 0 3 (.v 13)) .done
@[simp] def W44_20 := Pl.w K44_20.eq_1
def K44_21 : Pl := .c 12 (.bls 3 2 [.int .i64 0, .int .i64 0, .slice none 0 0] [(0, 3, .v 10), (3, 3, .v 11)]) K44_20
@[simp] def W44_21 := Pl.w K44_21.eq_1
def K44_22 : Pl := .c 10 (.call fn_spec_l5Not [.v 9]) K44_21
@[simp] def W44_22 := Pl.w K44_22.eq_1
def K44_23 : C := .seq (.pl <| .e 9 5 <|
 .o (.pget (some 11) none 4 0 (some 3)) <|
 .c 9 (.call fn_spec_l5True []) K44_22) (.ret)
@[simp] def W44_23 := C.w K44_23.eq_1
def K44_24 : Pl := .x 12 (.build [.int .i64 0, .int .i64 0, .slice none 0 0] [(0, 1, .c (.int .i64 7)), (2, 1, .v 11)]) <|
 .o (.pset none 3 0 3 (.v 12)) .done
@[simp] def W44_24 := Pl.w K44_24.eq_1
def K44_25 : Pl := .c 11 (.bls 3 2 [.int .i64 0, .int .i64 0, .slice none 0 0] [(0, 3, .v 9), (3, 3, .v 10)]) K44_24
@[simp] def W44_25 := Pl.w K44_25.eq_1
def K44_26 : C := .seq (.pl <| .e 9 4 <|
 .o (.pget (some 10) none 4 0 (some 3)) <|
 .c 9 (.call fn_spec_l5True []) K44_25) (.ret)
@[simp] def W44_26 := C.w K44_26.eq_1
def K44_27 : C := .cond 9 (.v 13) K44_26 (.skip)
@[simp] def W44_27 := C.w K44_27.eq_1
def K44_28 : C := .seq (.seq (.pl <| .e 9 5 <|
 .a 9 2 <|
 .g 10 9 2 0 <|
 .x 11 (.bin .eql (.v 10) (.c (.int .i64 9))) <|
 .m 12 1 <|
 .x 13 (.eqb true (.v 11) (.v 12)) .done) K44_27) K44_23
@[simp] def W44_28 := C.w K44_28.eq_1
def K44_29 : Pl := .o (.pnew 4 (.c (.agg #[.int .i64 0, .int .i64 0, .slice none 0 0])) []) <|
 .o (.pset none 4 0 3 (.v 14)) .done
@[simp] def W44_29 := Pl.w K44_29.eq_1
def K44_30 : C := .seq (.pl <| .e 9 6 <|
 .a 9 2 <|
 .g 10 9 2 2 <|
 .x 11 (.ia 3 (.v 10) (.c (.int .i64 0))) <|
 .o (.ld (some 12) (.v 11) (some 3)) <|
 .m 13 1 <|
 .c 14 (.call fn_spec_l5Push [.v 12, .v 13]) K44_29) K44_28
@[simp] def W44_30 := C.w K44_30.eq_1
def K44_31 : C := .cond 9 (.v 8) K44_30 (.skip)
@[simp] def W44_31 := C.w K44_31.eq_1
def K44_32 : C := .pl <| .e 9 1 <|
 .x 9 (.bin .eql (.v 6) (.c (.int .i64 10))) <|
 .m 8 9 .done
@[simp] def W44_32 := C.w K44_32.eq_1
def K44_33 : C := .cond 9 (.v 8) (.skip) K44_32
@[simp] def W44_33 := C.w K44_33.eq_1
def K44_34 : C := .seq (.seq (.pl <| .e 9 1 <|
 .x 9 (.bin .eql (.v 6) (.c (.int .i64 9))) <|
 .m 8 9 .done) K44_33) K44_31
@[simp] def W44_34 := C.w K44_34.eq_1
def K44_35 : C := .cond 9 (.v 10) K44_19 K44_34
@[simp] def W44_35 := C.w K44_35.eq_1
def K44_36 : C := .seq (.pl <| .e 9 2 <|
 .x 9 (.bin .eql (.v 6) (.c (.int .i64 6))) <|
 .m 10 9 .done) K44_35
@[simp] def W44_36 := C.w K44_36.eq_1
def K44_37 : C := .cond 9 (.v 10) K44_16 K44_36
@[simp] def W44_37 := C.w K44_37.eq_1
def K44_38 : C := .seq (.pl <| .e 9 2 <|
 .x 9 (.bin .eql (.v 6) (.c (.int .i64 3))) <|
 .m 10 9 .done) K44_37
@[simp] def W44_38 := C.w K44_38.eq_1
def K44_39 : C := .cond 9 (.v 7) K44_14 K44_38
@[simp] def W44_39 := C.w K44_39.eq_1
def K44_40 : C := .pl <| .e 9 1 <|
 .x 9 (.bin .eql (.v 6) (.c (.int .i64 2))) <|
 .m 7 9 .done
@[simp] def W44_40 := C.w K44_40.eq_1
def K44_41 : C := .cond 9 (.v 7) (.skip) K44_40
@[simp] def W44_41 := C.w K44_41.eq_1
def K44_42 : C := .block 0 (.seq (.seq (.pl <| .e 9 1 <|
 .x 9 (.bin .eql (.v 6) (.c (.int .i64 1))) <|
 .m 7 9 .done) K44_41) K44_39)
@[simp] def W44_42 := C.w K44_42.eq_1
def K44_43 : C := .seq (.seq (.pl <| .e 9 1 <|
 .a 9 2 <|
 .g 6 9 2 0 .done) K44_42) K44_9
@[simp] def W44_43 := C.w K44_43.eq_1
def B_spec_l5Push : C := .seq (.pl <| .e 9 0 <|
 .o (.pnew 2 (.v 0) []) <|
 .o (.pnew 3 (.c (.agg #[.int .i64 0, .int .i64 0, .slice none 0 0])) []) .done) K44_43
@[simp] def WB_spec_l5Push := C.w B_spec_l5Push.eq_1
def R_spec_l5Push : FIR := ⟨B_spec_l5Push, 9, [(3, some (some 3))]⟩
theorem IR_spec_l5Push : cfun Try.prog H_spec_l5Push Try.f44 = some R_spec_l5Push := by kernel_rfl
theorem EN_spec_l5Push : ENT Try.prog B_spec_l5Push [(3, some (some 3))] 2 9 fn_spec_l5Push := fun hargs hw => enter Try.func44 rfl IR_spec_l5Push hargs hw
def H_spec_l5Shape : Hint := ⟨[(0, false), (1, false), (2, true), (4, false), (5, false)], [[0, 3]]⟩
def K60_1 : C := .seq (.pl <| .e 5 0 <|
 .x 3 (.mv (.c (.bool true))) .done) (.ret)
@[simp] def W60_1 := C.w K60_1.eq_1
def K60_2 : C := .pl <| .e 5 2 <|
 .m 5 4 <|
 .x 6 (.bin .add (.v 5) (.c (.int .i64 1))) <|
 .m 4 6 .done
@[simp] def W60_2 := C.w K60_2.eq_1
def K60_3 : C := .seq (.pl <| .e 5 0 <|
 .x 3 (.mv (.c (.bool false))) .done) (.ret)
@[simp] def W60_3 := C.w K60_3.eq_1
def K60_4 : C := .cond 5 (.v 13) K60_3 (.skip)
@[simp] def W60_4 := C.w K60_4.eq_1
def K60_5 : Pl := .x 13 (.un .not (.v 12)) .done
@[simp] def W60_5 := Pl.w K60_5.eq_1
def K60_6 : C := .seq (.block 1 (.seq (.pl <| .e 5 9 <|
 .a 5 2 <|
 .g 6 5 2 2 <|
 .m 7 4 <|
 .x 8 (.ia 3 (.v 6) (.v 7)) <|
 .o (.ld (some 9) (.v 8) (some 3)) <|
 .m 10 1 <|
 .x 11 (.bin .sub (.v 10) (.c (.int .i64 1))) <|
 .c 12 (.call fn_spec_l5Shape [.v 9, .v 11]) K60_5) K60_4)) K60_2
@[simp] def W60_6 := C.w K60_6.eq_1
def K60_7 : C := .cond 5 (.v 9) (.skip) (.exit 0)
@[simp] def W60_7 := C.w K60_7.eq_1
def K60_8 : C := .seq (.seq (.pl <| .e 5 5 <|
 .m 5 4 <|
 .a 6 2 <|
 .g 7 6 2 2 <|
 .x 8 (.lenV (.v 7)) <|
 .x 9 (.bin .lss (.v 5) (.v 8)) .done) K60_7) K60_6
@[simp] def W60_8 := C.w K60_8.eq_1
def K60_9 : C := .block 0 (.loop 5 [0, 3] K60_8)
@[simp] def W60_9 := C.w K60_9.eq_1
def K60_10 : C := .seq (.seq (.pl <| .e 5 0 <|
 .x 4 (.mv (.c (.int .i64 0))) .done) K60_9) K60_1
@[simp] def W60_10 := C.w K60_10.eq_1
def K60_11 : C := .seq (.pl <| .e 5 0 <|
 .x 3 (.mv (.c (.bool false))) .done) (.ret)
@[simp] def W60_11 := C.w K60_11.eq_1
def K60_12 : C := .cond 5 (.v 22) K60_11 (.skip)
@[simp] def W60_12 := C.w K60_12.eq_1
def K60_13 : C := .seq (.seq (.pl <| .e 5 18 <|
 .a 5 2 <|
 .g 6 5 2 1 <|
 .x 7 (.bin .lss (.v 6) (.c (.int .i64 0))) <|
 .m 8 7 <|
 .n 8 (.als 9 none 2) <|
 .n 8 (.pget (some 10) (some 9) 2 1 none) <|
 .n 8 (.px (some 11) (.bin .geq (.v 10) (.c (.int .i64 3)))) <|
 .x 12 (.pick (.v 8) (.c (.bool true)) (.v 11)) <|
 .m 13 12 <|
 .n 13 (.als 14 none 2) <|
 .n 13 (.pget (some 15) (some 14) 2 0 none) <|
 .n 13 (.px (some 16) (.bin .neq (.v 15) (.c (.int .i64 2)))) <|
 .n 13 (.px (some 17) (.mv (.v 16))) <|
 .y 17 (.als 18 none 2) <|
 .y 17 (.pget (some 19) (some 18) 2 1 none) <|
 .y 17 (.px (some 20) (.bin .neq (.v 19) (.c (.int .i64 0)))) <|
 .n 13 (.px (some 21) (.pick (.v 17) (.v 20) (.c (.bool false)))) <|
 .x 22 (.pick (.v 13) (.c (.bool true)) (.v 21)) .done) K60_12) K60_10
@[simp] def W60_13 := C.w K60_13.eq_1
def K60_14 : C := .seq (.pl <| .e 5 0 <|
 .x 3 (.mv (.c (.bool false))) .done) (.ret)
@[simp] def W60_14 := C.w K60_14.eq_1
def K60_15 : C := .cond 5 (.v 15) K60_14 (.skip)
@[simp] def W60_15 := C.w K60_15.eq_1
def K60_16 : Pl := .n 7 (.px (some 14) (.bin .neq (.v 10) (.v 13))) <|
 .x 15 (.pick (.v 7) (.c (.bool true)) (.v 14)) .done
@[simp] def W60_16 := Pl.w K60_16.eq_1
def K60_17 : C := .seq (.seq (.pl <| .e 5 11 <|
 .m 5 1 <|
 .x 6 (.bin .lss (.v 5) (.c (.int .i64 1))) <|
 .m 7 6 <|
 .n 7 (.als 8 none 2) <|
 .n 7 (.pget (some 9) (some 8) 2 2 none) <|
 .n 7 (.px (some 10) (.lenV (.v 9))) <|
 .n 7 (.als 11 none 2) <|
 .n 7 (.pget (some 12) (some 11) 2 0 none) <|
 .st (.act (some (.v 7, false)) (.ex (some 13) (.call fn_spec_l5Arity [.v 12]))) K60_16) K60_15) K60_13
@[simp] def W60_17 := C.w K60_17.eq_1
def B_spec_l5Shape : C := .seq (.pl <| .e 5 0 <|
 .o (.pnew 2 (.v 0) []) <|
 .x 3 (.mv (.c (.bool false))) .done) K60_17
@[simp] def WB_spec_l5Shape := C.w B_spec_l5Shape.eq_1
def R_spec_l5Shape : FIR := ⟨B_spec_l5Shape, 5, [(3, none)]⟩
theorem IR_spec_l5Shape : cfun Try.prog H_spec_l5Shape Try.f60 = some R_spec_l5Shape := by kernel_rfl
theorem EN_spec_l5Shape : ENT Try.prog B_spec_l5Shape [(3, none)] 2 5 fn_spec_l5Shape := fun hargs hw => enter Try.func60 rfl IR_spec_l5Shape hargs hw
def H_spec_l5Subs : Hint := ⟨[(0, false), (1, false), (3, true), (4, false), (5, false)], [[1, 3]]⟩
def K41_1 : C := .seq (.pl <| .e 5 1 <|
 .m 5 0 <|
 .m 3 5 .done) (.ret)
@[simp] def W41_1 := C.w K41_1.eq_1
def K41_2 : Pl := .m 0 9 .done
@[simp] def W41_2 := Pl.w K41_2.eq_1
def K41_3 : Pl := .o (.psl 8 [.int .i64 0, .int .i64 0, .slice none 0 0] [(0, 3, .v 7)]) <|
 .c 9 (.app 40 3 [.int .i64 0, .int .i64 0, .slice none 0 0] (.o (.v 5)) (.p 1 8)) K41_2
@[simp] def W41_3 := Pl.w K41_3.eq_1
def K41_4 : C := .pl <| .e 5 5 <|
 .m 5 0 <|
 .o (.pget (some 6) none 2 0 (some 3)) <|
 .c 7 (.call fn_spec_l5Copy [.v 6]) K41_3
@[simp] def W41_4 := C.w K41_4.eq_1
def K41_5 : C := .cond 5 (.v 8) K41_4 (.skip)
@[simp] def W41_5 := C.w K41_5.eq_1
def K41_6 : Pl := .x 8 (.bin .lss (.v 7) (.c (.int .i64 0))) .done
@[simp] def W41_6 := Pl.w K41_6.eq_1
def K41_7 : C := .seq (.seq (.pl <| .e 5 4 <|
 .m 5 0 <|
 .o (.pget (some 6) none 2 0 (some 3)) <|
 .c 7 (.call fn_spec_l5Find [.v 5, .v 6]) K41_6) K41_5) K41_1
@[simp] def W41_7 := C.w K41_7.eq_1
def K41_8 : C := .pl <| .e 5 2 <|
 .m 5 4 <|
 .x 6 (.bin .add (.v 5) (.c (.int .i64 1))) <|
 .m 4 6 .done
@[simp] def W41_8 := C.w K41_8.eq_1
def K41_9 : Pl := .m 0 11 .done
@[simp] def W41_9 := Pl.w K41_9.eq_1
def K41_10 : C := .seq (.block 1 (.pl <| .e 5 7 <|
 .m 5 0 <|
 .a 6 2 <|
 .g 7 6 2 2 <|
 .m 8 4 <|
 .x 9 (.ia 3 (.v 7) (.v 8)) <|
 .o (.ld (some 10) (.v 9) (some 3)) <|
 .c 11 (.call fn_spec_l5Subs [.v 5, .v 10]) K41_9)) K41_8
@[simp] def W41_10 := C.w K41_10.eq_1
def K41_11 : C := .cond 5 (.v 9) (.skip) (.exit 0)
@[simp] def W41_11 := C.w K41_11.eq_1
def K41_12 : C := .seq (.seq (.pl <| .e 5 5 <|
 .m 5 4 <|
 .a 6 2 <|
 .g 7 6 2 2 <|
 .x 8 (.lenV (.v 7)) <|
 .x 9 (.bin .lss (.v 5) (.v 8)) .done) K41_11) K41_10
@[simp] def W41_12 := C.w K41_12.eq_1
def K41_13 : C := .block 0 (.loop 5 [1, 3] K41_12)
@[simp] def W41_13 := C.w K41_13.eq_1
def K41_14 : C := .seq (.seq (.pl <| .e 5 0 <|
 .x 4 (.mv (.c (.int .i64 0))) .done) K41_13) K41_7
@[simp] def W41_14 := C.w K41_14.eq_1
def B_spec_l5Subs : C := .seq (.pl <| .e 5 0 <|
 .o (.pnew 2 (.v 1) []) <|
 .x 3 (.mv (.c (.slice none 0 0))) .done) K41_14
@[simp] def WB_spec_l5Subs := C.w B_spec_l5Subs.eq_1
def R_spec_l5Subs : FIR := ⟨B_spec_l5Subs, 5, [(3, none)]⟩
theorem IR_spec_l5Subs : cfun Try.prog H_spec_l5Subs Try.f41 = some R_spec_l5Subs := by kernel_rfl
theorem EN_spec_l5Subs : ENT Try.prog B_spec_l5Subs [(3, none)] 2 5 fn_spec_l5Subs := fun hargs hw => enter Try.func41 rfl IR_spec_l5Subs hargs hw
def H_spec_l5True : Hint := ⟨[(0, true)], []⟩
def K63_1 : C := .seq (.pl <| .e 1 1 <|
 .x 1 (.build [.int .i64 0, .int .i64 0, .slice none 0 0] [(0, 1, .c (.int .i64 1))]) <|
 .o (.pset none 0 0 3 (.v 1)) .done) (.ret)
@[simp] def W63_1 := C.w K63_1.eq_1
def B_spec_l5True : C := .seq (.pl <| .e 1 0 <|
 .o (.pnew 0 (.c (.agg #[.int .i64 0, .int .i64 0, .slice none 0 0])) []) .done) K63_1
@[simp] def WB_spec_l5True := C.w B_spec_l5True.eq_1
def R_spec_l5True : FIR := ⟨B_spec_l5True, 1, [(0, some (some 3))]⟩
theorem IR_spec_l5True : cfun Try.prog H_spec_l5True Try.f63 = some R_spec_l5True := by kernel_rfl
theorem EN_spec_l5True : ENT Try.prog B_spec_l5True [(0, some (some 3))] 0 1 fn_spec_l5True := fun hargs hw => enter Try.func63 rfl IR_spec_l5True hargs hw
def H_spec_l6Has : Hint := ⟨[(0, false), (1, false), (4, false)], []⟩
def K45_1 : C := .seq (.pl <| .e 3 6 <|
 .m 3 0 <|
 .m 4 1 <|
 .x 5 (.conv .u64 (.v 4)) <|
 .x 6 (.bin .shr (.v 3) (.v 5)) <|
 .x 7 (.bin .and (.v 6) (.c (.int .i64 1))) <|
 .x 8 (.bin .eql (.v 7) (.c (.int .i64 1))) <|
 .m 2 8 .done) (.ret)
@[simp] def W45_1 := C.w K45_1.eq_1
def B_spec_l6Has : C := .seq (.pl <| .e 3 0 <|
 .x 2 (.mv (.c (.bool false))) .done) K45_1
@[simp] def WB_spec_l6Has := C.w B_spec_l6Has.eq_1
def R_spec_l6Has : FIR := ⟨B_spec_l6Has, 3, [(2, none)]⟩
theorem IR_spec_l6Has : cfun Try.prog H_spec_l6Has Try.f45 = some R_spec_l6Has := by kernel_rfl
theorem EN_spec_l6Has : ENT Try.prog B_spec_l6Has [(2, none)] 2 3 fn_spec_l6Has := fun hargs hw => enter Try.func45 rfl IR_spec_l6Has hargs hw
def H_spec_l7Basic : Hint := ⟨[(0, false), (1, true), (2, false)], []⟩
def K42_1 : C := .seq (.pl <| .e 3 18 <|
 .a 3 1 <|
 .g 4 3 1 0 <|
 .x 5 (.bin .eql (.v 4) (.c (.int .i64 2))) <|
 .m 6 5 <|
 .n 6 (.als 7 none 1) <|
 .n 6 (.pget (some 8) (some 7) 1 0 none) <|
 .n 6 (.px (some 9) (.bin .eql (.v 8) (.c (.int .i64 6)))) <|
 .x 10 (.pick (.v 6) (.c (.bool true)) (.v 9)) <|
 .m 11 10 <|
 .n 11 (.als 12 none 1) <|
 .n 11 (.pget (some 13) (some 12) 1 0 none) <|
 .n 11 (.px (some 14) (.bin .eql (.v 13) (.c (.int .i64 7)))) <|
 .x 15 (.pick (.v 11) (.c (.bool true)) (.v 14)) <|
 .m 16 15 <|
 .n 16 (.als 17 none 1) <|
 .n 16 (.pget (some 18) (some 17) 1 0 none) <|
 .n 16 (.px (some 19) (.bin .eql (.v 18) (.c (.int .i64 8)))) <|
 .x 20 (.pick (.v 16) (.c (.bool true)) (.v 19)) <|
 .m 2 20 .done) (.ret)
@[simp] def W42_1 := C.w K42_1.eq_1
def B_spec_l7Basic : C := .seq (.pl <| .e 3 0 <|
 .o (.pnew 1 (.v 0) []) <|
 .x 2 (.mv (.c (.bool false))) .done) K42_1
@[simp] def WB_spec_l7Basic := C.w B_spec_l7Basic.eq_1
def R_spec_l7Basic : FIR := ⟨B_spec_l7Basic, 3, [(2, none)]⟩
theorem IR_spec_l7Basic : cfun Try.prog H_spec_l7Basic Try.f42 = some R_spec_l7Basic := by kernel_rfl
theorem EN_spec_l7Basic : ENT Try.prog B_spec_l7Basic [(2, none)] 1 3 fn_spec_l7Basic := fun hargs hw => enter Try.func42 rfl IR_spec_l7Basic hargs hw
def H_spec_l7Follows : Hint := ⟨[(0, false), (1, false), (2, false), (6, false), (7, false), (8, true), (9, false), (10, false), (26, false)], [[3, 5, 6, 7, 8]]⟩
def K20_1 : C := .seq (.pl <| .e 9 0 <|
 .x 3 (.mv (.c (.bool true))) .done) (.ret)
@[simp] def W20_1 := C.w K20_1.eq_1
def K20_2 : C := .pl <| .e 9 2 <|
 .m 9 4 <|
 .x 10 (.bin .add (.v 9) (.c (.int .i64 1))) <|
 .m 4 10 .done
@[simp] def W20_2 := C.w K20_2.eq_1
def K20_3 : C := .seq (.pl <| .e 9 0 <|
 .x 3 (.mv (.c (.bool false))) .done) (.ret)
@[simp] def W20_3 := C.w K20_3.eq_1
def K20_4 : C := .cond 9 (.v 11) K20_3 (.skip)
@[simp] def W20_4 := C.w K20_4.eq_1
def K20_5 : C := .seq (.pl <| .e 9 3 <|
 .m 9 7 <|
 .m 10 6 <|
 .x 11 (.eqb true (.v 9) (.v 10)) .done) K20_4
@[simp] def W20_5 := C.w K20_5.eq_1
def K20_6 : Pl := .m 7 15 .done
@[simp] def W20_6 := Pl.w K20_6.eq_1
def K20_7 : C := .pl <| .e 9 7 <|
 .m 9 0 <|
 .m 10 2 <|
 .a 11 5 <|
 .g 12 11 5 2 <|
 .x 13 (.ia 3 (.v 12) (.c (.int .i64 0))) <|
 .o (.ld (some 14) (.v 13) (some 3)) <|
 .c 15 (.call fn_spec_l7Value [.v 9, .v 10, .v 14]) K20_6
@[simp] def W20_7 := C.w K20_7.eq_1
def K20_8 : Pl := .n 16 (.px (some 28) (.pick (.v 24) (.v 27) (.c (.bool false)))) <|
 .x 29 (.pick (.v 16) (.c (.bool true)) (.v 28)) <|
 .m 7 29 .done
@[simp] def W20_8 := Pl.w K20_8.eq_1
def K20_9 : Pl := .n 16 (.px (some 24) (.mv (.v 23))) <|
 .y 24 (.px (some 25) (.mv (.v 2))) <|
 .y 24 (.px (some 26) (.mv (.v 4))) <|
 .st (.act (some (.v 24, true)) (.ex (some 27) (.call fn_spec_l6Has [.v 25, .v 26]))) K20_8
@[simp] def W20_9 := Pl.w K20_9.eq_1
def K20_10 : Pl := .m 16 15 <|
 .n 16 (.px (some 17) (.mv (.v 0))) <|
 .n 16 (.px (some 18) (.mv (.v 1))) <|
 .n 16 (.als 19 none 5) <|
 .n 16 (.pget (some 20) (some 19) 5 2 none) <|
 .n 16 (.px (some 21) (.ia 3 (.v 20) (.c (.int .i64 0)))) <|
 .n 16 (.ld (some 22) (.v 21) (some 3)) <|
 .st (.act (some (.v 16, false)) (.ex (some 23) (.call fn_spec_l7Value [.v 17, .v 18, .v 22]))) K20_9
@[simp] def W20_10 := Pl.w K20_10.eq_1
def K20_11 : C := .pl <| .e 9 21 <|
 .m 9 0 <|
 .m 10 1 <|
 .a 11 5 <|
 .g 12 11 5 2 <|
 .x 13 (.ia 3 (.v 12) (.c (.int .i64 1))) <|
 .o (.ld (some 14) (.v 13) (some 3)) <|
 .c 15 (.call fn_spec_l7Value [.v 9, .v 10, .v 14]) K20_10
@[simp] def W20_11 := C.w K20_11.eq_1
def K20_12 : Pl := .y 16 (.px (some 28) (.pick (.v 24) (.c (.bool true)) (.v 27))) <|
 .x 29 (.pick (.v 16) (.v 28) (.c (.bool false))) <|
 .m 7 29 .done
@[simp] def W20_12 := Pl.w K20_12.eq_1
def K20_13 : Pl := .y 16 (.px (some 24) (.mv (.v 23))) <|
 .n 24 (.px (some 25) (.mv (.v 2))) <|
 .n 24 (.px (some 26) (.mv (.v 4))) <|
 .st (.act (some (.v 24, false)) (.ex (some 27) (.call fn_spec_l6Has [.v 25, .v 26]))) K20_12
@[simp] def W20_13 := Pl.w K20_13.eq_1
def K20_14 : Pl := .m 16 15 <|
 .y 16 (.px (some 17) (.mv (.v 0))) <|
 .y 16 (.px (some 18) (.mv (.v 1))) <|
 .y 16 (.als 19 none 5) <|
 .y 16 (.pget (some 20) (some 19) 5 2 none) <|
 .y 16 (.px (some 21) (.ia 3 (.v 20) (.c (.int .i64 0)))) <|
 .y 16 (.ld (some 22) (.v 21) (some 3)) <|
 .st (.act (some (.v 16, true)) (.ex (some 23) (.call fn_spec_l7Value [.v 17, .v 18, .v 22]))) K20_13
@[simp] def W20_14 := Pl.w K20_14.eq_1
def K20_15 : C := .pl <| .e 9 21 <|
 .m 9 0 <|
 .m 10 1 <|
 .a 11 5 <|
 .g 12 11 5 2 <|
 .x 13 (.ia 3 (.v 12) (.c (.int .i64 1))) <|
 .o (.ld (some 14) (.v 13) (some 3)) <|
 .c 15 (.call fn_spec_l7Value [.v 9, .v 10, .v 14]) K20_14
@[simp] def W20_15 := C.w K20_15.eq_1
def K20_16 : C := .cond 9 (.v 10) K20_15 (.skip)
@[simp] def W20_16 := C.w K20_16.eq_1
def K20_17 : C := .seq (.pl <| .e 9 2 <|
 .x 9 (.bin .eql (.v 8) (.c (.int .i64 8))) <|
 .m 10 9 .done) K20_16
@[simp] def W20_17 := C.w K20_17.eq_1
def K20_18 : C := .cond 9 (.v 10) K20_11 K20_17
@[simp] def W20_18 := C.w K20_18.eq_1
def K20_19 : C := .seq (.pl <| .e 9 2 <|
 .x 9 (.bin .eql (.v 8) (.c (.int .i64 7))) <|
 .m 10 9 .done) K20_18
@[simp] def W20_19 := C.w K20_19.eq_1
def K20_20 : C := .cond 9 (.v 10) K20_7 K20_19
@[simp] def W20_20 := C.w K20_20.eq_1
def K20_21 : C := .block 2 (.seq (.pl <| .e 9 2 <|
 .x 9 (.bin .eql (.v 8) (.c (.int .i64 6))) <|
 .m 10 9 .done) K20_20)
@[simp] def W20_21 := C.w K20_21.eq_1
def K20_22 : C := .seq (.seq (.pl <| .e 9 1 <|
 .a 9 5 <|
 .g 8 9 5 0 .done) K20_21) K20_5
@[simp] def W20_22 := C.w K20_22.eq_1
def K20_23 : C := .seq (.pl <| .e 9 1 <|
 .m 9 6 <|
 .m 7 9 .done) K20_22
@[simp] def W20_23 := C.w K20_23.eq_1
def K20_24 : Pl := .m 6 11 .done
@[simp] def W20_24 := Pl.w K20_24.eq_1
def K20_25 : C := .seq (.pl <| .e 9 3 <|
 .m 9 1 <|
 .m 10 4 <|
 .c 11 (.call fn_spec_l6Has [.v 9, .v 10]) K20_24) K20_23
@[simp] def W20_25 := C.w K20_25.eq_1
def K20_26 : C := .seq (.block 1 (.seq (.pl <| .e 9 4 <|
 .m 9 0 <|
 .m 10 4 <|
 .x 11 (.ia 3 (.v 9) (.v 10)) <|
 .o (.ld (some 12) (.v 11) (some 3)) <|
 .o (.pnew 5 (.c (.agg #[.int .i64 0, .int .i64 0, .slice none 0 0])) []) <|
 .o (.pset none 5 0 3 (.v 12)) .done) K20_25)) K20_2
@[simp] def W20_26 := C.w K20_26.eq_1
def K20_27 : C := .cond 9 (.v 12) (.skip) (.exit 0)
@[simp] def W20_27 := C.w K20_27.eq_1
def K20_28 : C := .seq (.seq (.pl <| .e 9 4 <|
 .m 9 4 <|
 .m 10 0 <|
 .x 11 (.lenV (.v 10)) <|
 .x 12 (.bin .lss (.v 9) (.v 11)) .done) K20_27) K20_26
@[simp] def W20_28 := C.w K20_28.eq_1
def K20_29 : C := .block 0 (.loop 9 [3, 5, 6, 7, 8] K20_28)
@[simp] def W20_29 := C.w K20_29.eq_1
def K20_30 : C := .seq (.seq (.pl <| .e 9 0 <|
 .x 4 (.mv (.c (.int .i64 0))) .done) K20_29) K20_1
@[simp] def W20_30 := C.w K20_30.eq_1
def B_spec_l7Follows : C := .seq (.pl <| .e 9 0 <|
 .x 3 (.mv (.c (.bool false))) .done) K20_30
@[simp] def WB_spec_l7Follows := C.w B_spec_l7Follows.eq_1
def R_spec_l7Follows : FIR := ⟨B_spec_l7Follows, 9, [(3, none)]⟩
theorem IR_spec_l7Follows : cfun Try.prog H_spec_l7Follows Try.f20 = some R_spec_l7Follows := by kernel_rfl
theorem EN_spec_l7Follows : ENT Try.prog B_spec_l7Follows [(3, none)] 3 9 fn_spec_l7Follows := fun hargs hw => enter Try.func20 rfl IR_spec_l7Follows hargs hw
def H_spec_l7Fulfils : Hint := ⟨[(0, false), (1, false), (2, false), (6, false)], []⟩
def K47_1 : Pl := .x 19 (.pick (.v 8) (.c (.bool true)) (.v 18)) <|
 .m 3 19 .done
@[simp] def W47_1 := Pl.w K47_1.eq_1
def K47_2 : Pl := .x 7 (.un .not (.v 6)) <|
 .m 8 7 <|
 .n 8 (.px (some 9) (.mv (.v 0))) <|
 .n 8 (.px (some 10) (.mv (.v 1))) <|
 .n 8 (.px (some 11) (.mv (.v 0))) <|
 .n 8 (.px (some 12) (.mv (.v 2))) <|
 .n 8 (.px (some 13) (.ia 3 (.v 11) (.v 12))) <|
 .n 8 (.px (some 14) (.fa 2 (.v 13))) <|
 .n 8 (.ld (some 15) (.v 14) none) <|
 .n 8 (.px (some 16) (.ia 3 (.v 15) (.c (.int .i64 1)))) <|
 .n 8 (.ld (some 17) (.v 16) (some 3)) <|
 .st (.act (some (.v 8, false)) (.ex (some 18) (.call fn_spec_l7Value [.v 9, .v 10, .v 17]))) K47_1
@[simp] def W47_2 := Pl.w K47_2.eq_1
def K47_3 : C := .seq (.pl <| .e 4 16 <|
 .m 4 1 <|
 .m 5 2 <|
 .c 6 (.call fn_spec_l6Has [.v 4, .v 5]) K47_2) (.ret)
@[simp] def W47_3 := C.w K47_3.eq_1
def B_spec_l7Fulfils : C := .seq (.pl <| .e 4 0 <|
 .x 3 (.mv (.c (.bool false))) .done) K47_3
@[simp] def WB_spec_l7Fulfils := C.w B_spec_l7Fulfils.eq_1
def R_spec_l7Fulfils : FIR := ⟨B_spec_l7Fulfils, 4, [(3, none)]⟩
theorem IR_spec_l7Fulfils : cfun Try.prog H_spec_l7Fulfils Try.f47 = some R_spec_l7Fulfils := by kernel_rfl
theorem EN_spec_l7Fulfils : ENT Try.prog B_spec_l7Fulfils [(3, none)] 3 4 fn_spec_l7Fulfils := fun hargs hw => enter Try.func47 rfl IR_spec_l7Fulfils hargs hw
def H_spec_l7Letter : Hint := ⟨[(0, false), (1, false), (4, false), (5, false), (6, false), (7, false), (8, false)], [[2, 3]]⟩
def K19_1 : C := .seq (.pl <| .e 7 2 <|
 .m 7 4 <|
 .m 8 5 <|
 .m 2 7 <|
 .m 3 8 .done) (.ret)
@[simp] def W19_1 := C.w K19_1.eq_1
def K19_2 : C := .pl <| .e 7 2 <|
 .m 7 6 <|
 .x 8 (.bin .add (.v 7) (.c (.int .i64 1))) <|
 .m 6 8 .done
@[simp] def W19_2 := C.w K19_2.eq_1
def K19_3 : C := .pl <| .e 7 9 <|
 .m 7 5 <|
 .m 8 0 <|
 .m 9 6 <|
 .x 10 (.ia 3 (.v 8) (.v 9)) <|
 .x 11 (.fa 1 (.v 10)) <|
 .l 12 11 <|
 .x 13 (.conv .u64 (.v 12)) <|
 .x 14 (.bin .shl (.c (.int .i64 1)) (.v 13)) <|
 .x 15 (.bin .or (.v 7) (.v 14)) <|
 .m 5 15 .done
@[simp] def W19_3 := C.w K19_3.eq_1
def K19_4 : C := .cond 7 (.v 9) K19_3 (.skip)
@[simp] def W19_4 := C.w K19_4.eq_1
def K19_5 : C := .seq (.pl <| .e 7 3 <|
 .m 7 1 <|
 .m 8 6 <|
 .c 9 (.call fn_spec_l6Has [.v 7, .v 8]) .done) K19_4
@[simp] def W19_5 := C.w K19_5.eq_1
def K19_6 : C := .seq (.pl <| .e 7 9 <|
 .m 7 4 <|
 .m 8 0 <|
 .m 9 6 <|
 .x 10 (.ia 3 (.v 8) (.v 9)) <|
 .x 11 (.fa 1 (.v 10)) <|
 .l 12 11 <|
 .x 13 (.conv .u64 (.v 12)) <|
 .x 14 (.bin .shl (.c (.int .i64 1)) (.v 13)) <|
 .x 15 (.bin .or (.v 7) (.v 14)) <|
 .m 4 15 .done) K19_5
@[simp] def W19_6 := C.w K19_6.eq_1
def K19_7 : C := .cond 7 (.v 12) K19_6 (.skip)
@[simp] def W19_7 := C.w K19_7.eq_1
def K19_8 : C := .seq (.block 1 (.seq (.pl <| .e 7 6 <|
 .m 7 0 <|
 .m 8 6 <|
 .x 9 (.ia 3 (.v 7) (.v 8)) <|
 .x 10 (.fa 0 (.v 9)) <|
 .l 11 10 <|
 .x 12 (.bin .eql (.v 11) (.c (.int .i64 2))) .done) K19_7)) K19_2
@[simp] def W19_8 := C.w K19_8.eq_1
def K19_9 : C := .cond 7 (.v 10) (.skip) (.exit 0)
@[simp] def W19_9 := C.w K19_9.eq_1
def K19_10 : C := .seq (.seq (.pl <| .e 7 4 <|
 .m 7 6 <|
 .m 8 0 <|
 .x 9 (.lenV (.v 8)) <|
 .x 10 (.bin .lss (.v 7) (.v 9)) .done) K19_9) K19_8
@[simp] def W19_10 := C.w K19_10.eq_1
def K19_11 : C := .block 0 (.loop 7 [2, 3] K19_10)
@[simp] def W19_11 := C.w K19_11.eq_1
def K19_12 : C := .seq (.seq (.pl <| .e 7 0 <|
 .x 6 (.mv (.c (.int .i64 0))) .done) K19_11) K19_1
@[simp] def W19_12 := C.w K19_12.eq_1
def K19_13 : C := .seq (.pl <| .e 7 0 <|
 .x 5 (.mv (.c (.int .i64 0))) .done) K19_12
@[simp] def W19_13 := C.w K19_13.eq_1
def K19_14 : C := .seq (.pl <| .e 7 0 <|
 .x 4 (.mv (.c (.int .i64 0))) .done) K19_13
@[simp] def W19_14 := C.w K19_14.eq_1
def B_spec_l7Letter : C := .seq (.pl <| .e 7 0 <|
 .x 2 (.mv (.c (.int .i64 0))) <|
 .x 3 (.mv (.c (.int .i64 0))) .done) K19_14
@[simp] def WB_spec_l7Letter := C.w B_spec_l7Letter.eq_1
def R_spec_l7Letter : FIR := ⟨B_spec_l7Letter, 7, [(2, none), (3, none)]⟩
theorem IR_spec_l7Letter : cfun Try.prog H_spec_l7Letter Try.f19 = some R_spec_l7Letter := by kernel_rfl
theorem EN_spec_l7Letter : ENT Try.prog B_spec_l7Letter [(2, none), (3, none)] 2 7 fn_spec_l7Letter := fun hargs hw => enter Try.func19 rfl IR_spec_l7Letter hargs hw
def H_spec_l7Pair : Hint := ⟨[(0, false), (1, false), (4, false), (5, false), (6, false)], [[2, 3]]⟩
def K21_1 : Pl := .m 9 0 <|
 .x 10 (.lenV (.v 9)) <|
 .m 2 8 <|
 .m 3 10 .done
@[simp] def W21_1 := Pl.w K21_1.eq_1
def K21_2 : C := .seq (.pl <| .e 5 6 <|
 .m 5 0 <|
 .m 6 1 <|
 .o (.psl 7 [.slice none 0 0] [(0, 1, .v 6)]) <|
 .c 8 (.app 24 1 [.slice none 0 0] (.o (.v 5)) (.p 1 7)) K21_1) (.ret)
@[simp] def W21_2 := C.w K21_2.eq_1
def K21_3 : C := .pl <| .e 5 2 <|
 .m 5 4 <|
 .x 6 (.bin .add (.v 5) (.c (.int .i64 1))) <|
 .m 4 6 .done
@[simp] def W21_3 := C.w K21_3.eq_1
def K21_4 : C := .seq (.pl <| .e 5 2 <|
 .m 5 0 <|
 .m 6 4 <|
 .m 2 5 <|
 .m 3 6 .done) (.ret)
@[simp] def W21_4 := C.w K21_4.eq_1
def K21_5 : C := .cond 5 (.v 10) K21_4 (.skip)
@[simp] def W21_5 := C.w K21_5.eq_1
def K21_6 : C := .seq (.block 1 (.seq (.pl <| .e 5 6 <|
 .m 5 0 <|
 .m 6 4 <|
 .x 7 (.ia 1 (.v 5) (.v 6)) <|
 .l 8 7 <|
 .m 9 1 <|
 .c 10 (.call fn_spec_l2Ints [.v 8, .v 9]) .done) K21_5)) K21_3
@[simp] def W21_6 := C.w K21_6.eq_1
def K21_7 : C := .cond 5 (.v 8) (.skip) (.exit 0)
@[simp] def W21_7 := C.w K21_7.eq_1
def K21_8 : C := .seq (.seq (.pl <| .e 5 4 <|
 .m 5 4 <|
 .m 6 0 <|
 .x 7 (.lenV (.v 6)) <|
 .x 8 (.bin .lss (.v 5) (.v 7)) .done) K21_7) K21_6
@[simp] def W21_8 := C.w K21_8.eq_1
def K21_9 : C := .block 0 (.loop 5 [2, 3] K21_8)
@[simp] def W21_9 := C.w K21_9.eq_1
def K21_10 : C := .seq (.seq (.pl <| .e 5 0 <|
 .x 4 (.mv (.c (.int .i64 0))) .done) K21_9) K21_2
@[simp] def W21_10 := C.w K21_10.eq_1
def B_spec_l7Pair : C := .seq (.pl <| .e 5 0 <|
 .x 2 (.mv (.c (.slice none 0 0))) <|
 .x 3 (.mv (.c (.int .i64 0))) .done) K21_10
@[simp] def WB_spec_l7Pair := C.w B_spec_l7Pair.eq_1
def R_spec_l7Pair : FIR := ⟨B_spec_l7Pair, 5, [(2, none), (3, none)]⟩
theorem IR_spec_l7Pair : cfun Try.prog H_spec_l7Pair Try.f21 = some R_spec_l7Pair := by kernel_rfl
theorem EN_spec_l7Pair : ENT Try.prog B_spec_l7Pair [(2, none), (3, none)] 2 5 fn_spec_l7Pair := fun hargs hw => enter Try.func21 rfl IR_spec_l7Pair hargs hw
def H_spec_l7Phase : Hint := ⟨[(0, false), (1, false), (2, false), (3, false), (8, false), (9, false)], []⟩
def K18_1 : C := .seq (.pl <| .e 6 1 <|
 .m 6 3 <|
 .m 4 6 <|
 .x 5 (.mv (.c (.bool false))) .done) (.ret)
@[simp] def W18_1 := C.w K18_1.eq_1
def K18_2 : C := .seq (.pl <| .e 6 7 <|
 .m 6 3 <|
 .x 7 (.bin .add (.v 6) (.c (.int .i64 1))) <|
 .m 8 1 <|
 .x 9 (.lenV (.v 8)) <|
 .x 10 (.bin .rem (.v 7) (.v 9)) <|
 .m 11 3 <|
 .x 12 (.bin .eql (.v 11) (.c (.int .i64 0))) <|
 .m 4 10 <|
 .m 5 12 .done) (.ret)
@[simp] def W18_2 := C.w K18_2.eq_1
def K18_3 : C := .cond 6 (.v 12) K18_2 (.skip)
@[simp] def W18_3 := C.w K18_3.eq_1
def K18_4 : C := .seq (.seq (.pl <| .e 6 7 <|
 .m 6 0 <|
 .m 7 2 <|
 .m 8 1 <|
 .m 9 3 <|
 .x 10 (.ia 1 (.v 8) (.v 9)) <|
 .l 11 10 <|
 .c 12 (.call fn_spec_l7Fulfils [.v 6, .v 7, .v 11]) .done) K18_3) K18_1
@[simp] def W18_4 := C.w K18_4.eq_1
def K18_5 : C := .seq (.pl <| .e 6 0 <|
 .x 4 (.mv (.c (.int .i64 0))) <|
 .x 5 (.mv (.c (.bool true))) .done) (.ret)
@[simp] def W18_5 := C.w K18_5.eq_1
def K18_6 : C := .cond 6 (.v 8) K18_5 (.skip)
@[simp] def W18_6 := C.w K18_6.eq_1
def K18_7 : C := .seq (.seq (.pl <| .e 6 3 <|
 .m 6 1 <|
 .x 7 (.lenV (.v 6)) <|
 .x 8 (.bin .eql (.v 7) (.c (.int .i64 0))) .done) K18_6) K18_4
@[simp] def W18_7 := C.w K18_7.eq_1
def B_spec_l7Phase : C := .seq (.pl <| .e 6 0 <|
 .x 4 (.mv (.c (.int .i64 0))) <|
 .x 5 (.mv (.c (.bool false))) .done) K18_7
@[simp] def WB_spec_l7Phase := C.w B_spec_l7Phase.eq_1
def R_spec_l7Phase : FIR := ⟨B_spec_l7Phase, 6, [(4, none), (5, none)]⟩
theorem IR_spec_l7Phase : cfun Try.prog H_spec_l7Phase Try.f18 = some R_spec_l7Phase := by kernel_rfl
theorem EN_spec_l7Phase : ENT Try.prog B_spec_l7Phase [(4, none), (5, none)] 4 6 fn_spec_l7Phase := fun hargs hw => enter Try.func18 rfl IR_spec_l7Phase hargs hw
def H_spec_l7Untils : Hint := ⟨[(0, false), (2, false), (3, false), (4, false)], [[1]]⟩
def K16_1 : C := .seq (.pl <| .e 4 1 <|
 .m 4 2 <|
 .m 1 4 .done) (.ret)
@[simp] def W16_1 := C.w K16_1.eq_1
def K16_2 : C := .pl <| .e 4 2 <|
 .m 4 3 <|
 .x 5 (.bin .add (.v 4) (.c (.int .i64 1))) <|
 .m 3 5 .done
@[simp] def W16_2 := C.w K16_2.eq_1
def K16_3 : Pl := .m 2 7 .done
@[simp] def W16_3 := Pl.w K16_3.eq_1
def K16_4 : C := .pl <| .e 4 4 <|
 .m 4 2 <|
 .m 5 3 <|
 .o (.psl 6 [.int .i64 0] [(0, 1, .v 5)]) <|
 .c 7 (.app 8 1 [.int .i64 0] (.o (.v 4)) (.p 1 6)) K16_3
@[simp] def W16_4 := C.w K16_4.eq_1
def K16_5 : C := .cond 4 (.v 9) K16_4 (.skip)
@[simp] def W16_5 := C.w K16_5.eq_1
def K16_6 : C := .seq (.block 1 (.seq (.pl <| .e 4 6 <|
 .m 4 0 <|
 .m 5 3 <|
 .x 6 (.ia 3 (.v 4) (.v 5)) <|
 .x 7 (.fa 0 (.v 6)) <|
 .l 8 7 <|
 .x 9 (.bin .eql (.v 8) (.c (.int .i64 7))) .done) K16_5)) K16_2
@[simp] def W16_6 := C.w K16_6.eq_1
def K16_7 : C := .cond 4 (.v 7) (.skip) (.exit 0)
@[simp] def W16_7 := C.w K16_7.eq_1
def K16_8 : C := .seq (.seq (.pl <| .e 4 4 <|
 .m 4 3 <|
 .m 5 0 <|
 .x 6 (.lenV (.v 5)) <|
 .x 7 (.bin .lss (.v 4) (.v 6)) .done) K16_7) K16_6
@[simp] def W16_8 := C.w K16_8.eq_1
def K16_9 : C := .block 0 (.loop 4 [1] K16_8)
@[simp] def W16_9 := C.w K16_9.eq_1
def K16_10 : C := .seq (.seq (.pl <| .e 4 0 <|
 .x 3 (.mv (.c (.int .i64 0))) .done) K16_9) K16_1
@[simp] def W16_10 := C.w K16_10.eq_1
def K16_11 : Pl := .m 2 4 .done
@[simp] def W16_11 := Pl.w K16_11.eq_1
def K16_12 : C := .seq (.pl <| .e 4 1 <|
 .c 4 (.bls 1 0 [.int .i64 0] []) K16_11) K16_10
@[simp] def W16_12 := C.w K16_12.eq_1
def B_spec_l7Untils : C := .seq (.pl <| .e 4 0 <|
 .x 1 (.mv (.c (.slice none 0 0))) .done) K16_12
@[simp] def WB_spec_l7Untils := C.w B_spec_l7Untils.eq_1
def R_spec_l7Untils : FIR := ⟨B_spec_l7Untils, 4, [(1, none)]⟩
theorem IR_spec_l7Untils : cfun Try.prog H_spec_l7Untils Try.f16 = some R_spec_l7Untils := by kernel_rfl
theorem EN_spec_l7Untils : ENT Try.prog B_spec_l7Untils [(1, none)] 1 4 fn_spec_l7Untils := fun hargs hw => enter Try.func16 rfl IR_spec_l7Untils hargs hw
def H_spec_l7Value : Hint := ⟨[(0, false), (1, false), (2, false), (5, true), (6, false), (8, false)], []⟩
def K17_1 : Pl := .m 4 10 .done
@[simp] def W17_1 := Pl.w K17_1.eq_1
def K17_2 : Pl := .c 10 (.call fn_spec_l6Has [.v 6, .v 9]) K17_1
@[simp] def W17_2 := Pl.w K17_2.eq_1
def K17_3 : C := .seq (.pl <| .e 6 5 <|
 .m 6 1 <|
 .m 7 0 <|
 .o (.pget (some 8) none 3 0 (some 3)) <|
 .c 9 (.call fn_spec_l5Find [.v 7, .v 8]) K17_2) (.ret)
@[simp] def W17_3 := C.w K17_3.eq_1
def K17_4 : C := .seq (.pl <| .e 6 0 <|
 .x 4 (.mv (.c (.bool true))) .done) (.ret)
@[simp] def W17_4 := C.w K17_4.eq_1
def K17_5 : Pl := .x 13 (.un .not (.v 12)) <|
 .m 4 13 .done
@[simp] def W17_5 := Pl.w K17_5.eq_1
def K17_6 : C := .seq (.pl <| .e 6 8 <|
 .m 6 0 <|
 .m 7 1 <|
 .a 8 3 <|
 .g 9 8 3 2 <|
 .x 10 (.ia 3 (.v 9) (.c (.int .i64 0))) <|
 .o (.ld (some 11) (.v 10) (some 3)) <|
 .c 12 (.call fn_spec_l7Value [.v 6, .v 7, .v 11]) K17_5) (.ret)
@[simp] def W17_6 := C.w K17_6.eq_1
def K17_7 : Pl := .x 21 (.pick (.v 13) (.v 20) (.c (.bool false))) <|
 .m 4 21 .done
@[simp] def W17_7 := Pl.w K17_7.eq_1
def K17_8 : Pl := .m 13 12 <|
 .y 13 (.px (some 14) (.mv (.v 0))) <|
 .y 13 (.px (some 15) (.mv (.v 1))) <|
 .y 13 (.als 16 none 3) <|
 .y 13 (.pget (some 17) (some 16) 3 2 none) <|
 .y 13 (.px (some 18) (.ia 3 (.v 17) (.c (.int .i64 1)))) <|
 .y 13 (.ld (some 19) (.v 18) (some 3)) <|
 .st (.act (some (.v 13, true)) (.ex (some 20) (.call fn_spec_l7Value [.v 14, .v 15, .v 19]))) K17_7
@[simp] def W17_8 := Pl.w K17_8.eq_1
def K17_9 : C := .seq (.pl <| .e 6 16 <|
 .m 6 0 <|
 .m 7 1 <|
 .a 8 3 <|
 .g 9 8 3 2 <|
 .x 10 (.ia 3 (.v 9) (.c (.int .i64 0))) <|
 .o (.ld (some 11) (.v 10) (some 3)) <|
 .c 12 (.call fn_spec_l7Value [.v 6, .v 7, .v 11]) K17_8) (.ret)
@[simp] def W17_9 := C.w K17_9.eq_1
def K17_10 : Pl := .x 21 (.pick (.v 13) (.c (.bool true)) (.v 20)) <|
 .m 4 21 .done
@[simp] def W17_10 := Pl.w K17_10.eq_1
def K17_11 : Pl := .m 13 12 <|
 .n 13 (.px (some 14) (.mv (.v 0))) <|
 .n 13 (.px (some 15) (.mv (.v 1))) <|
 .n 13 (.als 16 none 3) <|
 .n 13 (.pget (some 17) (some 16) 3 2 none) <|
 .n 13 (.px (some 18) (.ia 3 (.v 17) (.c (.int .i64 1)))) <|
 .n 13 (.ld (some 19) (.v 18) (some 3)) <|
 .st (.act (some (.v 13, false)) (.ex (some 20) (.call fn_spec_l7Value [.v 14, .v 15, .v 19]))) K17_10
@[simp] def W17_11 := Pl.w K17_11.eq_1
def K17_12 : C := .seq (.pl <| .e 6 16 <|
 .m 6 0 <|
 .m 7 1 <|
 .a 8 3 <|
 .g 9 8 3 2 <|
 .x 10 (.ia 3 (.v 9) (.c (.int .i64 0))) <|
 .o (.ld (some 11) (.v 10) (some 3)) <|
 .c 12 (.call fn_spec_l7Value [.v 6, .v 7, .v 11]) K17_11) (.ret)
@[simp] def W17_12 := C.w K17_12.eq_1
def K17_13 : C := .cond 6 (.v 7) K17_12 (.skip)
@[simp] def W17_13 := C.w K17_13.eq_1
def K17_14 : C := .seq (.pl <| .e 6 2 <|
 .x 6 (.bin .eql (.v 5) (.c (.int .i64 5))) <|
 .m 7 6 .done) K17_13
@[simp] def W17_14 := C.w K17_14.eq_1
def K17_15 : C := .cond 6 (.v 7) K17_9 K17_14
@[simp] def W17_15 := C.w K17_15.eq_1
def K17_16 : C := .seq (.pl <| .e 6 2 <|
 .x 6 (.bin .eql (.v 5) (.c (.int .i64 4))) <|
 .m 7 6 .done) K17_15
@[simp] def W17_16 := C.w K17_16.eq_1
def K17_17 : C := .cond 6 (.v 7) K17_6 K17_16
@[simp] def W17_17 := C.w K17_17.eq_1
def K17_18 : C := .seq (.pl <| .e 6 2 <|
 .x 6 (.bin .eql (.v 5) (.c (.int .i64 3))) <|
 .m 7 6 .done) K17_17
@[simp] def W17_18 := C.w K17_18.eq_1
def K17_19 : C := .cond 6 (.v 7) K17_4 K17_18
@[simp] def W17_19 := C.w K17_19.eq_1
def K17_20 : C := .block 0 (.seq (.pl <| .e 6 2 <|
 .x 6 (.bin .eql (.v 5) (.c (.int .i64 1))) <|
 .m 7 6 .done) K17_19)
@[simp] def W17_20 := C.w K17_20.eq_1
def K17_21 : C := .seq (.seq (.pl <| .e 6 1 <|
 .a 6 3 <|
 .g 5 6 3 0 .done) K17_20) K17_3
@[simp] def W17_21 := C.w K17_21.eq_1
def B_spec_l7Value : C := .seq (.pl <| .e 6 0 <|
 .o (.pnew 3 (.v 2) []) <|
 .x 4 (.mv (.c (.bool false))) .done) K17_21
@[simp] def WB_spec_l7Value := C.w B_spec_l7Value.eq_1
def R_spec_l7Value : FIR := ⟨B_spec_l7Value, 6, [(4, none)]⟩
theorem IR_spec_l7Value : cfun Try.prog H_spec_l7Value Try.f17 = some R_spec_l7Value := by kernel_rfl
theorem EN_spec_l7Value : ENT Try.prog B_spec_l7Value [(4, none)] 3 6 fn_spec_l7Value := fun hargs hw => enter Try.func17 rfl IR_spec_l7Value hargs hw
end Go.Proofs.Ytbanccfdojgocaa

namespace Go.Proofs.Ytbanccfdojgocaa
open Go
theorem HS.blsO1 {α : Type} [Ty α] {P : Program} {k : Env → Heap → Prop} {e : Env} {g h : Heap} {Γ : List HP} {u : Value} {y : α} (H : HS g (ow u y :: Γ) h) {esz : Nat} {zero : List Value} {parts : List (Nat × Nat × O)} {dst : Nat} (hf : fillP e (reps 1 zero) parts = some u.cells.toList)
    (K : ∀ v' h', HS g (ow v' [y] :: Γ) h' → k (eset e dst (some v')) h') : (A.ex (some dst) (.bls esz 1 zero parts)).wp P k e h := by
  obtain ⟨g1, ru, rfl, d2, ⟨cs, rfl, ho⟩, H⟩ := H
  have h1 := Ty.len (Ty.own_rep ho)
  rw [rep_cells (Ty.own_rep ho)] at hf
  refine ⟨_, hf, fun b el hb => Fgt.keep ?_⟩
  rw [set_new hb]
  have n1 : g1 b = none ∧ ru b = none := by simpa [Heap.add] using hb
  rw [add_assoc]
  refine K _ _ ⟨g1, _, rfl, Dj_add.2 ⟨d2, Dj_one.2 n1.1⟩, ?_, H⟩
  rw [(Dj_one.2 n1.2).comm]
  refine Own_list.2 (.inr ⟨b, 0, 1, cs, el, ru, rfl, ⟨Nat.le_refl _, by simp⟩, by simp [h1], rfl, n1.2, ?_⟩)
  exact ⟨ru, Heap.nil, by simp, by simp, by simpa [← h1] using ho, rfl⟩
theorem HS.blsO2 {α : Type} [Ty α] {P : Program} {k : Env → Heap → Prop} {e : Env} {g h : Heap} {Γ : List HP} {u u2 : Value} {y y2 : α} (H : HS g (ow u y :: ow u2 y2 :: Γ) h) {esz : Nat} {zero : List Value} {parts : List (Nat × Nat × O)} {dst : Nat} (hf : fillP e (reps 2 zero) parts = some (u.cells.toList ++ u2.cells.toList))
    (K : ∀ v' h', HS g (ow v' [y, y2] :: Γ) h' → k (eset e dst (some v')) h') : (A.ex (some dst) (.bls esz 2 zero parts)).wp P k e h := by
  obtain ⟨g0, ru, rfl, d2, ⟨cs, rfl, ho⟩, g1, ru2, rfl, d3, ⟨cs2, rfl, ho2⟩, H⟩ := H
  have h1 := Ty.len (Ty.own_rep ho)
  have h2 := Ty.len (Ty.own_rep ho2)
  rw [rep_cells (Ty.own_rep ho), rep_cells (Ty.own_rep ho2)] at hf
  obtain ⟨d4, d5⟩ := add_Dj.1 d2
  refine ⟨_, hf, fun b el hb => Fgt.keep ?_⟩
  rw [set_new hb]
  have n1 : (g1 b = none ∧ ru2 b = none) ∧ ru b = none := by simpa [Heap.add] using hb
  rw [add_assoc, add_assoc]
  refine K _ _ ⟨g1, _, rfl, Dj_add.2 ⟨d3, Dj_add.2 ⟨d4, Dj_one.2 n1.1.1⟩⟩, ?_, H⟩
  rw [← add_assoc, (Dj_one.2 (show (ru2.add ru) b = none by simp [Heap.add, n1])).comm]
  refine Own_list.2 (.inr ⟨b, 0, 2, cs ++ cs2, el, ru2.add ru, rfl, ⟨Nat.le_refl _, by simp⟩, by simp [h1, h2]; omega, rfl, by simp [Heap.add, n1], ?_⟩)
  rw [d5.comm]
  refine ⟨ru, ru2, rfl, d5.symm, by simpa [← h1] using ho, ru2, Heap.nil, by simp, by simp, ?_, rfl⟩
  have e1 : List.drop (Ty.sz α) (cs ++ cs2) = cs2 := by rw [← h1, List.drop_left]
  simp only [List.drop_zero]
  rw [e1, List.take_of_length_le (by omega)]
  exact ho2
end Go.Proofs.Ytbanccfdojgocaa

namespace Go.Proofs.Ytbanccfdojgocaa
open Go
theorem Rep.cut {α : Type} [Ty α] {h : Heap} {v : Value} {l : List α} (R : Rep h v l) {n esz : Nat} {k : IntKind} (hn : n ≤ l.length) : ∃ v', sliceVV esz v none (some (some (.int k n))) none = some v' ∧ Rep h v' (l.take n) := by
  obtain ⟨p, cap, rfl, h1, h2, h3⟩ := Rep_list.1 R
  have hl : (l.take n).length = n := by simp; omega
  have hc : n ≤ cap := by omega
  cases n with
  | zero =>
    cases p with
    | none =>
      refine ⟨.slice none 0 cap, ?_, Rep_list.2 ⟨none, cap, by simp, by simp, trivial, fun i hi => by simp at hi⟩⟩
      simp [sliceVV, bndV]
    | some a =>
      by_cases hz : cap = 0
      · refine ⟨.slice (some a) 0 cap, ?_, Rep_list.2 ⟨some a, cap, by simp, by simp, trivial, fun i hi => by simp at hi⟩⟩
        simp [sliceVV, bndV, hz]
      · refine ⟨.slice (some (a.add 0)) 0 cap, ?_, Rep_list.2 ⟨some (a.add 0), cap, by simp, by simp, trivial, fun i hi => by simp at hi⟩⟩
        simp [sliceVV, bndV, hz]
  | succ n =>
    obtain ⟨b, off, vs, rfl, _⟩ := h3 0 (by omega)
    refine ⟨.slice (some ⟨b, off, none⟩) (n + 1) cap, ?_, Rep_list.2 ⟨_, cap, by rw [hl], by rw [hl]; omega, trivial, fun i hi => ?_⟩⟩
    · simp [sliceVV, bndV, add_none]
      rw [if_pos (by omega)]
    · rw [hl] at hi
      obtain ⟨b', off', vs, e1, e2, e3⟩ := h3 i (by omega)
      exact ⟨b', off', vs, e1, e2, by simpa using e3⟩
@[simp] theorem nilcV_ptr {a : Addr} : nilcV (.pointer (some a)) = some (.pointer (some a)) := rfl
instance instTyU8 : Ty (BitVec 8) where
  agg := false
  sz := 1
  rep := fun _ cs n => cs = [.int .u8 n.toNat]
  own := fun r cs n => r = Heap.nil ∧ cs = [.int .u8 n.toNat]
  one := fun _ => rfl
  len := by rintro h cs x rfl; rfl
  cell := by rintro h cs x rfl v hv; simp at hv; subst hv; rfl
  mono := fun _ hr => hr
  own_rep := fun ho => ho.2
instance instFlatU8 : Flat (BitVec 8) := ⟨fun n => [.int .u8 n.toNat], fun _ => True, by simp [Ty.rep], by simp [Ty.own]⟩
end Go.Proofs.Ytbanccfdojgocaa

namespace Go.Proofs.Ytbanccfdojgocaa
open Go
theorem c_l5Arity {h : Heap} {n : Int} : CallE Try.prog fn_spec_l5Arity [.int .i64 n] h (fun u h' => h' = h ∧ u = .int .i64 (Fm.arity n)) := by
  refine CallE.gen fun k hk => EN_spec_l5Arity rfl ?_
  by_cases c1 : n = 1
  · simp -implicitDefEqProofs (disch:=first|omega|(simp only[LnZ];omega))[wrap64, c1]
    exact RetK.keep (hk _ _ ⟨rfl, by simp [Fm.arity, c1]⟩)
  by_cases c2 : n = 2
  · simp -implicitDefEqProofs (disch:=first|omega|(simp only[LnZ];omega))[wrap64, c1, c2]
    exact RetK.keep (hk _ _ ⟨rfl, by simp [Fm.arity, c2]⟩)
  by_cases c3 : n = 3
  · simp -implicitDefEqProofs (disch:=first|omega|(simp only[LnZ];omega))[wrap64, c1, c2, c3]
    exact RetK.keep (hk _ _ ⟨rfl, by simp [Fm.arity, c3]⟩)
  by_cases c6 : n = 6
  · simp -implicitDefEqProofs (disch:=first|omega|(simp only[LnZ];omega))[wrap64, c1, c2, c3, c6]
    exact RetK.keep (hk _ _ ⟨rfl, by simp [Fm.arity, c6]⟩)
  by_cases c9 : n = 9
  · simp -implicitDefEqProofs (disch:=first|omega|(simp only[LnZ];omega))[wrap64, c1, c2, c3, c6, c9]
    exact RetK.keep (hk _ _ ⟨rfl, by simp [Fm.arity, c9]⟩)
  by_cases c10 : n = 10
  · simp -implicitDefEqProofs (disch:=first|omega|(simp only[LnZ];omega))[wrap64, c1, c2, c3, c6, c9, c10]
    exact RetK.keep (hk _ _ ⟨rfl, by simp [Fm.arity, c10]⟩)
  by_cases c4 : n = 4
  · simp -implicitDefEqProofs (disch:=first|omega|(simp only[LnZ];omega))[wrap64, c1, c2, c3, c6, c9, c10, c4]
    exact RetK.keep (hk _ _ ⟨rfl, by simp [Fm.arity, c4]⟩)
  by_cases c5 : n = 5
  · simp -implicitDefEqProofs (disch:=first|omega|(simp only[LnZ];omega))[wrap64, c1, c2, c3, c6, c9, c10, c4, c5]
    exact RetK.keep (hk _ _ ⟨rfl, by simp [Fm.arity, c5]⟩)
  by_cases c7 : n = 7
  · simp -implicitDefEqProofs (disch:=first|omega|(simp only[LnZ];omega))[wrap64, c1, c2, c3, c6, c9, c10, c4, c5, c7]
    exact RetK.keep (hk _ _ ⟨rfl, by simp [Fm.arity, c7]⟩)
  by_cases c8 : n = 8
  · simp -implicitDefEqProofs (disch:=first|omega|(simp only[LnZ];omega))[wrap64, c1, c2, c3, c6, c9, c10, c4, c5, c7, c8]
    exact RetK.keep (hk _ _ ⟨rfl, by simp [Fm.arity, c8]⟩)
  simp -implicitDefEqProofs (disch:=first|omega|(simp only[LnZ];omega))[wrap64, c1, c2, c3, c4, c5, c6, c7, c8, c9, c10]
  exact RetK.keep (hk _ _ ⟨rfl, by simp [Fm.arity, c1, c2, c3, c4, c5, c6, c7, c8, c9, c10]⟩)
theorem c_l5Shape : ∀ (n : Nat) {x : Exq} {h : Heap} {v : Value} {dv : Int}, dv = n → n ≤ 6 → Rep h v x → CallE Try.prog fn_spec_l5Shape [v, .int .i64 dv] h (fun u h' => h' = h ∧ u = .bool (decide (Fm.Shp n x))) := by
  intro n
  induction n with
  | zero =>
    intro x h v dv hd _ R
    have hd : dv = 0 := hd
    obtain ⟨w, rfl, k1, k2, R1⟩ := Rep_Exq.1 R
    refine CallE.gen fun k hk => EN_spec_l5Shape rfl ?_
    simp -implicitDefEqProofs (disch:=first|omega|(simp only[LnZ];omega))[wrap64, hd]
    exact RetK.keep (hk _ _ ⟨rfl, by rw [decide_eq_false (fun hh : Fm.Shp 0 x => hh)]⟩)
  | succ n ih =>
    intro x h v dv hd hd6 R
    obtain ⟨w, rfl, k1, k2, R1⟩ := Rep_Exq.1 R
    have hL := R1.lt
    obtain ⟨ln, hln⟩ : ∃ ln : Int, ln = x.kids.length := ⟨_, rfl⟩
    have hlen := R1.len
    rw [← hln] at hlen
    refine CallE.gen fun k hk => EN_spec_l5Shape rfl ?_
    have hno : ¬ Fm.Shp (n + 1) x → k (.bool false) h := fun hh => hk _ _ ⟨rfl, by rw [decide_eq_false hh]⟩
    simp -implicitDefEqProofs (disch:=first|omega|(simp only[LnZ];omega))[wrap64, hlen, show ¬ dv < 1 by omega]
    refine c_l5Arity.go ?_
    rintro _ h ⟨rfl, rfl⟩
    by_cases q1 : ln = Fm.arity x.kind
    case neg => simp -implicitDefEqProofs (disch:=first|omega|(simp only[LnZ];omega))[wrap64, q1]; exact RetK.keep (hno fun hh => q1 (by rw [hln]; exact hh.1.ar))
    by_cases q2 : x.val < 0
    · simp -implicitDefEqProofs (disch:=first|omega|(simp only[LnZ];omega))[wrap64, q1, q2]; exact RetK.keep (hno fun hh => by have := hh.1.lo; omega)
    by_cases q3 : 3 ≤ x.val
    · simp -implicitDefEqProofs (disch:=first|omega|(simp only[LnZ];omega))[wrap64, q1, q2, q3]; exact RetK.keep (hno fun hh => by have := hh.1.hi; omega)
    have hz : (x.kind = 2) ∨ (x.kind ≠ 2 ∧ x.val ≠ 0) ∨ (x.kind ≠ 2 ∧ x.val = 0) := by omega
    rcases hz with c1 | ⟨c1, c2⟩ | ⟨c1, c2⟩
    case inr.inl => simp -implicitDefEqProofs (disch:=first|omega|(simp only[LnZ];omega))[wrap64, q1, q2, q3, c1, c2]; exact RetK.keep (hno fun hh => c2 (hh.1.ze c1))
    · simp -implicitDefEqProofs (disch:=first|omega|(simp only[LnZ];omega))[wrap64, q1, q2, q3, c1]
      refine wp_count x.kids.length (fun i e h' => h' = h ∧ (∃ kd vl : Int, kd = x.kind ∧ vl = x.val ∧ e = [none, some (.int .i64 dv), some (.agg #[.int .i64 kd, .int .i64 vl, w]), none, some (.int .i64 i)]) ∧ ∀ y ∈ x.kids.take i, Fm.Shp n y) ⟨rfl, ⟨_, _, rfl, rfl, by simp [c1]⟩, by simp⟩ ?_
      rintro J i _ _ hJ hi ⟨rfl, ⟨kd, vl, hkd, hvl, rfl⟩, hall⟩
      simp -implicitDefEqProofs (disch:=first|omega|(simp only[LnZ];omega))[wrap64, R1.len]
      refine IteW.mk (fun hlt => ?_) (fun hge => ?_)
      · have hlx : i < x.kids.length := by omega
        obtain ⟨u, hu, Ru⟩ := R1.ld hlx
        change hload _ (some (elp 3 w i)) (some 3) = some u at hu
        simp -implicitDefEqProofs (disch:=first|omega|(simp only[LnZ];omega))[wrap64, R1.X (n := 3) rfl, hu]
        refine (ih (dv := dv - 1) (by omega) (by omega) Ru).go ?_
        rintro _ _ ⟨rfl, rfl⟩
        by_cases q4 : Fm.Shp n x.kids[i]
        case neg => simp -implicitDefEqProofs (disch:=first|omega|(simp only[LnZ];omega))[wrap64, q4]; exact RetK.keep (hno fun hh => q4 (hh.kid hlx))
        simp -implicitDefEqProofs (disch:=first|omega|(simp only[LnZ];omega))[wrap64, q4]
        refine hJ _ _ hlx ⟨rfl, ⟨kd, vl, hkd, hvl, by simp⟩, fun y hy => ?_⟩
        rw [List.take_add_one, List.getElem?_eq_getElem hlx] at hy
        rcases List.mem_append.1 hy with hy | hy
        · exact hall y hy
        · simp at hy; subst hy; exact q4
      · simp -implicitDefEqProofs (disch:=first|omega|(simp only[LnZ];omega))[wrap64]
        rw [List.take_of_length_le (by omega)] at hall
        refine RetK.keep (hk _ _ ⟨rfl, ?_⟩)
        rw [decide_eq_true (show Fm.Shp (n + 1) x from ⟨⟨by omega, by omega, by omega, by omega⟩, hall⟩)]
    · simp -implicitDefEqProofs (disch:=first|omega|(simp only[LnZ];omega))[wrap64, q1, q2, q3, c1, c2]
      refine wp_count x.kids.length (fun i e h' => h' = h ∧ (∃ kd vl : Int, kd = x.kind ∧ vl = x.val ∧ e = [none, some (.int .i64 dv), some (.agg #[.int .i64 kd, .int .i64 vl, w]), none, some (.int .i64 i)]) ∧ ∀ y ∈ x.kids.take i, Fm.Shp n y) ⟨rfl, ⟨_, _, rfl, rfl, by simp [c1, c2]⟩, by simp⟩ ?_
      rintro J i _ _ hJ hi ⟨rfl, ⟨kd, vl, hkd, hvl, rfl⟩, hall⟩
      simp -implicitDefEqProofs (disch:=first|omega|(simp only[LnZ];omega))[wrap64, R1.len]
      refine IteW.mk (fun hlt => ?_) (fun hge => ?_)
      · have hlx : i < x.kids.length := by omega
        obtain ⟨u, hu, Ru⟩ := R1.ld hlx
        change hload _ (some (elp 3 w i)) (some 3) = some u at hu
        simp -implicitDefEqProofs (disch:=first|omega|(simp only[LnZ];omega))[wrap64, R1.X (n := 3) rfl, hu]
        refine (ih (dv := dv - 1) (by omega) (by omega) Ru).go ?_
        rintro _ _ ⟨rfl, rfl⟩
        by_cases q4 : Fm.Shp n x.kids[i]
        case neg => simp -implicitDefEqProofs (disch:=first|omega|(simp only[LnZ];omega))[wrap64, q4]; exact RetK.keep (hno fun hh => q4 (hh.kid hlx))
        simp -implicitDefEqProofs (disch:=first|omega|(simp only[LnZ];omega))[wrap64, q4]
        refine hJ _ _ hlx ⟨rfl, ⟨kd, vl, hkd, hvl, by simp⟩, fun y hy => ?_⟩
        rw [List.take_add_one, List.getElem?_eq_getElem hlx] at hy
        rcases List.mem_append.1 hy with hy | hy
        · exact hall y hy
        · simp at hy; subst hy; exact q4
      · simp -implicitDefEqProofs (disch:=first|omega|(simp only[LnZ];omega))[wrap64]
        rw [List.take_of_length_le (by omega)] at hall
        refine RetK.keep (hk _ _ ⟨rfl, ?_⟩)
        rw [decide_eq_true (show Fm.Shp (n + 1) x from ⟨⟨by omega, by omega, by omega, by omega⟩, hall⟩)]
theorem c_l5Count : ∀ (n : Nat) {x : Exq} {h : Heap} {v : Value} {dv : Int}, dv = n → n ≤ 6 → Fm.Shp n x → Rep h v x → CallE Try.prog fn_spec_l5Count [v, .int .i64 dv] h (fun u h' => h' = h ∧ u = .int .i64 x.nod) := by
  intro n
  induction n with
  | zero => intro x h v dv hd _ hs; exact hs.elim
  | succ n ih =>
    intro x h v dv hd hd6 hs R
    obtain ⟨w, rfl, k1, k2, R1⟩ := Rep_Exq.1 R
    have hL := R1.lt
    have hbnd := hs.bnd
    have hpow : 2 ^ (n + 1) ≤ 2 ^ 6 := Nat.pow_le_pow_right (by decide) hd6
    have hnod := x.nod_eq
    refine CallE.gen fun k hk => EN_spec_l5Count rfl ?_
    simp -implicitDefEqProofs (disch:=first|omega|(simp only[LnZ];omega))[wrap64]
    refine wp_count x.kids.length (fun i e h' => h' = h ∧ e = [none, some (.int .i64 dv), some (.agg #[.int .i64 x.kind, .int .i64 x.val, w]), none, some (.int .i64 ((1 + Exq.nods (x.kids.take i) : Nat) : Int)), some (.int .i64 i)]) ⟨rfl, by simp [Exq.nods]⟩ ?_
    rintro J i _ _ hJ hi ⟨rfl, rfl⟩
    by_cases hlt : i < x.kids.length
    · obtain ⟨u, hu, Ru⟩ := R1.ld hlt
      change hload _ (some (elp 3 w i)) (some 3) = some u at hu
      have hn1 := Exq.nods_take hlt
      have hn2 := Exq.nods_le x.kids (i + 1)
      simp -implicitDefEqProofs (disch:=first|omega|(simp only[LnZ];omega))[wrap64, hlt, R1.len, R1.X (n := 3) rfl, hu, show 0 < dv by omega]
      refine (ih (dv := dv - 1) (by omega) (by omega) (hs.kid hlt) Ru).go ?_
      rintro _ _ ⟨rfl, rfl⟩
      simp -implicitDefEqProofs (disch:=first|omega|(simp only[LnZ];omega))[wrap64]
      refine hJ _ _ hlt ⟨rfl, ?_⟩
      simp [hn1]; omega
    · simp -implicitDefEqProofs (disch:=first|omega|(simp only[LnZ];omega))[wrap64, hlt, R1.len]
      rw [List.take_of_length_le (by omega)]
      refine RetK.keep (hk _ _ ⟨rfl, ?_⟩)
      rw [hnod]; push_cast; rfl
theorem c_spec_FormulaValid {h : Heap} {v : Value} {x : Exq} (R : Rep h v x) : CallE Try.prog fn_spec_FormulaValid [v] h (fun u h' => h' = h ∧ u = .bool (decide (Fm.Ok x))) := by
  have F := R.aExq
  refine CallE.gen fun k hk => EN_spec_FormulaValid rfl ?_
  simp -implicitDefEqProofs (disch:=first|omega|(simp only[LnZ];omega))[wrap64, F]
  refine (c_l5Shape 6 (dv := 6) rfl (by omega) R).go ?_
  rintro _ _ ⟨rfl, rfl⟩
  by_cases q1 : Fm.Shp 6 x
  case neg => simp -implicitDefEqProofs (disch:=first|omega|(simp only[LnZ];omega))[wrap64, q1]; exact RetK.keep (hk _ _ ⟨rfl, by rw [decide_eq_false (fun hh : Fm.Ok x => q1 hh.1)]⟩)
  simp -implicitDefEqProofs (disch:=first|omega|(simp only[LnZ];omega))[wrap64, q1, F]
  refine (c_l5Count 6 (dv := 6) rfl (by omega) q1 R).go ?_
  rintro _ _ ⟨rfl, rfl⟩
  simp -implicitDefEqProofs (disch:=first|omega|(simp only[LnZ];omega))[wrap64]
  refine RetK.keep (hk _ _ ⟨rfl, ?_⟩)
  congr 1
  rw [Bool.eq_iff_iff]
  simp [Fm.Ok, q1]
  omega
end Go.Proofs.Ytbanccfdojgocaa

namespace Go.Proofs.Ytbanccfdojgocaa
open Go
structure Tr where
  frm : Int
  care : Int
  value : Int
  to : Int
deriving DecidableEq
instance instTyTr : Ty Tr := Ty.via fun (t : Tr) => (t.frm, t.care, t.value, t.to)
theorem Tr.ext_iff' {a b : Tr} : a = b ↔ a.frm = b.frm ∧ a.care = b.care ∧ a.value = b.value ∧ a.to = b.to := by
  cases a; cases b; simp
instance instFlatTr : Flat Tr := Flat.via fun (t : Tr) => (t.frm, t.care, t.value, t.to)
def Tr.v (t : Tr) : Value := .agg #[.int .i64 t.frm, .int .i64 t.care, .int .i64 t.value, .int .i64 t.to]
structure Tr.ok (t : Tr) : Prop where
  frm : -9223372036854775808 ≤ t.frm ∧ t.frm < 9223372036854775808
  care : -9223372036854775808 ≤ t.care ∧ t.care < 9223372036854775808
  value : -9223372036854775808 ≤ t.value ∧ t.value < 9223372036854775808
  to : -9223372036854775808 ≤ t.to ∧ t.to < 9223372036854775808
theorem Tr.ok_iff {t : Tr} : Flat.ok t ↔ t.ok := ⟨fun h => ⟨h.1, h.2.1, h.2.2.1, h.2.2.2⟩, fun h => ⟨h.frm, h.care, h.value, h.to⟩⟩
theorem Rep_Tr {h : Heap} {v : Value} {t : Tr} : Rep h v t ↔ v = t.v ∧ t.ok := by rw [Rep_flat, Tr.ok_iff]; rfl
theorem Rep.ldTr {h : Heap} {v : Value} {l : List Tr} (hr : Rep h v l) {i : Nat} (hi : i < l.length) : hload h (some (elp 4 v i)) (some 4) = some l[i].v := hr.ldF hi
theorem Rep.okTr {h : Heap} {v : Value} {l : List Tr} (hr : Rep h v l) {i : Nat} (hi : i < l.length) : l[i].ok := Tr.ok_iff.1 (hr.okF hi)
theorem Rep.xTr {h : Heap} {v : Value} {l : List Tr} (hr : Rep h v l) : ((∀ (kd : IntKind) (i : Nat), i < l.length → iaV 4 v (.int kd i) = some (elp 4 v i)) ∧ (∀ (kd : IntKind) (i : Int), 0 ≤ i → i < l.length → iaV 4 v (.int kd i) = some (elp 4 v i.toNat)) ∧ lenVV v = some (.int .i64 l.length)) ∧
    ∀ (i : Nat) (hi : i < l.length), hload h (some (elp 4 v i)) (some 4) = some l[i].v := ⟨hr.X rfl, fun _ hi => hr.ldTr hi⟩
theorem Rep.fTr {h : Heap} {v : Value} {l : List Tr} (hr : Rep h v l) : (∀ (i fo : Nat), i < l.length → faV fo (elp 4 v i) = some (elpo 4 v i fo)) ∧ (∀ (i : Nat) (hi : i < l.length), hload h (some (elpo 4 v i 0)) none = some (.int .i64 l[i].frm)) ∧ (∀ (i : Nat) (hi : i < l.length), hload h (some (elpo 4 v i 1)) none = some (.int .i64 l[i].care)) ∧ (∀ (i : Nat) (hi : i < l.length), hload h (some (elpo 4 v i 2)) none = some (.int .i64 l[i].value)) ∧ (∀ (i : Nat) (hi : i < l.length), hload h (some (elpo 4 v i 3)) none = some (.int .i64 l[i].to)) := ⟨fun _ _ hi => hr.fa hi, fun _ hi => hr.fld hi rfl rfl, fun _ hi => hr.fld hi rfl rfl, fun _ hi => hr.fld hi rfl rfl, fun _ hi => hr.fld hi rfl rfl⟩
instance instSzTr : Sz Tr := ⟨fun a => Sz.sz a.frm + Sz.sz a.care + Sz.sz a.value + Sz.sz a.to⟩
instance instMkTr : Mk Tr := ⟨fun a => Mk.cnt a.frm + Mk.cnt a.care + Mk.cnt a.value + Mk.cnt a.to,
  fun k a => ⟨Mk.wr (k) a.frm, Mk.wr (k + Mk.cnt a.frm) a.care, Mk.wr (k + Mk.cnt a.frm + Mk.cnt a.care) a.value, Mk.wr (k + Mk.cnt a.frm + Mk.cnt a.care + Mk.cnt a.value) a.to⟩,
  fun k a => by simp [Mk.cnt_wr], fun k j a => by simp [Mk.cnt_wr, Mk.wr_wr]⟩
structure Aut where
  init : List Int
  acc : List Bool
  edges : List Tr
deriving DecidableEq
instance instTyAut : Ty Aut := Ty.via fun (a : Aut) => (a.init, a.acc, a.edges)
theorem Aut.ext_iff' {a b : Aut} : a = b ↔ a.init = b.init ∧ a.acc = b.acc ∧ a.edges = b.edges := by
  cases a; cases b; simp
theorem Rep_Aut {h : Heap} {v : Value} {a : Aut} : Rep h v a ↔ ∃ v1 v2 v3, v = .agg #[v1, v2, v3] ∧ Rep h v1 a.init ∧ Rep h v2 a.acc ∧ Rep h v3 a.edges := by
  constructor
  · rintro ⟨cs, rfl, c0, d0, rfl, h1, c1, d1, rfl, h2, h3⟩
    obtain ⟨v1, rfl, g1⟩ := (rep1 rfl).1 h1
    obtain ⟨v2, rfl, g2⟩ := (rep1 rfl).1 h2
    obtain ⟨v3, rfl, g3⟩ := (rep1 rfl).1 h3
    exact ⟨v1, v2, v3, rfl, g1, g2, g3⟩
  · rintro ⟨v1, v2, v3, rfl, h1, h2, h3⟩
    exact ⟨[v1, v2, v3], rfl, ⟨[v1], [v2, v3], rfl, (rep1 rfl).2 ⟨_, rfl, h1⟩, ⟨[v2], [v3], rfl, (rep1 rfl).2 ⟨_, rfl, h2⟩, (rep1 rfl).2 ⟨_, rfl, h3⟩⟩⟩⟩
theorem HS.unAut {g h : Heap} {Γ : List HP} {v : Value} {a : Aut} (H : HS g (ow v a :: Γ) h) : ∃ v1 v2 v3, v = .agg #[v1, v2, v3] ∧ HS g (ow v1 a.init :: ow v2 a.acc :: ow v3 a.edges :: Γ) h := by
  obtain ⟨cs, rfl, H0⟩ := HS.unvia (fun (a : Aut) => (a.init, a.acc, a.edges)) H
  try dsimp only at H0
  obtain ⟨c0, e0, rfl, H1a⟩ := HS.unprod H0
  obtain ⟨v1, rfl, H1b⟩ := HS.unone rfl H1a
  have H1 := H1b.sw1
  obtain ⟨c1, e1, rfl, H2a⟩ := HS.unprod H1
  obtain ⟨v2, rfl, H2b⟩ := HS.unone rfl H2a
  have H2 := H2b.sw1
  obtain ⟨v3, rfl, HL⟩ := HS.unone rfl H2
  exact ⟨v1, v2, v3, rfl, HL.sw1.sw2⟩
theorem HS.mkAut {g h : Heap} {Γ : List HP} {v1 v2 v3 : Value} {a : Aut} (H : HS g (ow v1 a.init :: ow v2 a.acc :: ow v3 a.edges :: Γ) h) : HS g (ow (.agg #[v1, v2, v3]) a :: Γ) h := by
  refine HS.via (fun (a : Aut) => (a.init, a.acc, a.edges)) ?_
  exact HS.prod rfl (H.under fun _ H => HS.prod rfl (H.under fun _ H => HS.one rfl H))
theorem Rep.aAut {h : Heap} {v : Value} {x : Aut} (hr : Rep h v x) : pgetV (some v) 0 (some 3) = some v ∧ v.cells.size = 3 ∧ allOne v.cells.toList = true ∧ Value.agg v.cells = v := hr.A rfl rfl
instance instSzAut : Sz Aut := ⟨fun a => Sz.sz a.init + Sz.sz a.acc + Sz.sz a.edges⟩
instance instMkAut : Mk Aut := ⟨fun a => Mk.cnt a.init + Mk.cnt a.acc + Mk.cnt a.edges,
  fun k a => ⟨Mk.wr (k) a.init, Mk.wr (k + Mk.cnt a.init) a.acc, Mk.wr (k + Mk.cnt a.init + Mk.cnt a.acc) a.edges⟩,
  fun k a => by simp [Mk.cnt_wr], fun k j a => by simp [Mk.cnt_wr, Mk.wr_wr]⟩
structure Las where
  stem : List Int
  loop : List Int
deriving DecidableEq
instance instTyLas : Ty Las := Ty.via fun (l : Las) => (l.stem, l.loop)
theorem Las.ext_iff' {a b : Las} : a = b ↔ a.stem = b.stem ∧ a.loop = b.loop := by
  cases a; cases b; simp
instance instSzLas : Sz Las := ⟨fun a => Sz.sz a.stem + Sz.sz a.loop⟩
instance instMkLas : Mk Las := ⟨fun a => Mk.cnt a.stem + Mk.cnt a.loop,
  fun k a => ⟨Mk.wr (k) a.stem, Mk.wr (k + Mk.cnt a.stem) a.loop⟩,
  fun k a => by simp [Mk.cnt_wr], fun k j a => by simp [Mk.cnt_wr, Mk.wr_wr]⟩
end Go.Proofs.Ytbanccfdojgocaa

namespace Go.Proofs.Ytbanccfdojgocaa
open Go
theorem c_eqIntS {h : Heap} {a b : Value} {x y : List Int} (Ra : Rep h a x) (Rb : Rep h b y) : CallE Try.prog fn_laws_eqIntS [a, b] h (fun v h' => h' = h ∧ v = .bool (decide (x = y))) := by
  refine CallE.gen fun k hk => EN_laws_eqIntS rfl ?_
  have hL := Ra.lt
  simp -implicitDefEqProofs (disch:=first|omega|(simp only[LnZ];omega))[wrap64, Ra.len, Rb.len]
  refine IteW.mkr (fun hne => ?_) (fun heq => ?_)
  · simp -implicitDefEqProofs (disch:=first|omega|(simp only[LnZ];omega))[wrap64]
    exact RetK.keep (hk _ _ ⟨rfl, by simp; rintro rfl; exact hne rfl⟩)
  simp -implicitDefEqProofs (disch:=first|omega|(simp only[LnZ];omega))[wrap64]
  refine wp_count x.length (fun i e h' => h' = h ∧ e = [some a, some b, none, some (.int .i64 i)] ∧ x.take i = y.take i) ⟨rfl, rfl, rfl⟩ ?_
  rintro J i _ _ hJ hi ⟨rfl, rfl, hxy⟩
  simp -implicitDefEqProofs (disch:=first|omega|(simp only[LnZ];omega))[wrap64, Ra.len]
  refine IteW.mk (fun hlt => ?_) (fun hge => ?_)
  · have hly : i < y.length := by omega
    have hlx : i < x.length := by omega
    simp -implicitDefEqProofs (disch:=first|omega|(simp only[LnZ];omega))[wrap64, Ra.I, Rb.I]
    refine IteW.mkr (fun hne => ?_) (fun heq => ?_)
    · simp -implicitDefEqProofs (disch:=first|omega|(simp only[LnZ];omega))[wrap64]
      exact RetK.keep (hk _ _ ⟨rfl, by simp; rintro rfl; exact hne rfl⟩)
    simp -implicitDefEqProofs (disch:=first|omega|(simp only[LnZ];omega))[wrap64]
    exact hJ _ _ hlx ⟨rfl, rfl, take_step hxy hlx hly heq⟩
  · simp -implicitDefEqProofs (disch:=first|omega|(simp only[LnZ];omega))[wrap64]
    refine RetK.keep (hk _ _ ⟨rfl, ?_⟩)
    simp
    rw [List.take_of_length_le (by omega), List.take_of_length_le (by omega)] at hxy
    exact hxy
theorem c_markIntS {g h : Heap} {Γ : List HP} {v : Value} {x : List Int} {k0 : Int} (H : HS g (ow v x :: Γ) h) (hk0 : 0 ≤ k0) (hk1 : k0 + Mk.cnt x < 4611686018427387904) : CallE Try.prog fn_laws_markIntS [v, .int .i64 k0] h (fun u h' => HS g (ow v (Mk.wr k0 x) :: Γ) h' ∧ u = .int .i64 (k0 + Mk.cnt x)) := by
  refine CallE.gen fun k hk => EN_laws_markIntS rfl ?_
  simp -implicitDefEqProofs (disch:=first|omega|(simp only[LnZ];omega))[wrap64]
  refine wp_count x.length (fun i e h' => e = [some v, some (.int .i64 (k0 + cntL (x.take i))), none, some (.int .i64 i)] ∧ ∃ y, HS g (ow v y :: Γ) h' ∧ Mkd k0 x y i) ⟨by simp [cntL], x, H, Mkd.zero⟩ ?_
  rintro J i _ h2 hJ hi ⟨rfl, y, H, M⟩
  have hl := M.len
  have hL := H.rep.lt
  have hcx : Mk.cnt x = cntL x := rfl
  simp -implicitDefEqProofs (disch:=first|omega|(simp only[LnZ];omega))[wrap64, H.rep.len]
  refine IteW.mk (fun hlt => ?_) (fun hge => ?_)
  · have hlx : i < x.length := by omega
    have hly : i < y.length := by omega
    have hb := cntL_le x (i + 1)
    have hc := cntL_take x i hlx
    have h1 : Mk.cnt x[i] = 1 := rfl
    have h4 : IntKind.i64.wrap (k0 + (cntL (x.take i) : Nat) + 1) = k0 + (cntL (x.take i) : Nat) + 1 := wrap64 (by omega) (by omega)
    simp -implicitDefEqProofs (disch:=first|omega|(simp only[LnZ];omega))[wrap64, H.rep.I]
    refine H.storeF (k0 + cntL (x.take i)) hly rfl rfl ⟨by omega, by omega⟩ rfl fun h3 H => ?_
    simp -implicitDefEqProofs (disch:=first|omega|(simp only[LnZ];omega))[wrap64]
    refine hJ _ _ hlx ⟨?_, _, H, M.step hlx⟩
    rw [hc, h1]; push_cast; simp [Int.add_assoc]
  · simp -implicitDefEqProofs (disch:=first|omega|(simp only[LnZ];omega))[wrap64]
    have h2 : x.take i = x := List.take_of_length_le (by omega)
    refine RetK.keep (hk _ _ ⟨?_, by rw [h2]; rfl⟩)
    have h3 : y = Mk.wr k0 x := M.all (by omega)
    rw [← h3]; exact H
theorem c_heldIntS {h : Heap} {v : Value} {x : List Int} {k0 : Int} (Rv : Rep h v x) (hk0 : 0 ≤ k0) (hk1 : k0 + Mk.cnt x < 4611686018427387904) : CallE Try.prog fn_laws_heldIntS [v, .int .i64 k0] h (fun u h' => h' = h ∧ u = .int .i64 (if Mk.wr k0 x = x then k0 + Mk.cnt x else -1)) := by
  refine CallE.gen fun k hk => EN_laws_heldIntS rfl ?_
  have hL := Rv.lt
  have hcx : Mk.cnt x = cntL x := rfl
  simp -implicitDefEqProofs (disch:=first|omega|(simp only[LnZ];omega))[wrap64]
  refine wp_count x.length (fun i e h' => h' = h ∧ e = [some v, some (.int .i64 (k0 + cntL (x.take i))), none, some (.int .i64 i)] ∧ (mkL k0 x).take i = x.take i) ⟨rfl, by simp [cntL], rfl⟩ ?_
  rintro J i _ _ hJ hi ⟨rfl, rfl, M⟩
  simp -implicitDefEqProofs (disch:=first|omega|(simp only[LnZ];omega))[wrap64, Rv.len]
  refine IteW.mk (fun hlt => ?_) (fun hge => ?_)
  · have hlx : i < x.length := by omega
    have hb := cntL_le x (i + 1)
    have hc := cntL_take x i hlx
    have hg := mkL_get k0 x i hlx
    have h1 : Mk.cnt x[i] = 1 := rfl
    obtain ⟨q, hq⟩ : ∃ q, q = k0 + cntL (x.take i) := ⟨_, rfl⟩
    rw [← hq] at hg ⊢
    simp -implicitDefEqProofs (disch:=first|omega|(simp only[LnZ];omega))[wrap64, Rv.I]
    refine IteW.mk (fun hq2 => ?_) (fun hq2 => ?_)
    · simp -implicitDefEqProofs (disch:=first|omega|(simp only[LnZ];omega))[wrap64]
      refine hJ _ _ hlx ⟨rfl, by rw [hc, h1, hq]; push_cast; simp [Int.add_assoc], take_step M (by simpa using hlx) hlx ?_⟩
      rw [hg]
      exact hq2.symm
    · simp -implicitDefEqProofs (disch:=first|omega|(simp only[LnZ];omega))[wrap64]
      refine RetK.keep (hk _ _ ⟨rfl, ?_⟩)
      rw [if_neg]
      intro he
      have he2 : mkL k0 x = x := he
      simp only [he2] at hg
      exact hq2 hg
  · simp -implicitDefEqProofs (disch:=first|omega|(simp only[LnZ];omega))[wrap64]
    have h2 : x.take i = x := List.take_of_length_le (by omega)
    rw [List.take_of_length_le (by simp; omega), h2] at M
    exact RetK.keep (hk _ _ ⟨rfl, by rw [h2]; exact congrArg _ (if_pos M).symm⟩)
theorem c_eqBoolS {h : Heap} {a b : Value} {x y : List Bool} (Ra : Rep h a x) (Rb : Rep h b y) : CallE Try.prog fn_laws_eqBoolS [a, b] h (fun v h' => h' = h ∧ v = .bool (decide (x = y))) := by
  refine CallE.gen fun k hk => EN_laws_eqBoolS rfl ?_
  have hL := Ra.lt
  simp -implicitDefEqProofs (disch:=first|omega|(simp only[LnZ];omega))[wrap64, Ra.len, Rb.len]
  refine IteW.mkr (fun hne => ?_) (fun heq => ?_)
  · simp -implicitDefEqProofs (disch:=first|omega|(simp only[LnZ];omega))[wrap64]
    exact RetK.keep (hk _ _ ⟨rfl, by simp; rintro rfl; exact hne rfl⟩)
  simp -implicitDefEqProofs (disch:=first|omega|(simp only[LnZ];omega))[wrap64]
  refine wp_count x.length (fun i e h' => h' = h ∧ e = [some a, some b, none, some (.int .i64 i)] ∧ x.take i = y.take i) ⟨rfl, rfl, rfl⟩ ?_
  rintro J i _ _ hJ hi ⟨rfl, rfl, hxy⟩
  simp -implicitDefEqProofs (disch:=first|omega|(simp only[LnZ];omega))[wrap64, Ra.len]
  refine IteW.mk (fun hlt => ?_) (fun hge => ?_)
  · have hly : i < y.length := by omega
    have hlx : i < x.length := by omega
    simp -implicitDefEqProofs (disch:=first|omega|(simp only[LnZ];omega))[wrap64, Ra.B, Rb.B]
    refine IteW.mkr (fun hne => ?_) (fun heq => ?_)
    · simp -implicitDefEqProofs (disch:=first|omega|(simp only[LnZ];omega))[wrap64]
      exact RetK.keep (hk _ _ ⟨rfl, by simp; rintro rfl; exact hne rfl⟩)
    simp -implicitDefEqProofs (disch:=first|omega|(simp only[LnZ];omega))[wrap64]
    exact hJ _ _ hlx ⟨rfl, rfl, take_step hxy hlx hly heq⟩
  · simp -implicitDefEqProofs (disch:=first|omega|(simp only[LnZ];omega))[wrap64]
    refine RetK.keep (hk _ _ ⟨rfl, ?_⟩)
    simp
    rw [List.take_of_length_le (by omega), List.take_of_length_le (by omega)] at hxy
    exact hxy
theorem c_markBoolS {g h : Heap} {Γ : List HP} {v : Value} {x : List Bool} {k0 : Int} (H : HS g (ow v x :: Γ) h) (hk0 : 0 ≤ k0) (hk1 : k0 + Mk.cnt x < 4611686018427387904) : CallE Try.prog fn_laws_markBoolS [v, .int .i64 k0] h (fun u h' => HS g (ow v (Mk.wr k0 x) :: Γ) h' ∧ u = .int .i64 (k0 + Mk.cnt x)) := by
  refine CallE.gen fun k hk => EN_laws_markBoolS rfl ?_
  simp -implicitDefEqProofs (disch:=first|omega|(simp only[LnZ];omega))[wrap64]
  refine wp_count x.length (fun i e h' => e = [some v, some (.int .i64 (k0 + cntL (x.take i))), none, some (.int .i64 i)] ∧ ∃ y, HS g (ow v y :: Γ) h' ∧ Mkd k0 x y i) ⟨by simp [cntL], x, H, Mkd.zero⟩ ?_
  rintro J i _ h2 hJ hi ⟨rfl, y, H, M⟩
  have hl := M.len
  have hL := H.rep.lt
  have hcx : Mk.cnt x = cntL x := rfl
  simp -implicitDefEqProofs (disch:=first|omega|(simp only[LnZ];omega))[wrap64, H.rep.len]
  refine IteW.mk (fun hlt => ?_) (fun hge => ?_)
  · have hlx : i < x.length := by omega
    have hly : i < y.length := by omega
    have hb := cntL_le x (i + 1)
    have hc := cntL_take x i hlx
    have h1 : Mk.cnt x[i] = 1 := rfl
    have h4 : IntKind.i64.wrap (k0 + (cntL (x.take i) : Nat) + 1) = k0 + (cntL (x.take i) : Nat) + 1 := wrap64 (by omega) (by omega)
    simp -implicitDefEqProofs (disch:=first|omega|(simp only[LnZ];omega))[wrap64, H.rep.B]
    refine H.storeF (Mk.wr (k0 + cntL (x.take i)) x[i]) hly rfl rfl trivial rfl fun h3 H => ?_
    simp -implicitDefEqProofs (disch:=first|omega|(simp only[LnZ];omega))[wrap64]
    refine hJ _ _ hlx ⟨?_, _, H, M.step hlx⟩
    rw [hc, h1]; push_cast; simp [Int.add_assoc]
  · simp -implicitDefEqProofs (disch:=first|omega|(simp only[LnZ];omega))[wrap64]
    have h2 : x.take i = x := List.take_of_length_le (by omega)
    refine RetK.keep (hk _ _ ⟨?_, by rw [h2]; rfl⟩)
    have h3 : y = Mk.wr k0 x := M.all (by omega)
    rw [← h3]; exact H
theorem c_heldBoolS {h : Heap} {v : Value} {x : List Bool} {k0 : Int} (Rv : Rep h v x) (hk0 : 0 ≤ k0) (hk1 : k0 + Mk.cnt x < 4611686018427387904) : CallE Try.prog fn_laws_heldBoolS [v, .int .i64 k0] h (fun u h' => h' = h ∧ u = .int .i64 (if Mk.wr k0 x = x then k0 + Mk.cnt x else -1)) := by
  refine CallE.gen fun k hk => EN_laws_heldBoolS rfl ?_
  have hL := Rv.lt
  have hcx : Mk.cnt x = cntL x := rfl
  simp -implicitDefEqProofs (disch:=first|omega|(simp only[LnZ];omega))[wrap64]
  refine wp_count x.length (fun i e h' => h' = h ∧ e = [some v, some (.int .i64 (k0 + cntL (x.take i))), none, some (.int .i64 i)] ∧ (mkL k0 x).take i = x.take i) ⟨rfl, by simp [cntL], rfl⟩ ?_
  rintro J i _ _ hJ hi ⟨rfl, rfl, M⟩
  simp -implicitDefEqProofs (disch:=first|omega|(simp only[LnZ];omega))[wrap64, Rv.len]
  refine IteW.mk (fun hlt => ?_) (fun hge => ?_)
  · have hlx : i < x.length := by omega
    have hb := cntL_le x (i + 1)
    have hc := cntL_take x i hlx
    have hg := mkL_get k0 x i hlx
    have h1 : Mk.cnt x[i] = 1 := rfl
    obtain ⟨q, hq⟩ : ∃ q, q = k0 + cntL (x.take i) := ⟨_, rfl⟩
    rw [← hq] at hg ⊢
    simp -implicitDefEqProofs (disch:=first|omega|(simp only[LnZ];omega))[wrap64, Rv.B]
    refine IteW.mk (fun hq2 => ?_) (fun hq2 => ?_)
    · simp -implicitDefEqProofs (disch:=first|omega|(simp only[LnZ];omega))[wrap64]
      refine hJ _ _ hlx ⟨rfl, by rw [hc, h1, hq]; push_cast; simp [Int.add_assoc], take_step M (by simpa using hlx) hlx ?_⟩
      rw [hg]
      exact hq2.symm
    · simp -implicitDefEqProofs (disch:=first|omega|(simp only[LnZ];omega))[wrap64]
      refine RetK.keep (hk _ _ ⟨rfl, ?_⟩)
      rw [if_neg]
      intro he
      have he2 : mkL k0 x = x := he
      simp only [he2] at hg
      exact hq2 hg
  · simp -implicitDefEqProofs (disch:=first|omega|(simp only[LnZ];omega))[wrap64]
    have h2 : x.take i = x := List.take_of_length_le (by omega)
    rw [List.take_of_length_le (by simp; omega), h2] at M
    exact RetK.keep (hk _ _ ⟨rfl, by rw [h2]; exact congrArg _ (if_pos M).symm⟩)
theorem c_eqTransition {h : Heap} {a b : Value} {s t : Tr} (Ra : Rep h a s) (Rb : Rep h b t) : CallE Try.prog fn_laws_eqTransition [a, b] h (fun v h' => h' = h ∧ v = .bool (decide (s = t))) := by
  rw [(Rep_Tr.1 Ra).1, (Rep_Tr.1 Rb).1]
  refine CallE.gen fun k hk => EN_laws_eqTransition rfl ?_
  simp -implicitDefEqProofs (disch:=first|omega|(simp only[LnZ];omega))[wrap64, Tr.v]
  refine IteW.mkr (fun h1 => ?_) (fun h1 => ?_)
  · simp -implicitDefEqProofs (disch:=first|omega|(simp only[LnZ];omega))[wrap64]
    exact RetK.keep (hk _ _ ⟨rfl, by simp_all [Tr.ext_iff']⟩)
  simp -implicitDefEqProofs (disch:=first|omega|(simp only[LnZ];omega))[wrap64]
  refine IteW.mkr (fun h2 => ?_) (fun h2 => ?_)
  · simp -implicitDefEqProofs (disch:=first|omega|(simp only[LnZ];omega))[wrap64]
    exact RetK.keep (hk _ _ ⟨rfl, by simp_all [Tr.ext_iff']⟩)
  simp -implicitDefEqProofs (disch:=first|omega|(simp only[LnZ];omega))[wrap64]
  refine IteW.mkr (fun h3 => ?_) (fun h3 => ?_)
  · simp -implicitDefEqProofs (disch:=first|omega|(simp only[LnZ];omega))[wrap64]
    exact RetK.keep (hk _ _ ⟨rfl, by simp_all [Tr.ext_iff']⟩)
  simp -implicitDefEqProofs (disch:=first|omega|(simp only[LnZ];omega))[wrap64]
  refine IteW.mkr (fun h4 => ?_) (fun h4 => ?_)
  · simp -implicitDefEqProofs (disch:=first|omega|(simp only[LnZ];omega))[wrap64]
    exact RetK.keep (hk _ _ ⟨rfl, by simp_all [Tr.ext_iff']⟩)
  try simp -implicitDefEqProofs (disch:=first|omega|(simp only[LnZ];omega))[wrap64]
  exact RetK.keep (hk _ _ ⟨rfl, by simp_all [Tr.ext_iff']⟩)
theorem c_eqTransitionS {h : Heap} {a b : Value} {x y : List Tr} (Ra : Rep h a x) (Rb : Rep h b y) : CallE Try.prog fn_laws_eqTransitionS [a, b] h (fun v h' => h' = h ∧ v = .bool (decide (x = y))) := by
  refine CallE.gen fun k hk => EN_laws_eqTransitionS rfl ?_
  have hL := Ra.lt
  simp -implicitDefEqProofs (disch:=first|omega|(simp only[LnZ];omega))[wrap64, Ra.len, Rb.len]
  refine IteW.mkr (fun hne => ?_) (fun heq => ?_)
  · simp -implicitDefEqProofs (disch:=first|omega|(simp only[LnZ];omega))[wrap64]
    exact RetK.keep (hk _ _ ⟨rfl, by simp; rintro rfl; exact hne rfl⟩)
  simp -implicitDefEqProofs (disch:=first|omega|(simp only[LnZ];omega))[wrap64]
  refine wp_count x.length (fun i e h' => h' = h ∧ e = [some a, some b, none, some (.int .i64 i)] ∧ x.take i = y.take i) ⟨rfl, rfl, rfl⟩ ?_
  rintro J i _ _ hJ hi ⟨rfl, rfl, hxy⟩
  simp -implicitDefEqProofs (disch:=first|omega|(simp only[LnZ];omega))[wrap64, Ra.len]
  refine IteW.mk (fun hlt => ?_) (fun hge => ?_)
  · have hly : i < y.length := by omega
    have hlx : i < x.length := by omega
    obtain ⟨u, hu, Ru⟩ := Ra.ld hlx
    obtain ⟨w, hw, Rw⟩ := Rb.ld hly
    change hload _ (some (elp 4 a i)) (some 4) = some u at hu
    change hload _ (some (elp 4 b i)) (some 4) = some w at hw
    simp -implicitDefEqProofs (disch:=first|omega|(simp only[LnZ];omega))[wrap64, Ra.X (n := 4) rfl, Rb.X (n := 4) rfl, hu, hw]
    refine (c_eqTransition Ru Rw).go ?_
    rintro _ _ ⟨rfl, rfl⟩
    simp -implicitDefEqProofs (disch:=first|omega|(simp only[LnZ];omega))[wrap64]
    refine IteW.mkr (fun hne => ?_) (fun heq => ?_)
    · simp -implicitDefEqProofs (disch:=first|omega|(simp only[LnZ];omega))[wrap64]
      exact RetK.keep (hk _ _ ⟨rfl, by simp; rintro rfl; exact hne rfl⟩)
    simp -implicitDefEqProofs (disch:=first|omega|(simp only[LnZ];omega))[wrap64]
    exact hJ _ _ hlx ⟨rfl, rfl, take_step hxy hlx hly heq⟩
  · simp -implicitDefEqProofs (disch:=first|omega|(simp only[LnZ];omega))[wrap64]
    refine RetK.keep (hk _ _ ⟨rfl, ?_⟩)
    simp
    rw [List.take_of_length_le (by omega), List.take_of_length_le (by omega)] at hxy
    exact hxy
theorem c_markTransitionS {g h : Heap} {Γ : List HP} {v : Value} {x : List Tr} {k0 : Int} (H : HS g (ow v x :: Γ) h) (hk0 : 0 ≤ k0) (hk1 : k0 + Mk.cnt x < 4611686018427387904) : CallE Try.prog fn_laws_markTransitionS [v, .int .i64 k0] h (fun u h' => HS g (ow v (Mk.wr k0 x) :: Γ) h' ∧ u = .int .i64 (k0 + Mk.cnt x)) := by
  refine CallE.gen fun k hk => EN_laws_markTransitionS rfl ?_
  simp -implicitDefEqProofs (disch:=first|omega|(simp only[LnZ];omega))[wrap64]
  refine wp_count x.length (fun i e h' => e = [some v, some (.int .i64 (k0 + cntL (x.take i))), none, some (.int .i64 i)] ∧ ∃ y, HS g (ow v y :: Γ) h' ∧ Mkd k0 x y i) ⟨by simp [cntL], x, H, Mkd.zero⟩ ?_
  rintro J i _ h2 hJ hi ⟨rfl, y, H, M⟩
  have hl := M.len
  have hL := H.rep.lt
  have hcx : Mk.cnt x = cntL x := rfl
  simp -implicitDefEqProofs (disch:=first|omega|(simp only[LnZ];omega))[wrap64, H.rep.len]
  refine IteW.mk (fun hlt => ?_) (fun hge => ?_)
  · have hlx : i < x.length := by omega
    have hly : i < y.length := by omega
    have hb := cntL_le x (i + 1)
    have hc := cntL_take x i hlx
    have h1 : Mk.cnt x[i] = 4 := rfl
    have hok := H.rep.okTr hly
    obtain ⟨q, hq⟩ : ∃ q, q = k0 + cntL (x.take i) := ⟨_, rfl⟩
    rw [← hq]
    simp -implicitDefEqProofs (disch:=first|omega|(simp only[LnZ];omega))[wrap64, H.rep.ian (n := 4) rfl hly, H.rep.fa hly]
    refine H.storeFld (α := Tr) ⟨q, y[i].care, y[i].value, y[i].to⟩ hly rfl rfl rfl rfl (by decide) (by first | rfl | (simp; rfl)) (Tr.ok_iff.2 ⟨by dsimp; omega, hok.care, hok.value, hok.to⟩) fun h3 H => ?_
    have hly' : i < (y.set i ⟨q, y[i].care, y[i].value, y[i].to⟩).length := by simpa using hly
    simp -implicitDefEqProofs (disch:=first|omega|(simp only[LnZ];omega))[wrap64, H.rep.ian (n := 4) rfl hly', H.rep.fa hly']
    refine H.storeFld (α := Tr) ⟨q, q + 1, y[i].value, y[i].to⟩ hly' rfl rfl rfl rfl (by decide) (by first | rfl | (simp; rfl)) (Tr.ok_iff.2 ⟨by dsimp; omega, by dsimp; omega, hok.value, hok.to⟩) fun h3 H => ?_
    rw [List.set_set] at H
    have hly' : i < (y.set i ⟨q, q + 1, y[i].value, y[i].to⟩).length := by simpa using hly
    simp -implicitDefEqProofs (disch:=first|omega|(simp only[LnZ];omega))[wrap64, H.rep.ian (n := 4) rfl hly', H.rep.fa hly']
    refine H.storeFld (α := Tr) ⟨q, q + 1, q + 1 + 1, y[i].to⟩ hly' rfl rfl rfl rfl (by decide) (by first | rfl | (simp; rfl)) (Tr.ok_iff.2 ⟨by dsimp; omega, by dsimp; omega, by dsimp; omega, hok.to⟩) fun h3 H => ?_
    rw [List.set_set] at H
    have hly' : i < (y.set i ⟨q, q + 1, q + 1 + 1, y[i].to⟩).length := by simpa using hly
    simp -implicitDefEqProofs (disch:=first|omega|(simp only[LnZ];omega))[wrap64, H.rep.ian (n := 4) rfl hly', H.rep.fa hly']
    refine H.storeFld (α := Tr) ⟨q, q + 1, q + 1 + 1, q + 1 + 1 + 1⟩ hly' rfl rfl rfl rfl (by decide) (by first | rfl | (simp; rfl)) (Tr.ok_iff.2 ⟨by dsimp; omega, by dsimp; omega, by dsimp; omega, by dsimp; omega⟩) fun h3 H => ?_
    rw [List.set_set] at H
    simp -implicitDefEqProofs (disch:=first|omega|(simp only[LnZ];omega))[wrap64]
    have M' := M.step hlx
    rw [← hq] at M'
    exact hJ _ _ hlx ⟨by rw [hc, h1, hq]; push_cast; simp [Int.add_assoc], _, H, M'⟩
  · simp -implicitDefEqProofs (disch:=first|omega|(simp only[LnZ];omega))[wrap64]
    have h2 : x.take i = x := List.take_of_length_le (by omega)
    refine RetK.keep (hk _ _ ⟨?_, by rw [h2]; rfl⟩)
    have h3 : y = Mk.wr k0 x := M.all (by omega)
    rw [← h3]; exact H
theorem c_heldTransitionS {h : Heap} {v : Value} {x : List Tr} {k0 : Int} (Rv : Rep h v x) (hk0 : 0 ≤ k0) (hk1 : k0 + Mk.cnt x < 4611686018427387904) : CallE Try.prog fn_laws_heldTransitionS [v, .int .i64 k0] h (fun u h' => h' = h ∧ u = .int .i64 (if Mk.wr k0 x = x then k0 + Mk.cnt x else -1)) := by
  refine CallE.gen fun k hk => EN_laws_heldTransitionS rfl ?_
  have hL := Rv.lt
  have hcx : Mk.cnt x = cntL x := rfl
  simp -implicitDefEqProofs (disch:=first|omega|(simp only[LnZ];omega))[wrap64]
  refine wp_count x.length (fun i e h' => h' = h ∧ e = [some v, some (.int .i64 (k0 + cntL (x.take i))), none, some (.int .i64 i)] ∧ (mkL k0 x).take i = x.take i) ⟨rfl, by simp [cntL], rfl⟩ ?_
  rintro J i _ _ hJ hi ⟨rfl, rfl, M⟩
  simp -implicitDefEqProofs (disch:=first|omega|(simp only[LnZ];omega))[wrap64, Rv.len]
  refine IteW.mk (fun hlt => ?_) (fun hge => ?_)
  · have hlx : i < x.length := by omega
    have hb := cntL_le x (i + 1)
    have hc := cntL_take x i hlx
    have hg := mkL_get k0 x i hlx
    have h1 : Mk.cnt x[i] = 4 := rfl
    obtain ⟨q, hq⟩ : ∃ q, q = k0 + cntL (x.take i) := ⟨_, rfl⟩
    rw [← hq] at hg ⊢
    have hw : Mk.wr q x[i] = ⟨q, q + 1, q + 1 + 1, q + 1 + 1 + 1⟩ := rfl
    have hno : Mk.wr q x[i] ≠ x[i] → ¬ Mk.wr k0 x = x := by
      intro hm he
      have he2 : mkL k0 x = x := he
      simp only [he2] at hg
      exact hm hg.symm
    by_cases m0 : x[i].frm = q
    case neg =>
      simp -implicitDefEqProofs (disch:=first|omega|(simp only[LnZ];omega))[wrap64, Rv.X (n := 4) rfl, Rv.fTr, m0]
      refine RetK.keep (hk _ _ ⟨rfl, ?_⟩)
      rw [if_neg (hno fun he => m0 (by rw [hw] at he; rw [← he]))]
    by_cases m1 : x[i].care = q + 1
    case neg =>
      simp -implicitDefEqProofs (disch:=first|omega|(simp only[LnZ];omega))[wrap64, Rv.X (n := 4) rfl, Rv.fTr, m0, m1]
      refine RetK.keep (hk _ _ ⟨rfl, ?_⟩)
      rw [if_neg (hno fun he => m1 (by rw [hw] at he; rw [← he]))]
    by_cases m2 : x[i].value = q + 1 + 1
    case neg =>
      simp -implicitDefEqProofs (disch:=first|omega|(simp only[LnZ];omega))[wrap64, Rv.X (n := 4) rfl, Rv.fTr, m0, m1, m2]
      refine RetK.keep (hk _ _ ⟨rfl, ?_⟩)
      rw [if_neg (hno fun he => m2 (by rw [hw] at he; rw [← he]))]
    by_cases m3 : x[i].to = q + 1 + 1 + 1
    case neg =>
      simp -implicitDefEqProofs (disch:=first|omega|(simp only[LnZ];omega))[wrap64, Rv.X (n := 4) rfl, Rv.fTr, m0, m1, m2, m3]
      refine RetK.keep (hk _ _ ⟨rfl, ?_⟩)
      rw [if_neg (hno fun he => m3 (by rw [hw] at he; rw [← he]))]
    simp -implicitDefEqProofs (disch:=first|omega|(simp only[LnZ];omega))[wrap64, Rv.X (n := 4) rfl, Rv.fTr, m0, m1, m2, m3]
    refine hJ _ _ hlx ⟨rfl, by rw [hc, h1, hq]; push_cast; simp [Int.add_assoc], take_step M (by simpa using hlx) hlx ?_⟩
    rw [hg, hw, Tr.ext_iff']
    exact ⟨m0.symm, m1.symm, m2.symm, m3.symm⟩
  · simp -implicitDefEqProofs (disch:=first|omega|(simp only[LnZ];omega))[wrap64]
    have h2 : x.take i = x := List.take_of_length_le (by omega)
    rw [List.take_of_length_le (by simp; omega), h2] at M
    exact RetK.keep (hk _ _ ⟨rfl, by rw [h2]; exact congrArg _ (if_pos M).symm⟩)
theorem c_eqAutomaton {h : Heap} {a b : Value} {x y : Aut} (Ra : Rep h a x) (Rb : Rep h b y) : CallE Try.prog fn_laws_eqAutomaton [a, b] h (fun v h' => h' = h ∧ v = .bool (decide (x = y))) := by
  obtain ⟨v1, v2, v3, rfl, R1, R2, R3⟩ := Rep_Aut.1 Ra
  obtain ⟨w1, w2, w3, rfl, S1, S2, S3⟩ := Rep_Aut.1 Rb
  refine CallE.gen fun k hk => EN_laws_eqAutomaton rfl ?_
  simp -implicitDefEqProofs (disch:=first|omega|(simp only[LnZ];omega))[wrap64]
  refine (c_eqIntS R1 S1).go ?_
  rintro _ _ ⟨rfl, rfl⟩
  simp -implicitDefEqProofs (disch:=first|omega|(simp only[LnZ];omega))[wrap64]
  refine IteW.mkr (fun h1 => ?_) (fun h1 => ?_)
  · simp -implicitDefEqProofs (disch:=first|omega|(simp only[LnZ];omega))[wrap64]
    exact RetK.keep (hk _ _ ⟨rfl, by simp_all [Aut.ext_iff']⟩)
  simp -implicitDefEqProofs (disch:=first|omega|(simp only[LnZ];omega))[wrap64]
  refine (c_eqBoolS R2 S2).go ?_
  rintro _ _ ⟨rfl, rfl⟩
  simp -implicitDefEqProofs (disch:=first|omega|(simp only[LnZ];omega))[wrap64]
  refine IteW.mkr (fun h2 => ?_) (fun h2 => ?_)
  · simp -implicitDefEqProofs (disch:=first|omega|(simp only[LnZ];omega))[wrap64]
    exact RetK.keep (hk _ _ ⟨rfl, by simp_all [Aut.ext_iff']⟩)
  simp -implicitDefEqProofs (disch:=first|omega|(simp only[LnZ];omega))[wrap64]
  refine (c_eqTransitionS R3 S3).go ?_
  rintro _ _ ⟨rfl, rfl⟩
  simp -implicitDefEqProofs (disch:=first|omega|(simp only[LnZ];omega))[wrap64]
  refine IteW.mkr (fun h3 => ?_) (fun h3 => ?_)
  · simp -implicitDefEqProofs (disch:=first|omega|(simp only[LnZ];omega))[wrap64]
    exact RetK.keep (hk _ _ ⟨rfl, by simp_all [Aut.ext_iff']⟩)
  try simp -implicitDefEqProofs (disch:=first|omega|(simp only[LnZ];omega))[wrap64]
  exact RetK.keep (hk _ _ ⟨rfl, by simp_all [Aut.ext_iff']⟩)
theorem c_markAutomaton {g h : Heap} {Γ : List HP} {v : Value} {x : Aut} {k0 : Int} (H : HS g (ow v x :: Γ) h) (hk0 : 0 ≤ k0) (hk1 : k0 + Mk.cnt x < 4611686018427387904) : CallE Try.prog fn_laws_markAutomaton [v, .int .i64 k0] h (fun u h' => HS g (ow v (Mk.wr k0 x) :: Γ) h' ∧ u = .int .i64 (k0 + Mk.cnt x)) := by
  have hc : Mk.cnt x = Mk.cnt x.init + Mk.cnt x.acc + Mk.cnt x.edges := rfl
  obtain ⟨v1, v2, v3, rfl, H0⟩ := HS.unAut H
  refine CallE.gen fun k hk => EN_laws_markAutomaton rfl ?_
  simp -implicitDefEqProofs (disch:=first|omega|(simp only[LnZ];omega))[wrap64]
  refine (c_markIntS (k0 := k0) H0 (by omega) (by omega)).go ?_
  rintro _ h1 ⟨G1, rfl⟩
  have H1 := G1.bk2
  simp -implicitDefEqProofs (disch:=first|omega|(simp only[LnZ];omega))[wrap64]
  refine (c_markBoolS (k0 := k0 + (Mk.cnt x.init : Nat)) H1 (by omega) (by omega)).go ?_
  rintro _ h2 ⟨G2, rfl⟩
  have H2 := G2.bk2
  simp -implicitDefEqProofs (disch:=first|omega|(simp only[LnZ];omega))[wrap64]
  refine (c_markTransitionS (k0 := k0 + (Mk.cnt x.init : Nat) + (Mk.cnt x.acc : Nat)) H2 (by omega) (by omega)).go ?_
  rintro _ h3 ⟨G3, rfl⟩
  have H3 := G3.bk2
  simp -implicitDefEqProofs (disch:=first|omega|(simp only[LnZ];omega))[wrap64]
  refine RetK.keep (hk _ _ ⟨HS.mkAut H3, ?_⟩)
  rw [hc]; congr 1; omega
theorem c_heldAutomaton {h : Heap} {v : Value} {x : Aut} {k0 : Int} (Rv : Rep h v x) (hk0 : 0 ≤ k0) (hk1 : k0 + Mk.cnt x < 4611686018427387904) : CallE Try.prog fn_laws_heldAutomaton [v, .int .i64 k0] h (fun u h' => h' = h ∧ u = .int .i64 (if Mk.wr k0 x = x then k0 + Mk.cnt x else -1)) := by
  have hc : Mk.cnt x = Mk.cnt x.init + Mk.cnt x.acc + Mk.cnt x.edges := rfl
  have hw : Mk.wr k0 x = ⟨Mk.wr (k0) x.init, Mk.wr (k0 + (Mk.cnt x.init : Nat)) x.acc, Mk.wr (k0 + (Mk.cnt x.init : Nat) + (Mk.cnt x.acc : Nat)) x.edges⟩ := rfl
  obtain ⟨v1, v2, v3, rfl, R1, R2, R3⟩ := Rep_Aut.1 Rv
  refine CallE.gen fun k hk => EN_laws_heldAutomaton rfl ?_
  simp -implicitDefEqProofs (disch:=first|omega|(simp only[LnZ];omega))[wrap64]
  refine (c_heldIntS (k0 := k0) R1 (by omega) (by omega)).go ?_
  rintro _ _ ⟨rfl, rfl⟩
  by_cases m1 : Mk.wr (k0) x.init = x.init
  case neg =>
    rw [if_neg m1]
    simp -implicitDefEqProofs (disch:=first|omega|(simp only[LnZ];omega))[wrap64]
    refine RetK.keep (hk _ _ ⟨rfl, ?_⟩)
    rw [if_neg]
    intro he
    rw [hw] at he
    exact m1 (congrArg Aut.init he)
  rw [if_pos m1]
  simp -implicitDefEqProofs (disch:=first|omega|(simp only[LnZ];omega))[wrap64]
  rw [IteW_neg (by omega)]
  simp -implicitDefEqProofs (disch:=first|omega|(simp only[LnZ];omega))[wrap64]
  refine (c_heldBoolS (k0 := k0 + (Mk.cnt x.init : Nat)) R2 (by omega) (by omega)).go ?_
  rintro _ _ ⟨rfl, rfl⟩
  by_cases m2 : Mk.wr (k0 + (Mk.cnt x.init : Nat)) x.acc = x.acc
  case neg =>
    rw [if_neg m2]
    simp -implicitDefEqProofs (disch:=first|omega|(simp only[LnZ];omega))[wrap64]
    refine RetK.keep (hk _ _ ⟨rfl, ?_⟩)
    rw [if_neg]
    intro he
    rw [hw] at he
    exact m2 (congrArg Aut.acc he)
  rw [if_pos m2]
  simp -implicitDefEqProofs (disch:=first|omega|(simp only[LnZ];omega))[wrap64]
  rw [IteW_neg (by omega)]
  simp -implicitDefEqProofs (disch:=first|omega|(simp only[LnZ];omega))[wrap64]
  refine (c_heldTransitionS (k0 := k0 + (Mk.cnt x.init : Nat) + (Mk.cnt x.acc : Nat)) R3 (by omega) (by omega)).go ?_
  rintro _ _ ⟨rfl, rfl⟩
  by_cases m3 : Mk.wr (k0 + (Mk.cnt x.init : Nat) + (Mk.cnt x.acc : Nat)) x.edges = x.edges
  case neg =>
    rw [if_neg m3]
    simp -implicitDefEqProofs (disch:=first|omega|(simp only[LnZ];omega))[wrap64]
    refine RetK.keep (hk _ _ ⟨rfl, ?_⟩)
    rw [if_neg]
    intro he
    rw [hw] at he
    exact m3 (congrArg Aut.edges he)
  rw [if_pos m3]
  simp -implicitDefEqProofs (disch:=first|omega|(simp only[LnZ];omega))[wrap64]
  rw [IteW_neg (by omega)]
  simp -implicitDefEqProofs (disch:=first|omega|(simp only[LnZ];omega))[wrap64]
  refine RetK.keep (hk _ _ ⟨rfl, ?_⟩)
  rw [if_pos, hc]
  · congr 1; omega
  · rw [hw, m1, m2, m3]
end Go.Proofs.Ytbanccfdojgocaa

namespace Go.Proofs.Ytbanccfdojgocaa
open Go
theorem c_Clone_int {h : Heap} {a : Value} {x : List Int} (Ra : Rep h a x) (hs : x.length ≤ 1073741824) : CallE Try.prog fn_slices_Clone_S_int_int [a] h (fun v h' => HS h [ow v x] h') := by
  refine CallE.gen fun k hk => EN_slices_Clone_S_int_int rfl ?_
  obtain ⟨b, hb, hb2⟩ := Ra.isNil
  simp -implicitDefEqProofs (disch:=first|omega|(simp only[LnZ];omega))[wrap64, hb]
  refine IteW.mk (fun h1 => ?_) (fun h1 => ?_)
  · simp -implicitDefEqProofs (disch:=first|omega|(simp only[LnZ];omega))[wrap64]
    have h2 : x = [] := hb2 h1
    subst h2
    exact RetK.keep (hk _ _ HS.init.nil_ow)
  · simp -implicitDefEqProofs (disch:=first|omega|(simp only[LnZ];omega))[wrap64]
    refine HS.init.appPL (α := Int) (l2 := x) (u := a) rfl rfl Ra rfl rfl (by omega) fun v h1 H => ?_
    simp -implicitDefEqProofs (disch:=first|omega|(simp only[LnZ];omega))[wrap64]
    exact RetK.keep (hk _ _ H)
theorem c_Clip_int {g h : Heap} {Γ : List HP} {a : Value} {x : List Int} (H : HS g (ow a x :: Γ) h) : CallE Try.prog fn_slices_Clip_S_int_int [a] h (fun v h' => HS g (ow v x :: Γ) h') := by
  refine CallE.gen fun k hk => EN_slices_Clip_S_int_int rfl ?_
  obtain ⟨v', h1, h2⟩ := H.clip (esz := 1) (k := .i64)
  simp -implicitDefEqProofs (disch:=first|omega|(simp only[LnZ];omega))[wrap64, H.rep.I, h1]
  exact RetK.keep (hk _ _ h2)
theorem c_clone_int {h : Heap} {a : Value} {x : List Int} (Ra : Rep h a x) (hs : x.length ≤ 1073741824) : CallE Try.prog fn_impl_clone_int [a] h (fun v h' => HS h [ow v x] h') := by
  refine CallE.gen fun k hk => EN_impl_clone_int rfl ?_
  simp -implicitDefEqProofs (disch:=first|omega|(simp only[LnZ];omega))[wrap64]
  refine (c_Clone_int Ra hs).go ?_
  intro v h1 H
  simp -implicitDefEqProofs (disch:=first|omega|(simp only[LnZ];omega))[wrap64]
  refine (c_Clip_int H).go ?_
  intro v' h2 H
  simp -implicitDefEqProofs (disch:=first|omega|(simp only[LnZ];omega))[wrap64]
  exact RetK.keep (hk _ _ H)
theorem c_Clone_bool {h : Heap} {a : Value} {x : List Bool} (Ra : Rep h a x) (hs : x.length ≤ 1073741824) : CallE Try.prog fn_slices_Clone_S_bool_bool [a] h (fun v h' => HS h [ow v x] h') := by
  refine CallE.gen fun k hk => EN_slices_Clone_S_bool_bool rfl ?_
  obtain ⟨b, hb, hb2⟩ := Ra.isNil
  simp -implicitDefEqProofs (disch:=first|omega|(simp only[LnZ];omega))[wrap64, hb]
  refine IteW.mk (fun h1 => ?_) (fun h1 => ?_)
  · simp -implicitDefEqProofs (disch:=first|omega|(simp only[LnZ];omega))[wrap64]
    have h2 : x = [] := hb2 h1
    subst h2
    exact RetK.keep (hk _ _ HS.init.nil_ow)
  · simp -implicitDefEqProofs (disch:=first|omega|(simp only[LnZ];omega))[wrap64]
    refine HS.init.appPL (α := Bool) (l2 := x) (u := a) rfl rfl Ra rfl rfl (by omega) fun v h1 H => ?_
    simp -implicitDefEqProofs (disch:=first|omega|(simp only[LnZ];omega))[wrap64]
    exact RetK.keep (hk _ _ H)
theorem c_Clip_bool {g h : Heap} {Γ : List HP} {a : Value} {x : List Bool} (H : HS g (ow a x :: Γ) h) : CallE Try.prog fn_slices_Clip_S_bool_bool [a] h (fun v h' => HS g (ow v x :: Γ) h') := by
  refine CallE.gen fun k hk => EN_slices_Clip_S_bool_bool rfl ?_
  obtain ⟨v', h1, h2⟩ := H.clip (esz := 1) (k := .i64)
  simp -implicitDefEqProofs (disch:=first|omega|(simp only[LnZ];omega))[wrap64, H.rep.B, h1]
  exact RetK.keep (hk _ _ h2)
theorem c_clone_bool {h : Heap} {a : Value} {x : List Bool} (Ra : Rep h a x) (hs : x.length ≤ 1073741824) : CallE Try.prog fn_impl_clone_bool [a] h (fun v h' => HS h [ow v x] h') := by
  refine CallE.gen fun k hk => EN_impl_clone_bool rfl ?_
  simp -implicitDefEqProofs (disch:=first|omega|(simp only[LnZ];omega))[wrap64]
  refine (c_Clone_bool Ra hs).go ?_
  intro v h1 H
  simp -implicitDefEqProofs (disch:=first|omega|(simp only[LnZ];omega))[wrap64]
  refine (c_Clip_bool H).go ?_
  intro v' h2 H
  simp -implicitDefEqProofs (disch:=first|omega|(simp only[LnZ];omega))[wrap64]
  exact RetK.keep (hk _ _ H)
theorem c_Clone_impl_Transition {h : Heap} {a : Value} {x : List Tr} (Ra : Rep h a x) (hs : x.length ≤ 1073741824) : CallE Try.prog fn_slices_Clone_S_impl_Transition_impl_Transition [a] h (fun v h' => HS h [ow v x] h') := by
  refine CallE.gen fun k hk => EN_slices_Clone_S_impl_Transition_impl_Transition rfl ?_
  obtain ⟨b, hb, hb2⟩ := Ra.isNil
  simp -implicitDefEqProofs (disch:=first|omega|(simp only[LnZ];omega))[wrap64, hb]
  refine IteW.mk (fun h1 => ?_) (fun h1 => ?_)
  · simp -implicitDefEqProofs (disch:=first|omega|(simp only[LnZ];omega))[wrap64]
    have h2 : x = [] := hb2 h1
    subst h2
    exact RetK.keep (hk _ _ HS.init.nil_ow)
  · simp -implicitDefEqProofs (disch:=first|omega|(simp only[LnZ];omega))[wrap64]
    refine HS.init.appPL (α := Tr) (l2 := x) (u := a) rfl rfl Ra rfl rfl (by omega) fun v h1 H => ?_
    simp -implicitDefEqProofs (disch:=first|omega|(simp only[LnZ];omega))[wrap64]
    exact RetK.keep (hk _ _ H)
theorem c_Clip_impl_Transition {g h : Heap} {Γ : List HP} {a : Value} {x : List Tr} (H : HS g (ow a x :: Γ) h) : CallE Try.prog fn_slices_Clip_S_impl_Transition_impl_Transition [a] h (fun v h' => HS g (ow v x :: Γ) h') := by
  refine CallE.gen fun k hk => EN_slices_Clip_S_impl_Transition_impl_Transition rfl ?_
  obtain ⟨v', h1, h2⟩ := H.clip (esz := 4) (k := .i64)
  simp -implicitDefEqProofs (disch:=first|omega|(simp only[LnZ];omega))[wrap64, H.rep.xTr, h1]
  exact RetK.keep (hk _ _ h2)
theorem c_clone_impl_Transition {h : Heap} {a : Value} {x : List Tr} (Ra : Rep h a x) (hs : x.length ≤ 1073741824) : CallE Try.prog fn_impl_clone_impl_Transition [a] h (fun v h' => HS h [ow v x] h') := by
  refine CallE.gen fun k hk => EN_impl_clone_impl_Transition rfl ?_
  simp -implicitDefEqProofs (disch:=first|omega|(simp only[LnZ];omega))[wrap64]
  refine (c_Clone_impl_Transition Ra hs).go ?_
  intro v h1 H
  simp -implicitDefEqProofs (disch:=first|omega|(simp only[LnZ];omega))[wrap64]
  refine (c_Clip_impl_Transition H).go ?_
  intro v' h2 H
  simp -implicitDefEqProofs (disch:=first|omega|(simp only[LnZ];omega))[wrap64]
  exact RetK.keep (hk _ _ H)
theorem c_IndexFunc_impl_Transition {h : Heap} {a fv : Value} {x : List Tr} (Ra : Rep h a x) {f : FuncId} {c1 c2 : List Value} (hf : fnOf fv = some (f, c1, c2)) (p : Tr → Bool)
    (hp : ∀ h1, h.le h1 → ∀ (i : Nat) (hi : i < x.length) (u : Value), Rep h1 u x[i] → CallE Try.prog f (c1 ++ u :: c2) h1 (fun v h' => h1.le h' ∧ v = .bool (p x[i]))) :
    CallE Try.prog fn_slices_IndexFunc_S_impl_Transition_impl_Transition [a, fv] h (fun v h' => h.le h' ∧ v = .int .i64 (match x.findIdx? p with | some i => (i : Int) | none => -1)) := by
  refine CallE.gen fun k hk => EN_slices_IndexFunc_S_impl_Transition_impl_Transition rfl ?_
  have hL := Ra.lt
  simp -implicitDefEqProofs (disch:=first|omega|(simp only[LnZ];omega))[wrap64, Ra.len]
  refine wp_count x.length (fun i e h' => e = [some a, some fv, none, none, some (.int .i64 x.length), some (.int .i64 i)] ∧ h.le h' ∧ ∀ (j : Nat) (hj : j < x.length), j < i → p x[j] = false) ⟨rfl, Heap.le.refl h, fun j _ hj => absurd hj (Nat.not_lt_zero j)⟩ ?_
  rintro J i _ h1 hJ hi ⟨rfl, hl, hn⟩
  simp -implicitDefEqProofs (disch:=first|omega|(simp only[LnZ];omega))[wrap64]
  refine IteW.mk (fun hlt => ?_) (fun hge => ?_)
  · have hlx : i < x.length := by omega
    obtain ⟨u, hu, Ru⟩ := (Ra.le hl).ld hlx
    change hload _ (some (elp 4 a i)) (some 4) = some u at hu
    simp -implicitDefEqProofs (disch:=first|omega|(simp only[LnZ];omega))[wrap64, (Ra.le hl).X (n := 4) rfl, hu, hf]
    refine (hp h1 hl i hlx u Ru).go ?_
    rintro _ h2 ⟨hl2, rfl⟩
    simp -implicitDefEqProofs (disch:=first|omega|(simp only[LnZ];omega))[wrap64]
    refine IteW.mk (fun hq => ?_) (fun hq => ?_)
    · simp -implicitDefEqProofs (disch:=first|omega|(simp only[LnZ];omega))[wrap64]
      refine RetK.keep (hk _ _ ⟨hl.trans hl2, ?_⟩)
      have h3 : x.findIdx? p = some i := by
        rw [List.findIdx?_eq_some_iff_getElem]
        exact ⟨hlx, hq, fun j hj => by rw [hn j (by omega) hj]; simp⟩
      rw [h3]
    · simp -implicitDefEqProofs (disch:=first|omega|(simp only[LnZ];omega))[wrap64]
      refine hJ _ _ hlx ⟨rfl, hl.trans hl2, fun j hj hji => ?_⟩
      by_cases hji2 : j = i
      · subst hji2; simpa using hq
      · exact hn j hj (by omega)
  · simp -implicitDefEqProofs (disch:=first|omega|(simp only[LnZ];omega))[wrap64]
    refine RetK.keep (hk _ _ ⟨hl, ?_⟩)
    have h3 : x.findIdx? p = none := by
      rw [List.findIdx?_eq_none_iff]
      intro y hy
      obtain ⟨j, hj, rfl⟩ := List.mem_iff_getElem.1 hy
      exact hn j hj (by omega)
    rw [h3]
theorem c_ContainsFunc_impl_Transition {h : Heap} {a fv : Value} {x : List Tr} (Ra : Rep h a x) {f : FuncId} {c1 c2 : List Value} (hf : fnOf fv = some (f, c1, c2)) (p : Tr → Bool)
    (hp : ∀ h1, h.le h1 → ∀ (i : Nat) (hi : i < x.length) (u : Value), Rep h1 u x[i] → CallE Try.prog f (c1 ++ u :: c2) h1 (fun v h' => h1.le h' ∧ v = .bool (p x[i]))) :
    CallE Try.prog fn_slices_ContainsFunc_S_impl_Transition_impl_Transition [a, fv] h (fun v h' => h.le h' ∧ v = .bool (x.any p)) := by
  refine CallE.gen fun k hk => EN_slices_ContainsFunc_S_impl_Transition_impl_Transition rfl ?_
  simp -implicitDefEqProofs (disch:=first|omega|(simp only[LnZ];omega))[wrap64]
  refine (c_IndexFunc_impl_Transition Ra hf p hp).go ?_
  rintro _ h1 ⟨hl, rfl⟩
  simp -implicitDefEqProofs (disch:=first|omega|(simp only[LnZ];omega))[wrap64]
  refine RetK.keep (hk _ _ ⟨hl, ?_⟩)
  congr 1
  rw [← List.findIdx?_isSome]
  cases x.findIdx? p <;> simp
end Go.Proofs.Ytbanccfdojgocaa

namespace Go.Proofs.Ytbanccfdojgocaa
open Go
def incr (n : Int) : Int → List Int → Prop
  | _, [] => True
  | lo, x :: l => lo < x ∧ x < n ∧ incr n x l
instance decIncr (n : Int) : ∀ (lo : Int) (l : List Int), Decidable (incr n lo l)
  | _, [] => inferInstanceAs (Decidable True)
  | lo, x :: l => @instDecidableAnd _ _ _ (@instDecidableAnd _ _ _ (decIncr n x l))
theorem incr_len {n : Int} : ∀ {lo : Int} {l : List Int}, incr n lo l → lo < n → lo + l.length < n
  | lo, [], _, h => by simpa using h
  | lo, x :: l, h, _ => by
    have := incr_len h.2.2 h.2.1
    have := h.1
    simp; omega
theorem incr_mem {n : Int} : ∀ {lo : Int} {l : List Int}, incr n lo l → ∀ x ∈ l, lo < x ∧ x < n
  | lo, y :: l, h, x, hx => by
    rcases List.mem_cons.1 hx with rfl | hx
    · exact ⟨h.1, h.2.1⟩
    · have := incr_mem h.2.2 x hx
      have := h.1
      omega
def Tr.Ok (n : Int) (t : Tr) : Prop := 0 ≤ t.frm ∧ t.frm < n ∧ 0 ≤ t.to ∧ t.to < n ∧ 0 ≤ t.care ∧ t.care ≤ 7 ∧ 0 ≤ t.value ∧ andI .i64 t.value t.care = t.value
instance instDecTrOk (n : Int) (t : Tr) : Decidable (t.Ok n) := by unfold Tr.Ok; infer_instance
def Aut.Ok (a : Aut) : Prop := (1 ≤ a.acc.length ∧ a.acc.length ≤ 64) ∧ a.edges.length ≤ 2048 ∧ incr a.acc.length (-1) a.init ∧ ∀ t ∈ a.edges, t.Ok a.acc.length
instance instDecAutOk (a : Aut) : Decidable a.Ok := by unfold Aut.Ok; infer_instance
theorem Aut.Ok.n {a : Aut} (h : a.Ok) : 1 ≤ a.acc.length ∧ a.acc.length ≤ 64 := h.1
theorem Aut.Ok.e {a : Aut} (h : a.Ok) : a.edges.length ≤ 2048 := h.2.1
theorem Aut.Ok.i {a : Aut} (h : a.Ok) : incr a.acc.length (-1) a.init := h.2.2.1
theorem Aut.Ok.t {a : Aut} (h : a.Ok) {i : Nat} (hi : i < a.edges.length) : a.edges[i].Ok a.acc.length := h.2.2.2 _ (List.getElem_mem hi)
theorem Aut.Ok.il {a : Aut} (h : a.Ok) : a.init.length ≤ 64 := by
  have h1 := incr_len h.i (by have := h.n; omega)
  have := h.n
  omega
def Tr.on (t : Tr) (letter : Int) : Bool := decide (andI .i64 letter t.care = t.value)
def Tr.shift (n : Int) (t : Tr) : Tr := ⟨t.frm + n, t.care, t.value, t.to + n⟩
def Aut.empty : Aut := ⟨[], [], []⟩
abbrev Rl := Nat → Nat → Bool
def Ans (a : Aut) (R : Rl) (i j : Nat) : Prop := ∀ l : Nat, l < 8 → ∀ e ∈ a.edges, e.frm = i → e.on l = true → ∃ f ∈ a.edges, f.frm = j ∧ f.on l = true ∧ R e.to.toNat f.to.toNat = true
def AccR (a : Aut) (R : Rl) : Prop := ∀ i j, i < a.acc.length → j < a.acc.length → R i j = true → a.acc.getD i false = true → a.acc.getD j false = true
def Simu (a : Aut) (R : Rl) : Prop := AccR a R ∧ ∀ i j, i < a.acc.length → j < a.acc.length → R i j = true → Ans a R i j
def Upper (a : Aut) (R : Rl) : Prop := ∀ S, Simu a S → ∀ i j, i < a.acc.length → j < a.acc.length → S i j = true → R i j = true
structure Great (a : Aut) (R : Rl) : Prop where
  simu : Simu a R
  upper : Upper a R
def Rl.rem (R : Rl) (i j : Nat) : Rl := fun x y => R x y && !(decide (x = i) && decide (y = j))
theorem Rl.rem_le {R : Rl} {i j x y : Nat} (h : R.rem i j x y = true) : R x y = true := by
  simp only [Rl.rem, Bool.and_eq_true] at h; exact h.1
theorem Ans.mono {a : Aut} {R S : Rl} (ha : a.Ok) {i j : Nat} (hRS : ∀ x y, x < a.acc.length → y < a.acc.length → R x y = true → S x y = true) (h : Ans a R i j) : Ans a S i j := by
  intro l hl e he hi ho
  obtain ⟨f, hf, h1, h2, h3⟩ := h l hl e he hi ho
  have h4 := ha.2.2.2 e he
  have h5 := ha.2.2.2 f hf
  unfold Tr.Ok at h4 h5
  exact ⟨f, hf, h1, h2, hRS _ _ (by omega) (by omega) h3⟩
theorem Upper.rem {a : Aut} {R : Rl} (ha : a.Ok) (hR : Upper a R) {i j : Nat} (hn : ¬ Ans a R i j) : Upper a (R.rem i j) := by
  intro S hS x y hx hy h
  have h1 := hR S hS x y hx hy h
  by_cases hxy : x = i ∧ y = j
  · obtain ⟨rfl, rfl⟩ := hxy
    exact absurd ((hS.2 x y hx hy h).mono ha fun u v hu hv huv => hR S hS u v hu hv huv) hn
  · simp only [Rl.rem, h1, Bool.true_and, Bool.not_eq_true', Bool.and_eq_false_imp, decide_eq_true_eq, decide_eq_false_iff_not]
    exact fun h2 h3 => hxy ⟨h2, h3⟩
theorem AccR.rem {a : Aut} {R : Rl} (h : AccR a R) (i j : Nat) : AccR a (R.rem i j) := fun x y hx hy hr => h x y hx hy (Rl.rem_le hr)
theorem Great.congr {a : Aut} {R S : Rl} (ha : a.Ok) (h : Great a R) (he : ∀ x y, x < a.acc.length → y < a.acc.length → R x y = S x y) : Great a S :=
  ⟨⟨fun i j hi hj hr => h.simu.1 i j hi hj (by rw [he i j hi hj]; exact hr),
    fun i j hi hj hr => (h.simu.2 i j hi hj (by rw [he i j hi hj]; exact hr)).mono ha fun x y hx hy hxy => by rw [← he x y hx hy]; exact hxy⟩,
   fun T hT i j hi hj hr => by rw [← he i j hi hj]; exact h.upper T hT i j hi hj hr⟩
def cnt2 (n : Nat) (R : Rl) : Nat := ((List.range n).map fun i => ((List.range n).filter fun j => R i j).length).sum
theorem sum_lt_of {α : Type} {f g : α → Nat} : ∀ {l : List α}, (∀ x ∈ l, f x ≤ g x) → (∃ x ∈ l, f x < g x) → (l.map f).sum < (l.map g).sum
  | [], _, h => by obtain ⟨x, hx, _⟩ := h; simp at hx
  | y :: l, h, ⟨x, hx, hlt⟩ => by
    have hy := h y (by simp)
    have hle : (l.map f).sum ≤ (l.map g).sum := by
      have : ∀ l : List α, (∀ x ∈ l, f x ≤ g x) → (l.map f).sum ≤ (l.map g).sum := by
        intro l
        induction l with
        | nil => simp
        | cons z l ih =>
          intro h
          have h1 := h z (by simp)
          have h2 := ih fun x hx => h x (by simp [hx])
          simp; omega
      exact this l fun x hx => h x (by simp [hx])
    rcases List.mem_cons.1 hx with rfl | hx
    · simp; omega
    · have := sum_lt_of (l := l) (fun x hx => h x (by simp [hx])) ⟨x, hx, hlt⟩
      simp; omega
theorem filter_le_of {α : Type} {p q : α → Bool} (h : ∀ x, p x = true → q x = true) : ∀ l : List α, (l.filter p).length ≤ (l.filter q).length
  | [] => by simp
  | x :: l => by
    have := filter_le_of h l
    cases hp : p x
    · cases hq : q x <;> simp [List.filter_cons, hp, hq] <;> omega
    · simp [List.filter_cons, hp, h x hp]; omega
theorem filter_lt_of {α : Type} {p q : α → Bool} (h : ∀ x, p x = true → q x = true) : ∀ {l : List α}, (∃ x ∈ l, p x = false ∧ q x = true) → (l.filter p).length < (l.filter q).length
  | [], hx => by obtain ⟨x, hx, _⟩ := hx; simp at hx
  | y :: l, ⟨x, hx, h1, h2⟩ => by
    rcases List.mem_cons.1 hx with rfl | hx
    · have := filter_le_of h l
      simp [List.filter_cons, h1, h2]; omega
    · have := filter_lt_of h (l := l) ⟨x, hx, h1, h2⟩
      cases hp : p y
      · cases hq : q y <;> simp [List.filter_cons, hp, hq] <;> omega
      · simp [List.filter_cons, hp, h y hp]; omega
theorem cnt2_rem {n : Nat} {R : Rl} {i j : Nat} (hi : i < n) (hj : j < n) (h : R i j = true) : cnt2 n (R.rem i j) < cnt2 n R := by
  refine sum_lt_of ?_ ⟨i, by simpa using hi, ?_⟩
  · intro x _
    exact filter_le_of (fun y hy => Rl.rem_le hy) _
  · exact filter_lt_of (fun y hy => Rl.rem_le hy) ⟨j, by simpa using hj, by simp [Rl.rem], h⟩
structure Pass (a : Aut) (R0 R : Rl) (c : Bool) (i j : Nat) : Prop where
  acc : AccR a R
  upper : Upper a R
  less : c = true → cnt2 a.acc.length R < cnt2 a.acc.length R0
  same : c = false → R = R0 ∧ ∀ x y, x < a.acc.length → y < a.acc.length → (x < i ∨ (x = i ∧ y < j)) → R x y = true → Ans a R x y
theorem Pass.start {a : Aut} {R : Rl} (h1 : AccR a R) (h2 : Upper a R) : Pass a R R false 0 0 := ⟨h1, h2, by simp, fun _ => ⟨rfl, fun x y _ _ h => by omega⟩⟩
theorem Pass.keep {a : Aut} {R0 R : Rl} {c : Bool} {i j : Nat} (h : Pass a R0 R c i j) (hk : R i j = true → Ans a R i j) : Pass a R0 R c i (j + 1) :=
  ⟨h.acc, h.upper, h.less, fun hc => ⟨(h.same hc).1, fun x y hx hy hxy hr => by
    by_cases h2 : x = i ∧ y = j
    · obtain ⟨rfl, rfl⟩ := h2; exact hk hr
    · exact (h.same hc).2 x y hx hy (by omega) hr⟩⟩
theorem Pass.rem {a : Aut} {R0 R : Rl} {c : Bool} {i j : Nat} (ha : a.Ok) (h : Pass a R0 R c i j) (hi : i < a.acc.length) (hj : j < a.acc.length) (hr : R i j = true) (hn : ¬ Ans a R i j) : Pass a R0 (R.rem i j) true i (j + 1) :=
  ⟨h.acc.rem i j, h.upper.rem ha hn, fun _ => by
    have h1 := cnt2_rem hi hj hr
    cases hc : c
    · rw [← (h.same hc).1]; exact h1
    · exact Nat.lt_trans h1 (h.less hc), by simp⟩
theorem Pass.next {a : Aut} {R0 R : Rl} {c : Bool} {i j : Nat} (h : Pass a R0 R c i j) (hj : a.acc.length ≤ j) : Pass a R0 R c (i + 1) 0 :=
  ⟨h.acc, h.upper, h.less, fun hc => ⟨(h.same hc).1, fun x y hx hy hxy hr => (h.same hc).2 x y hx hy (by omega) hr⟩⟩
theorem Pass.done {a : Aut} {R0 R : Rl} {i j : Nat} (h : Pass a R0 R false i j) (hi : a.acc.length ≤ i) : Great a R :=
  ⟨⟨h.acc, fun x y hx hy hr => (h.same rfl).2 x y hx hy (by omega) hr⟩, h.upper⟩
end Go.Proofs.Ytbanccfdojgocaa

namespace Go.Proofs.Ytbanccfdojgocaa
open Go
theorem empty_ow {g h : Heap} {Γ : List HP} (H : HS g Γ h) : HS g (ow (.agg #[.slice none 0 0, .slice none 0 0, .slice none 0 0]) Aut.empty :: Γ) h :=
  HS.mkAut (a := Aut.empty) H.nil_ow.nil_ow.nil_ow
theorem c_copyOf {h : Heap} {v : Value} {a : Aut} (Ra : Rep h v a) (h1 : a.init.length ≤ 1073741824) (h2 : a.acc.length ≤ 1073741824) (h3 : a.edges.length ≤ 1073741824) : CallE Try.prog fn_impl_Automaton_copyOf [v] h (fun v h' => HS h [ow v a] h') := by
  obtain ⟨v1, v2, v3, rfl, R1, R2, R3⟩ := Rep_Aut.1 Ra
  refine CallE.gen fun k hk => EN_impl_Automaton_copyOf rfl ?_
  simp -implicitDefEqProofs (disch:=first|omega|(simp only[LnZ];omega))[wrap64]
  refine (c_clone_int R1 h1).go ?_
  intro u1 m1 H
  simp -implicitDefEqProofs (disch:=first|omega|(simp only[LnZ];omega))[wrap64]
  refine (c_clone_bool (R2.on H) h2).go ?_
  intro u2 m2 H2
  have H := H2.app H
  simp -implicitDefEqProofs (disch:=first|omega|(simp only[LnZ];omega))[wrap64]
  refine (c_clone_impl_Transition (R3.on H) h3).go ?_
  intro u3 m3 H3
  have H := H3.app H
  simp -implicitDefEqProofs (disch:=first|omega|(simp only[LnZ];omega))[wrap64, H.rep.cells, H.rep.one, H.sw1.rep.cells, H.sw1.rep.one, H.sw2.rep.cells, H.sw2.rep.one, setC]
  exact RetK.keep (hk _ _ (HS.mkAut H.sw1.sw2))
theorem c_in {h : Heap} {n lo hi : Int} : CallE Try.prog fn_impl_in [.int .i64 n, .int .i64 lo, .int .i64 hi] h (fun u h' => h' = h ∧ u = .bool (decide (lo ≤ n ∧ n ≤ hi))) := by
  refine CallE.gen fun k hk => EN_impl_in rfl ?_
  by_cases h1 : lo ≤ n
  · simp -implicitDefEqProofs (disch:=first|omega|(simp only[LnZ];omega))[wrap64, h1]
    exact RetK.keep (hk _ _ ⟨rfl, by simp [h1]⟩)
  · simp -implicitDefEqProofs (disch:=first|omega|(simp only[LnZ];omega))[wrap64, h1]
    exact RetK.keep (hk _ _ ⟨rfl, by simp [h1]⟩)
end Go.Proofs.Ytbanccfdojgocaa

namespace Go.Proofs.Ytbanccfdojgocaa
open Go
theorem i64_toInt (x : BitVec 64) : IntKind.i64.wrap (x.toNat : Int) = x.toInt := by
  rw [IntKind.wrap_i64, BitVec.toInt_eq_toNat_bmod, Int.bmod_def]
  have := x.isLt
  split <;> omega
theorem ofInt_toInt {v : Int} (h1 : -9223372036854775808 ≤ v) (h2 : v < 9223372036854775808) : (BitVec.ofInt 64 v).toInt = v := by
  rw [BitVec.toInt_ofInt, Int.bmod_def]; split <;> omega
theorem bits_in {v c : Int} (h1 : -9223372036854775808 ≤ v) (h2 : v < 9223372036854775808) : andNotI .i64 v c = 0 ↔ andI .i64 v c = v := by
  show IntKind.i64.wrap ((BitVec.ofInt 64 v &&& ~~~ BitVec.ofInt 64 c).toNat : Int) = 0 ↔ IntKind.i64.wrap ((BitVec.ofInt 64 v &&& BitVec.ofInt 64 c).toNat : Int) = v
  have hv := ofInt_toInt h1 h2
  rw [i64_toInt, i64_toInt]
  generalize BitVec.ofInt 64 v = x at *
  generalize BitVec.ofInt 64 c = y at *
  subst hv
  rw [BitVec.toInt_inj, show (0 : Int) = (0#64).toInt from rfl, BitVec.toInt_inj]
  constructor
  · intro h
    apply BitVec.eq_of_getLsbD_eq
    intro i hi
    have h3 := congrArg (fun z => z.getLsbD i) h
    simp only [BitVec.getLsbD_and, BitVec.getLsbD_not, hi, decide_true, Bool.true_and, BitVec.getLsbD_zero] at h3
    rw [BitVec.getLsbD_and]
    cases h4 : x.getLsbD i <;> cases h5 : y.getLsbD i <;> simp_all
  · intro h
    apply BitVec.eq_of_getLsbD_eq
    intro i hi
    have h3 := congrArg (fun z => z.getLsbD i) h
    simp only [BitVec.getLsbD_and] at h3
    rw [BitVec.getLsbD_and, BitVec.getLsbD_not, BitVec.getLsbD_zero]
    cases h4 : x.getLsbD i <;> cases h5 : y.getLsbD i <;> simp_all
theorem c_AutomatonValid_1 {h : Heap} {v : Value} {t : Tr} (Rt : Rep h v t) {b : Nat} {n : Int} (hn : 1 ≤ n ∧ n < 4611686018427387904) (hb : hload h (some (.pointer (some ⟨b, 0, none⟩))) none = some (.int .i64 n)) :
    CallE Try.prog fn_impl_AutomatonValid_1 [v, .pointer (some ⟨b, 0, none⟩)] h (fun u h' => h' = h ∧ u = .bool (!decide (t.Ok n))) := by
  have ht := (Rep_Tr.1 Rt).2
  rw [(Rep_Tr.1 Rt).1]
  have e0 := ht.value
  refine CallE.gen fun k hk => EN_impl_AutomatonValid_1 rfl ?_
  simp -implicitDefEqProofs (disch:=first|omega|(simp only[LnZ];omega))[wrap64, Tr.v, hb]
  refine c_in.go ?_
  rintro _ _ ⟨rfl, rfl⟩
  by_cases h1 : 0 ≤ t.frm ∧ t.frm ≤ n - 1
  case neg =>
    simp -implicitDefEqProofs (disch:=first|omega|(simp only[LnZ];omega))[wrap64, h1]
    have hno : ¬ t.Ok n := fun ho => h1 (by unfold Tr.Ok at ho; omega)
    exact RetK.keep (hk _ _ ⟨rfl, by simp [hno]⟩)
  simp -implicitDefEqProofs (disch:=first|omega|(simp only[LnZ];omega))[wrap64, h1, hb]
  refine c_in.go ?_
  rintro _ _ ⟨rfl, rfl⟩
  by_cases h2 : 0 ≤ t.to ∧ t.to ≤ n - 1
  case neg =>
    simp -implicitDefEqProofs (disch:=first|omega|(simp only[LnZ];omega))[wrap64, h2]
    have hno : ¬ t.Ok n := fun ho => h2 (by unfold Tr.Ok at ho; omega)
    exact RetK.keep (hk _ _ ⟨rfl, by simp [hno]⟩)
  simp -implicitDefEqProofs (disch:=first|omega|(simp only[LnZ];omega))[wrap64, h2]
  refine c_in.go ?_
  rintro _ _ ⟨rfl, rfl⟩
  by_cases h3 : 0 ≤ t.care ∧ t.care ≤ 7
  case neg =>
    simp -implicitDefEqProofs (disch:=first|omega|(simp only[LnZ];omega))[wrap64, h3]
    have hno : ¬ t.Ok n := fun ho => h3 (by unfold Tr.Ok at ho; omega)
    exact RetK.keep (hk _ _ ⟨rfl, by simp [hno]⟩)
  by_cases h4 : t.value < 0
  case pos =>
    simp -implicitDefEqProofs (disch:=first|omega|(simp only[LnZ];omega))[wrap64, h3, h4]
    have hno : ¬ t.Ok n := fun ho => by unfold Tr.Ok at ho; omega
    exact RetK.keep (hk _ _ ⟨rfl, by simp [hno]⟩)
  simp -implicitDefEqProofs (disch:=first|omega|(simp only[LnZ];omega))[wrap64, h3, h4]
  refine RetK.keep (hk _ _ ⟨rfl, ?_⟩)
  have h5 := bits_in (c := t.care) e0.1 e0.2
  by_cases h6 : andNotI .i64 t.value t.care = 0
  · have hyes : t.Ok n := ⟨by omega, by omega, by omega, by omega, by omega, by omega, by omega, h5.1 h6⟩
    simp [h6, hyes]
  · have hno : ¬ t.Ok n := fun h => h6 (h5.2 h.2.2.2.2.2.2.2)
    simp [h6, hno]
theorem drop_cons {α : Type} {l : List α} {i : Nat} (hi : i < l.length) : l.drop i = l[i] :: l.drop (i + 1) := List.drop_eq_getElem_cons hi
theorem incr_cons {n lo x : Int} {l : List Int} : incr n lo (x :: l) ↔ lo < x ∧ x < n ∧ incr n x l := Iff.rfl
theorem c_AutomatonValid {h : Heap} {v : Value} {a : Aut} (Ra : Rep h v a) : CallE Try.prog fn_impl_AutomatonValid [v] h (fun u h' => h.le h' ∧ u = .bool (decide a.Ok)) := by
  obtain ⟨v1, v2, v3, rfl, R1, R2, R3⟩ := Rep_Aut.1 Ra
  refine CallE.gen fun k hk => EN_impl_AutomatonValid rfl ?_
  have l1 := R1.lt
  have l2 := R2.lt
  simp -implicitDefEqProofs (disch:=first|omega|(simp only[LnZ];omega))[wrap64, R1.len, R2.len, R3.len]
  refine HS.init.alloc rfl fun b h1 H => ?_
  simp -implicitDefEqProofs (disch:=first|omega|(simp only[LnZ];omega))[wrap64]
  refine H.bxst (u := .int .i64 a.acc.length) rfl rfl rfl rfl (by simp) fun h2 H => ?_
  simp only [setC, cells_int, List.take_zero, List.nil_append] at H
  simp -implicitDefEqProofs (disch:=first|omega|(simp only[LnZ];omega))[wrap64, R1.len, R2.len, R3.len]
  have H : HS h [bx b [.int .i64 a.acc.length]] h2 := H
  refine wp_count a.init.length (fun i e h' => h' = h2 ∧ ∃ last : Int, e = [none, some (.agg #[v1, v2, v3]), none, some (.pointer (some ⟨b, 0, none⟩)), some (.int .i64 last), none, some v1, some (.int .i64 a.init.length), some (.int .i64 i)] ∧
      -1 ≤ last ∧ last < 4611686018427387904 ∧ (incr a.acc.length (-1) a.init ↔ incr a.acc.length last (a.init.drop i))) ⟨rfl, -1, rfl, by omega, by omega, by simp⟩ ?_
  rintro J i _ _ hJ hi ⟨rfl, last, rfl, hl1, hl2, hin⟩
  simp -implicitDefEqProofs (disch:=first|omega|(simp only[LnZ];omega))[wrap64]
  refine IteW.mk (fun hlt => ?_) (fun hge => ?_)
  · have hlx : i < a.init.length := by omega
    simp -implicitDefEqProofs (disch:=first|omega|(simp only[LnZ];omega))[wrap64, (R1.on H).I, H.bxld0]
    refine c_in.go ?_
    rintro _ _ ⟨rfl, rfl⟩
    simp -implicitDefEqProofs (disch:=first|omega|(simp only[LnZ];omega))[wrap64]
    rw [drop_cons hlx, incr_cons] at hin
    refine IteW.mk (fun hn => ?_) (fun hn => ?_)
    · simp -implicitDefEqProofs (disch:=first|omega|(simp only[LnZ];omega))[wrap64]
      refine RetK.keep (hk _ _ ⟨H.base, ?_⟩)
      have : ¬ a.Ok := by
        intro ho
        have := hin.1 ho.i
        omega
      simp [this]
    · simp -implicitDefEqProofs (disch:=first|omega|(simp only[LnZ];omega))[wrap64]
      exact hJ _ _ hlx ⟨rfl, _, rfl, by omega, by omega, hin.trans ⟨fun h => h.2.2, fun h => ⟨by omega, by omega, h⟩⟩⟩
  · simp -implicitDefEqProofs (disch:=first|omega|(simp only[LnZ];omega))[wrap64, H.bxld0]
    have hin : incr a.acc.length (-1) a.init := hin.2 (by rw [List.drop_eq_nil_of_le (by omega)]; trivial)
    refine c_in.go ?_
    rintro _ _ ⟨rfl, rfl⟩
    by_cases hn : 1 ≤ (a.acc.length : Int) ∧ (a.acc.length : Int) ≤ 64
    case neg =>
      simp -implicitDefEqProofs (disch:=first|omega|(simp only[LnZ];omega))[wrap64, hn]
      refine RetK.keep (hk _ _ ⟨H.base, ?_⟩)
      have : ¬ a.Ok := fun ho => hn (by have := ho.n; omega)
      simp [this]
    by_cases he : (a.edges.length : Int) ≤ 2048
    case neg =>
      simp -implicitDefEqProofs (disch:=first|omega|(simp only[LnZ];omega))[wrap64, hn, he, R3.len]
      refine RetK.keep (hk _ _ ⟨H.base, ?_⟩)
      have : ¬ a.Ok := fun ho => he (by have := ho.e; omega)
      simp [this]
    simp -implicitDefEqProofs (disch:=first|omega|(simp only[LnZ];omega))[wrap64, hn, he, R3.len]
    refine (c_ContainsFunc_impl_Transition (R3.on H) (c1 := []) (fnOf_func) (fun t => !decide (t.Ok a.acc.length)) ?_).go ?_
    · intro h3 hl j hj u Ru
      exact (c_AutomatonValid_1 Ru (by omega) (hload_le hl H.bxld0)).to fun _ _ ⟨h4, h5⟩ => ⟨h4 ▸ Heap.le.refl _, h5⟩
    · rintro _ h3 ⟨hl, rfl⟩
      simp -implicitDefEqProofs (disch:=first|omega|(simp only[LnZ];omega))[wrap64]
      refine RetK.keep (hk _ _ ⟨H.base.trans hl, ?_⟩)
      congr 1
      have hnn : 1 ≤ a.acc.length ∧ a.acc.length ≤ 64 := by omega
      have hee : a.edges.length ≤ 2048 := by omega
      simp only [Aut.Ok, hnn, hee, hin, true_and]
      rw [Bool.eq_iff_iff]
      simp
end Go.Proofs.Ytbanccfdojgocaa

namespace Go.Proofs.Ytbanccfdojgocaa
open Go
def opn (k : Int) : Int := if k = 1 ∨ k = 2 then 0 else if k = 4 ∨ k = 5 ∨ k = 7 ∨ k = 8 then 2 else 1
theorem opn_eq {k : Int} (h : 1 ≤ k ∧ k ≤ 10) : opn k = Fm.arity k := by
  unfold opn Fm.arity
  by_cases h1 : k = 1 ∨ k = 2
  · rw [if_pos h1, if_pos h1]
  · rw [if_neg h1, if_neg h1]
    by_cases h2 : k = 4 ∨ k = 5 ∨ k = 7 ∨ k = 8
    · rw [if_pos h2, if_neg (by omega), if_pos h2]
    · rw [if_neg h2, if_pos (by omega)]
theorem c_operands {h : Heap} {k0 : Int} : CallE Try.prog fn_impl_operands [.int .i64 k0] h (fun u h' => h' = h ∧ u = .int .i64 (opn k0)) := by
  refine CallE.gen fun k hk => EN_impl_operands rfl ?_
  by_cases h1 : k0 = 1
  · simp -implicitDefEqProofs (disch:=first|omega|(simp only[LnZ];omega))[wrap64, h1]
    exact RetK.keep (hk _ _ ⟨rfl, by subst h1; rfl⟩)
  by_cases h2 : k0 = 2
  · simp -implicitDefEqProofs (disch:=first|omega|(simp only[LnZ];omega))[wrap64, h1, h2]
    exact RetK.keep (hk _ _ ⟨rfl, by subst h2; rfl⟩)
  by_cases h4 : k0 = 4
  · simp -implicitDefEqProofs (disch:=first|omega|(simp only[LnZ];omega))[wrap64, h1, h2, h4]
    exact RetK.keep (hk _ _ ⟨rfl, by subst h4; rfl⟩)
  by_cases h5 : k0 = 5
  · simp -implicitDefEqProofs (disch:=first|omega|(simp only[LnZ];omega))[wrap64, h1, h2, h4, h5]
    exact RetK.keep (hk _ _ ⟨rfl, by subst h5; rfl⟩)
  by_cases h7 : k0 = 7
  · simp -implicitDefEqProofs (disch:=first|omega|(simp only[LnZ];omega))[wrap64, h1, h2, h4, h5, h7]
    exact RetK.keep (hk _ _ ⟨rfl, by subst h7; rfl⟩)
  by_cases h8 : k0 = 8
  · simp -implicitDefEqProofs (disch:=first|omega|(simp only[LnZ];omega))[wrap64, h1, h2, h4, h5, h7, h8]
    exact RetK.keep (hk _ _ ⟨rfl, by subst h8; rfl⟩)
  simp -implicitDefEqProofs (disch:=first|omega|(simp only[LnZ];omega))[wrap64, h1, h2, h4, h5, h7, h8]
  exact RetK.keep (hk _ _ ⟨rfl, by congr 1; unfold opn; rw [if_neg (by omega), if_neg (by omega)]⟩)
def WalkQ (g : Heap) (Γ : List HP) (b n m : Nat) (x : Exq) (neg : Bool) (v : Value) (h' : Heap) : Prop :=
  ∃ (n' : Nat) (ok : Bool), v = .bool (ok != neg) ∧ HS g (bx b [.int .i64 n'] :: Γ) h' ∧ (ok = true ↔ Fm.Shp m x ∧ n + x.nod ≤ 12) ∧ (ok = true → n' = n + x.nod)
theorem c_IndexFunc_walk {g h : Heap} {Γ : List HP} {a fv : Value} {l : List Exq} {b n m : Nat} (Ra : Rep g a l) {f : FuncId} {c1 c2 : List Value} (hf : fnOf fv = some (f, c1, c2)) (H : HS g (bx b [.int .i64 n] :: Γ) h) (hn : n ≤ 12)
    (hp : ∀ (i : Nat) (hi : i < l.length) (u : Value) (n : Nat) (h1 : Heap), Rep g u l[i] → HS g (bx b [.int .i64 n] :: Γ) h1 → n ≤ 12 → CallE Try.prog f (c1 ++ u :: c2) h1 (WalkQ g Γ b n m l[i] true)) :
    CallE Try.prog fn_slices_IndexFunc_S_impl_Formula_impl_Formula [a, fv] h (fun v h' => ∃ (n' : Nat) (j : Int), v = .int .i64 j ∧ HS g (bx b [.int .i64 n'] :: Γ) h' ∧ (j < 0 ↔ (∀ y ∈ l, Fm.Shp m y) ∧ n + Exq.nods l ≤ 12) ∧ (j < 0 → n' = n + Exq.nods l)) := by
  refine CallE.gen fun k hk => EN_slices_IndexFunc_S_impl_Formula_impl_Formula rfl ?_
  have hL := Ra.lt
  simp -implicitDefEqProofs (disch:=first|omega|(simp only[LnZ];omega))[wrap64, Ra.len]
  refine wp_count l.length (fun i e h' => e = [some a, some fv, none, none, some (.int .i64 l.length), some (.int .i64 i)] ∧ HS g (bx b [.int .i64 ((n + Exq.nods (l.take i) : Nat) : Int)] :: Γ) h' ∧ n + Exq.nods (l.take i) ≤ 12 ∧ ∀ (j : Nat) (hj : j < l.length), j < i → Fm.Shp m l[j]) ⟨rfl, by simpa [Exq.nods] using H, by simpa [Exq.nods] using hn, fun j _ hj => absurd hj (Nat.not_lt_zero j)⟩ ?_
  clear H
  rintro J i _ h1 hJ hi ⟨rfl, H, hle, hall⟩
  simp -implicitDefEqProofs (disch:=first|omega|(simp only[LnZ];omega))[wrap64]
  refine IteW.mk (fun hlt => ?_) (fun hge => ?_)
  · have hlx : i < l.length := by omega
    have hnt := Exq.nods_take hlx
    have hnl := Exq.nods_le l (i + 1)
    obtain ⟨u, hu, Ru⟩ := Ra.ld hlx
    have hu2 := hload_le H.base hu
    change hload _ (some (elp 3 a i)) (some 3) = some u at hu2
    simp -implicitDefEqProofs (disch:=first|omega|(simp only[LnZ];omega))[wrap64, Ra.X (n := 3) rfl, hu2, hf]
    refine (hp i hlx u _ h1 Ru H hle).go ?_
    rintro _ h2 ⟨n', ok, rfl, H, hok, hn'⟩
    simp -implicitDefEqProofs (disch:=first|omega|(simp only[LnZ];omega))[wrap64]
    refine IteW.mk (fun hq => ?_) (fun hq => ?_)
    · simp -implicitDefEqProofs (disch:=first|omega|(simp only[LnZ];omega))[wrap64]
      refine RetK.keep (hk _ _ ⟨n', _, rfl, H, ⟨fun hh => absurd hh (by omega), fun ⟨e1, e2⟩ => ?_⟩, fun hh => absurd hh (by omega)⟩)
      have : ok = true := hok.2 ⟨e1 _ (List.getElem_mem hlx), by omega⟩
      rw [this] at hq
      simp at hq
    · have hok1 : ok = true := by simpa using hq
      have e1 := hok.1 hok1
      have e2 := hn' hok1
      subst e2
      simp -implicitDefEqProofs (disch:=first|omega|(simp only[LnZ];omega))[wrap64]
      refine hJ _ _ hlx ⟨rfl, ?_, by omega, fun j hj hji => ?_⟩
      · rw [hnt, ← Nat.add_assoc]; exact H
      · by_cases hji2 : j = i
        · subst hji2; exact e1.1
        · exact hall j hj (by omega)
  · simp -implicitDefEqProofs (disch:=first|omega|(simp only[LnZ];omega))[wrap64]
    rw [List.take_of_length_le (by omega)] at H hle
    refine RetK.keep (hk _ _ ⟨_, _, rfl, H, ⟨fun _ => ⟨fun y hy => ?_, hle⟩, fun _ => by omega⟩, fun _ => rfl⟩)
    obtain ⟨j, hj, rfl⟩ := List.mem_iff_getElem.1 hy
    exact hall j hj (by omega)
theorem c_ContainsFunc_walk {g h : Heap} {Γ : List HP} {a fv : Value} {l : List Exq} {b n m : Nat} (Ra : Rep g a l) {f : FuncId} {c1 c2 : List Value} (hf : fnOf fv = some (f, c1, c2)) (H : HS g (bx b [.int .i64 n] :: Γ) h) (hn : n ≤ 12)
    (hp : ∀ (i : Nat) (hi : i < l.length) (u : Value) (n : Nat) (h1 : Heap), Rep g u l[i] → HS g (bx b [.int .i64 n] :: Γ) h1 → n ≤ 12 → CallE Try.prog f (c1 ++ u :: c2) h1 (WalkQ g Γ b n m l[i] true)) :
    CallE Try.prog fn_slices_ContainsFunc_S_impl_Formula_impl_Formula [a, fv] h (fun v h' => ∃ (n' : Nat) (ok : Bool), v = .bool (!ok) ∧ HS g (bx b [.int .i64 n'] :: Γ) h' ∧ (ok = true ↔ (∀ y ∈ l, Fm.Shp m y) ∧ n + Exq.nods l ≤ 12) ∧ (ok = true → n' = n + Exq.nods l)) := by
  refine CallE.gen fun k hk => EN_slices_ContainsFunc_S_impl_Formula_impl_Formula rfl ?_
  simp -implicitDefEqProofs (disch:=first|omega|(simp only[LnZ];omega))[wrap64]
  refine (c_IndexFunc_walk Ra hf H hn hp).go ?_
  rintro _ h1 ⟨n', j, rfl, H, hj, hn'⟩
  simp -implicitDefEqProofs (disch:=first|omega|(simp only[LnZ];omega))[wrap64]
  refine RetK.keep (hk _ _ ⟨n', decide (j < 0), ?_, H, by rw [decide_eq_true_iff]; exact hj, by rw [decide_eq_true_iff]; exact hn'⟩)
  congr 1
  by_cases e : j < 0
  · simp [e]
  · simp [e]; omega
theorem c_walk : ∀ (x : Exq) {g h : Heap} {Γ : List HP} {v : Value} {b n d : Nat} {dv : Int}, dv = d → Rep g v x → HS g (bx b [.int .i64 n] :: Γ) h → n ≤ 12 → 1 ≤ d → d ≤ 7 →
    CallE Try.prog fn_impl_Formula_walk [v, .int .i64 dv, .pointer (some ⟨b, 0, none⟩)] h (WalkQ g Γ b n (7 - d) x false) := by
  refine Exq.ind fun x ih g h Γ v b n d dv hdv R H hn hd1 hd7 => ?_
  obtain ⟨w, rfl, k1, k2, R1⟩ := Rep_Exq.1 R
  have hnod := x.nod_eq
  have hkl := R1.lt
  obtain ⟨ln, hln⟩ : ∃ ln : Int, ln = x.kids.length := ⟨_, rfl⟩
  have hlen := R1.len
  rw [← hln] at hlen
  refine CallE.gen fun k hk => EN_impl_Formula_walk rfl ?_
  simp -implicitDefEqProofs (disch:=first|omega|(simp only[LnZ];omega))[wrap64]
  refine H.alloc rfl fun b4 h1 H => ?_
  simp -implicitDefEqProofs (disch:=first|omega|(simp only[LnZ];omega))[wrap64]
  refine H.alloc rfl fun b5 h2 H => ?_
  simp only [cells_int, cells_pointer] at H
  simp -implicitDefEqProofs (disch:=first|omega|(simp only[LnZ];omega))[wrap64, H.bxld0, H.sw2.bxld0]
  refine HS.bxst (o := 0) (sz := 1) (u := .int .i64 ((n : Int) + 1)) H.sw2 rfl rfl rfl rfl (by simp) fun h3 H => ?_
  have H : HS g (bx b [.int .i64 ((n + 1 : Nat) : Int)] :: bx b5 [.pointer (some ⟨b, 0, none⟩)] :: bx b4 [.int .i64 dv] :: Γ) h3 := H
  -- what is wanted where it fails
  have hno : ¬ (Fm.Shp (7 - d) x ∧ n + x.nod ≤ 12) → k (.bool false) h3 := fun hh => hk _ _ ⟨_, false, rfl, H.sw1.drop.sw1.drop, ⟨fun e => by simp at e, fun e => absurd e hh⟩, fun e => by simp at e⟩
  -- and where the operands were asked
  have hfin : Fm.Nd x → d ≤ 6 → ∀ {h4 : Heap} {n' : Nat} {ok : Bool}, (ok = true ↔ (∀ y ∈ x.kids, Fm.Shp (6 - d) y) ∧ n + 1 + Exq.nods x.kids ≤ 12) → (ok = true → n' = n + 1 + Exq.nods x.kids) →
      HS g (bx b [.int .i64 n'] :: bx b5 [.pointer (some ⟨b, 0, none⟩)] :: bx b4 [.int .i64 dv] :: Γ) h4 → k (.bool ok) h4 := by
    intro hnd hd6 h4 n' ok g1 g2 H4
    refine hk _ _ ⟨n', ok, by simp, H4.sw1.drop.sw1.drop, ?_, fun e => by have := g2 e; omega⟩
    rw [g1, show 7 - d = (6 - d) + 1 by omega]
    exact ⟨fun ⟨h5, h6⟩ => ⟨⟨hnd, h5⟩, by omega⟩, fun ⟨h5, h6⟩ => ⟨h5.2, by omega⟩⟩
  -- an operand
  have hkid : d ≤ 6 → ∀ (i : Nat) (hi : i < x.kids.length) (u : Value) (n : Nat) (h1 : Heap), Rep g u x.kids[i] → HS g (bx b [.int .i64 n] :: bx b5 [.pointer (some ⟨b, 0, none⟩)] :: bx b4 [.int .i64 dv] :: Γ) h1 → n ≤ 12 →
      CallE Try.prog fn_impl_Formula_walk_1 ([] ++ u :: [.pointer (some ⟨b4, 0, none⟩), .pointer (some ⟨b5, 0, none⟩)]) h1 (WalkQ g (bx b5 [.pointer (some ⟨b, 0, none⟩)] :: bx b4 [.int .i64 dv] :: Γ) b n (6 - d) x.kids[i] true) := by
    intro hd6 i hi u n h1 Ru H hn
    refine CallE.gen fun k hk => EN_impl_Formula_walk_1 rfl ?_
    have Fu := Ru.aExq
    simp -implicitDefEqProofs (disch:=first|omega|(simp only[LnZ];omega))[wrap64, Fu, H.sw2.bxld0, H.sw1.bxld0]
    refine (ih _ (List.getElem_mem hi) (d := d + 1) (dv := dv + 1) (by omega) Ru H hn (by omega) (by omega)).go ?_
    rintro _ h2 ⟨n', ok, rfl, H, g1, g2⟩
    rw [show 7 - (d + 1) = 6 - d by omega] at g1
    simp -implicitDefEqProofs (disch:=first|omega|(simp only[LnZ];omega))[wrap64]
    exact RetK.keep (hk _ _ ⟨n', ok, by simp, H, g1, g2⟩)
  by_cases c2 : x.kind = 2
  · revert hno hfin
    intro hno hfin
    by_cases e1 : (6 : Int) < dv
    · simp -implicitDefEqProofs (disch:=first|omega|(simp only[LnZ];omega))[wrap64, c2, H.bxld0, H.sw1.bxld0, H.sw2.bxld0, e1]
      exact RetK.keep (hno fun hh => by have := hh.1; rw [show 7 - d = 0 by omega] at this; exact this)
    by_cases e2 : (12 : Int) < (n : Int) + 1
    · simp -implicitDefEqProofs (disch:=first|omega|(simp only[LnZ];omega))[wrap64, c2, H.bxld0, H.sw1.bxld0, H.sw2.bxld0, e1, e2]
      exact RetK.keep (hno fun hh => by have := hh.2; omega)
    simp -implicitDefEqProofs (disch:=first|omega|(simp only[LnZ];omega))[wrap64, c2, H.bxld0, H.sw1.bxld0, H.sw2.bxld0, e1, e2]
    refine c_in.go ?_
    rintro _ _ ⟨rfl, rfl⟩
    have e3 : 1 ≤ x.kind ∧ x.kind ≤ 10 := by omega
    simp -implicitDefEqProofs (disch:=first|omega|(simp only[LnZ];omega))[wrap64, c2, e3]
    refine c_in.go ?_
    rintro _ _ ⟨rfl, rfl⟩
    by_cases e4 : 0 ≤ x.val ∧ x.val ≤ 2
    case neg =>
      simp -implicitDefEqProofs (disch:=first|omega|(simp only[LnZ];omega))[wrap64, c2, e4]
      exact RetK.keep (hno fun hh => e4 ⟨hh.1.nd.lo, by have := hh.1.nd.hi; omega⟩)
    simp -implicitDefEqProofs (disch:=first|omega|(simp only[LnZ];omega))[wrap64, c2, e4, hlen]
    refine c_operands.go ?_
    rintro _ _ ⟨rfl, rfl⟩
    by_cases e5 : ln = opn 2
    case neg =>
      simp -implicitDefEqProofs (disch:=first|omega|(simp only[LnZ];omega))[wrap64, c2, e5, hlen]
      exact RetK.keep (hno fun hh => e5 (by have := hh.1.nd.ar; rw [← hln, c2] at this; rw [this, opn_eq (by decide)]))
    simp -implicitDefEqProofs (disch:=first|omega|(simp only[LnZ];omega))[wrap64, c2, e5, hlen]
    refine (c_ContainsFunc_walk (m := 6 - d) R1 (c1 := []) (c2 := [.pointer (some ⟨b4, 0, none⟩), .pointer (some ⟨b5, 0, none⟩)]) rfl H (by omega) (hkid (by omega))).go ?_
    rintro _ h4 ⟨n', ok, rfl, H4, g1, g2⟩
    simp -implicitDefEqProofs (disch:=first|omega|(simp only[LnZ];omega))[wrap64]
    exact RetK.keep (hfin ⟨by rw [← hln, e5, opn_eq (by decide), c2], e4.1, by omega, fun hh => absurd c2 hh⟩ (by omega) g1 g2 H4)
  by_cases e1 : (6 : Int) < dv
  · simp -implicitDefEqProofs (disch:=first|omega|(simp only[LnZ];omega))[wrap64, c2, H.bxld0, H.sw1.bxld0, H.sw2.bxld0, e1]
    exact RetK.keep (hno fun hh => by have := hh.1; rw [show 7 - d = 0 by omega] at this; exact this)
  by_cases e2 : (12 : Int) < (n : Int) + 1
  · simp -implicitDefEqProofs (disch:=first|omega|(simp only[LnZ];omega))[wrap64, c2, H.bxld0, H.sw1.bxld0, H.sw2.bxld0, e1, e2]
    exact RetK.keep (hno fun hh => by have := hh.2; omega)
  simp -implicitDefEqProofs (disch:=first|omega|(simp only[LnZ];omega))[wrap64, c2, H.bxld0, H.sw1.bxld0, H.sw2.bxld0, e1, e2]
  refine c_in.go ?_
  rintro _ _ ⟨rfl, rfl⟩
  by_cases e3 : 1 ≤ x.kind ∧ x.kind ≤ 10
  case neg =>
    simp -implicitDefEqProofs (disch:=first|omega|(simp only[LnZ];omega))[wrap64, c2, e3]
    exact RetK.keep (hno fun hh => e3 hh.1.nd.kind)
  simp -implicitDefEqProofs (disch:=first|omega|(simp only[LnZ];omega))[wrap64, c2, e3]
  refine c_in.go ?_
  rintro _ _ ⟨rfl, rfl⟩
  by_cases e4 : 0 ≤ x.val ∧ x.val ≤ 0
  case neg =>
    simp -implicitDefEqProofs (disch:=first|omega|(simp only[LnZ];omega))[wrap64, c2, e4]
    exact RetK.keep (hno fun hh => e4 ⟨hh.1.nd.lo, by have := hh.1.nd.ze c2; omega⟩)
  simp -implicitDefEqProofs (disch:=first|omega|(simp only[LnZ];omega))[wrap64, c2, e4, hlen]
  refine c_operands.go ?_
  rintro _ _ ⟨rfl, rfl⟩
  by_cases e5 : ln = opn x.kind
  case neg =>
    simp -implicitDefEqProofs (disch:=first|omega|(simp only[LnZ];omega))[wrap64, c2, e5, hlen]
    exact RetK.keep (hno fun hh => e5 (by have := hh.1.nd.ar; rw [← hln] at this; rw [this, opn_eq e3]))
  simp -implicitDefEqProofs (disch:=first|omega|(simp only[LnZ];omega))[wrap64, c2, e5, hlen]
  refine (c_ContainsFunc_walk (m := 6 - d) R1 (c1 := []) (c2 := [.pointer (some ⟨b4, 0, none⟩), .pointer (some ⟨b5, 0, none⟩)]) rfl H (by omega) (hkid (by omega))).go ?_
  rintro _ h4 ⟨n', ok, rfl, H4, g1, g2⟩
  simp -implicitDefEqProofs (disch:=first|omega|(simp only[LnZ];omega))[wrap64]
  exact RetK.keep (hfin ⟨by rw [← hln, e5, opn_eq e3], e4.1, by omega, fun _ => by omega⟩ (by omega) g1 g2 H4)
theorem c_FormulaNodes {h : Heap} {v : Value} {x : Exq} (R : Rep h v x) : CallE Try.prog fn_impl_FormulaNodes [v] h (fun u h' => h.le h' ∧ u = .int .i64 (if (Fm.Ok x) then (x.nod : Int) else 0)) := by
  have F := R.aExq
  refine CallE.gen fun k hk => EN_impl_FormulaNodes rfl ?_
  simp -implicitDefEqProofs (disch:=first|omega|(simp only[LnZ];omega))[wrap64]
  refine HS.init.alloc rfl fun b h1 H => ?_
  simp only [cells_int] at H
  simp -implicitDefEqProofs (disch:=first|omega|(simp only[LnZ];omega))[wrap64]
  refine HS.bxst (o := 0) (sz := 1) (u := .int .i64 0) H rfl rfl rfl rfl (by simp) fun h2 H => ?_
  have H : HS h [bx b [.int .i64 ((0 : Nat) : Int)]] h2 := H
  simp -implicitDefEqProofs (disch:=first|omega|(simp only[LnZ];omega))[wrap64, F]
  refine (c_walk x (d := 1) rfl R H (by omega) (by omega) (by omega)).go ?_
  rintro _ h3 ⟨n', ok, rfl, H, g1, g2⟩
  have hok : ok = true ↔ (Fm.Ok x) := by rw [g1]; simp [Fm.Ok]
  cases ok with
  | true =>
    have e := g2 rfl
    have ho := hok.1 rfl
    simp -implicitDefEqProofs (disch:=first|omega|(simp only[LnZ];omega))[wrap64, H.bxld0]
    refine RetK.keep (hk _ _ ⟨H.base, ?_⟩)
    rw [if_pos ho, e]; simp
  | false =>
    simp -implicitDefEqProofs (disch:=first|omega|(simp only[LnZ];omega))[wrap64]
    refine RetK.keep (hk _ _ ⟨H.base, ?_⟩)
    rw [if_neg (fun ho => by have := hok.2 ho; simp at this)]
theorem Exq.nod_pos (x : Exq) : 0 < x.nod := by rw [Exq.nod_eq]; omega
theorem c_FormulaValid {h : Heap} {v : Value} {x : Exq} (R : Rep h v x) : CallE Try.prog fn_impl_FormulaValid [v] h (fun u h' => h.le h' ∧ u = .bool (decide (Fm.Ok x))) := by
  have F := R.aExq
  have hp := x.nod_pos
  refine CallE.gen fun k hk => EN_impl_FormulaValid rfl ?_
  simp -implicitDefEqProofs (disch:=first|omega|(simp only[LnZ];omega))[wrap64, F]
  refine (c_FormulaNodes R).go ?_
  rintro _ h1 ⟨hl, rfl⟩
  simp -implicitDefEqProofs (disch:=first|omega|(simp only[LnZ];omega))[wrap64]
  refine RetK.keep (hk _ _ ⟨hl, ?_⟩)
  congr 1
  by_cases e : (Fm.Ok x)
  · simp [e]; omega
  · simp [e]
theorem c_EqualFunc_Formula {h : Heap} {a b fv : Value} {x y : List Exq} (Ra : Rep h a x) (Rb : Rep h b y) {f : FuncId} (hf : fnOf fv = some (f, [], []))
    (hp : ∀ z ∈ x, ∀ {h : Heap} {a b : Value} {w : Exq}, Rep h a z → Rep h b w → CallE Try.prog f [a, b] h (fun u h' => h' = h ∧ u = .bool (decide (z = w)))) :
    CallE Try.prog fn_slices_EqualFunc_S_impl_Formula_S_impl_Formula_impl_Formula_impl_Formula [a, b, fv] h (fun u h' => h' = h ∧ u = .bool (decide (x = y))) := by
  refine CallE.gen fun k hk => EN_slices_EqualFunc_S_impl_Formula_S_impl_Formula_impl_Formula_impl_Formula rfl ?_
  have hL := Ra.lt
  simp -implicitDefEqProofs (disch:=first|omega|(simp only[LnZ];omega))[wrap64, Ra.len, Rb.len]
  refine IteW.mkr (fun hne => ?_) (fun heq => ?_)
  · simp -implicitDefEqProofs (disch:=first|omega|(simp only[LnZ];omega))[wrap64]
    exact RetK.keep (hk _ _ ⟨rfl, by simp; rintro rfl; exact hne rfl⟩)
  simp -implicitDefEqProofs (disch:=first|omega|(simp only[LnZ];omega))[wrap64, Ra.len]
  refine wp_count x.length (fun i e h' => h' = h ∧ e = [none, some b, some fv, none, none, none, none, some a, some (.int .i64 x.length), some (.int .i64 i)] ∧ x.take i = y.take i) ⟨rfl, by simp [heq], rfl⟩ ?_
  rintro J i _ _ hJ hi ⟨rfl, rfl, hxy⟩
  simp -implicitDefEqProofs (disch:=first|omega|(simp only[LnZ];omega))[wrap64]
  refine IteW.mk (fun hlt => ?_) (fun hge => ?_)
  · have hly : i < y.length := by omega
    have hlx : i < x.length := by omega
    obtain ⟨u, hu, Ru⟩ := Ra.ld hlx
    obtain ⟨w, hw, Rw⟩ := Rb.ld hly
    change hload _ (some (elp 3 a i)) (some 3) = some u at hu
    change hload _ (some (elp 3 b i)) (some 3) = some w at hw
    simp -implicitDefEqProofs (disch:=first|omega|(simp only[LnZ];omega))[wrap64, Ra.X (n := 3) rfl, Rb.X (n := 3) rfl, hu, hw, Ru.aExq, Rw.aExq, hf]
    refine (hp _ (List.getElem_mem hlx) Ru Rw).go ?_
    rintro _ _ ⟨rfl, rfl⟩
    simp -implicitDefEqProofs (disch:=first|omega|(simp only[LnZ];omega))[wrap64]
    refine IteW.mkr (fun hne => ?_) (fun heq => ?_)
    · simp -implicitDefEqProofs (disch:=first|omega|(simp only[LnZ];omega))[wrap64]
      exact RetK.keep (hk _ _ ⟨rfl, by simp; rintro rfl; exact hne rfl⟩)
    simp -implicitDefEqProofs (disch:=first|omega|(simp only[LnZ];omega))[wrap64]
    exact hJ _ _ hlx ⟨rfl, rfl, take_step hxy hlx hly heq⟩
  · simp -implicitDefEqProofs (disch:=first|omega|(simp only[LnZ];omega))[wrap64]
    refine RetK.keep (hk _ _ ⟨rfl, ?_⟩)
    simp
    rw [List.take_of_length_le (by omega), List.take_of_length_le (by omega)] at hxy
    exact hxy
theorem c_FormulaSame' : ∀ (x : Exq) {h : Heap} {a b : Value} {y : Exq}, Rep h a x → Rep h b y → CallE Try.prog fn_impl_FormulaSame [a, b] h (fun u h' => h' = h ∧ u = .bool (decide (x = y))) := by
  refine Exq.ind fun x ih h a b y Ra Rb => ?_
  obtain ⟨w, rfl, k1, k2, R1⟩ := Rep_Exq.1 Ra
  obtain ⟨w2, rfl, k3, k4, R2⟩ := Rep_Exq.1 Rb
  refine CallE.gen fun k hk => EN_impl_FormulaSame rfl ?_
  by_cases h1 : x.kind = y.kind
  case neg =>
    simp -implicitDefEqProofs (disch:=first|omega|(simp only[LnZ];omega))[wrap64, h1]
    exact RetK.keep (hk _ _ ⟨rfl, by simp [Exq.ext_iff', h1]⟩)
  by_cases h2 : x.val = y.val
  case neg =>
    simp -implicitDefEqProofs (disch:=first|omega|(simp only[LnZ];omega))[wrap64, h1, h2]
    exact RetK.keep (hk _ _ ⟨rfl, by simp [Exq.ext_iff', h2]⟩)
  simp -implicitDefEqProofs (disch:=first|omega|(simp only[LnZ];omega))[wrap64, h1, h2]
  refine (c_EqualFunc_Formula R1 R2 (f := fn_impl_FormulaSame) rfl ih).go ?_
  rintro _ _ ⟨rfl, rfl⟩
  simp -implicitDefEqProofs (disch:=first|omega|(simp only[LnZ];omega))[wrap64]
  exact RetK.keep (hk _ _ ⟨rfl, by simp [Exq.ext_iff', h1, h2]⟩)
theorem c_FormulaSame {x : Exq} {h : Heap} {a b : Value} {y : Exq} (Ra : Rep h a x) (Rb : Rep h b y) : CallE Try.prog fn_impl_FormulaSame [a, b] h (fun u h' => h' = h ∧ u = .bool (decide (x = y))) := c_FormulaSame' x Ra Rb
theorem rep_zero {h : Heap} : Rep h (.agg #[.int .i64 0, .int .i64 0, .slice none 0 0]) Exq.zero := Rep_Exq.2 ⟨_, rfl, i64_0, i64_0, (Own_nils.rep.le fun _ _ h => by simp [Heap.nil] at h)⟩
end Go.Proofs.Ytbanccfdojgocaa

namespace Go.Proofs.Ytbanccfdojgocaa
open Go
theorem c_markFormulaS' : ∀ (x0 : Exq) {g h : Heap} {Γ : List HP} {v : Value} {k0 : Int}, HS g (ow v x0.kids :: Γ) h → 0 ≤ k0 → k0 + Mk.cnt x0.kids < 4611686018427387904 →
    CallE Try.prog fn_laws_markFormulaS [v, .int .i64 k0] h (fun u h' => HS g (ow v (Mk.wr k0 x0.kids) :: Γ) h' ∧ u = .int .i64 (k0 + Mk.cnt x0.kids)) := by
  refine Exq.ind fun x0 ih g h Γ v k0 H hk0 hk1 => ?_
  generalize hx0 : x0.kids = x at *
  refine CallE.gen fun k hk => EN_laws_markFormulaS rfl ?_
  simp -implicitDefEqProofs (disch:=first|omega|(simp only[LnZ];omega))[wrap64]
  refine wp_count x.length (fun i e h' => e = [some v, some (.int .i64 (k0 + cntL (x.take i))), none, some (.int .i64 i)] ∧ ∃ y, HS g (ow v y :: Γ) h' ∧ Mkd k0 x y i) ⟨by simp [cntL], x, H, Mkd.zero⟩ ?_
  rintro J i _ h2 hJ hi ⟨rfl, y, H, M⟩
  have hl := M.len
  have hL := H.rep.lt
  have hcx : Mk.cnt x = cntL x := rfl
  simp -implicitDefEqProofs (disch:=first|omega|(simp only[LnZ];omega))[wrap64, H.rep.len]
  refine IteW.mk (fun hlt => ?_) (fun hge => ?_)
  · have hlx : i < x.length := by omega
    have hly : i < y.length := by omega
    have hb := cntL_le x (i + 1)
    have hc := cntL_take x i hlx
    have hce := cnt_Exq x[i]
    have hwe := wr_Exq (k0 + cntL (x.take i)) x[i]
    have M' := M.step hlx
    obtain ⟨q, hq⟩ : ∃ q, q = k0 + cntL (x.take i) := ⟨_, rfl⟩
    obtain ⟨u, hu, H⟩ := HS.take H hly
    rw [M.get hlx] at H
    obtain ⟨w, rfl, k1, k2, H⟩ := H.unExq
    have hia := HS.holeia H.sw1 (n := 3) (kd := .i64) rfl hly
    have hP := hld_parts (HS.holeP H.sw1 (n := 3) rfl rfl)
    rw [← hq] at hwe M' ⊢
    simp -implicitDefEqProofs (disch:=first|omega|(simp only[LnZ];omega))[wrap64, hia, hP.1]
    refine HS.holest H.sw1 rfl (n := 3) rfl rfl rfl rfl rfl (by decide) fun h3 H => ?_
    replace H : HS g (hole v y i (.agg #[.int .i64 q, .int .i64 x[i].val, w]) :: ow w x[i].kids :: Γ) h3 := H
    have hP := hld_parts (HS.holeP H (n := 3) rfl rfl)
    simp -implicitDefEqProofs (disch:=first|omega|(simp only[LnZ];omega))[wrap64, hia, hP.1]
    refine HS.holest H rfl (n := 3) rfl rfl rfl rfl rfl (by decide) fun h4 H => ?_
    replace H : HS g (hole v y i (.agg #[.int .i64 q, .int .i64 (q + 1), w]) :: ow w x[i].kids :: Γ) h4 := H
    have hP := hld_parts (HS.holeP H (n := 3) rfl rfl)
    simp -implicitDefEqProofs (disch:=first|omega|(simp only[LnZ];omega))[wrap64, hia, hP.1, hP.2.2.1]
    refine (ih x[i] (List.getElem_mem hlx) (k0 := q + 1 + 1) H.sw1 (by omega) (by omega)).go ?_
    rintro _ h5 ⟨H, rfl⟩
    have H := HS.put (H.mkExq' (kd := q) (vl := q + 1) ⟨by omega, by omega⟩ ⟨by omega, by omega⟩)
    simp -implicitDefEqProofs (disch:=first|omega|(simp only[LnZ];omega))[wrap64]
    refine hJ _ _ hlx ⟨?_, _, H, ?_⟩
    · simp only [List.cons.injEq, Option.some.injEq, Value.int.injEq, true_and, and_true]
      refine ⟨?_, by simp⟩
      rw [hc]; push_cast; omega
    · rw [hwe, show q + 2 = q + 1 + 1 by omega] at M'
      exact M'
  · simp -implicitDefEqProofs (disch:=first|omega|(simp only[LnZ];omega))[wrap64]
    have h2 : x.take i = x := List.take_of_length_le (by omega)
    refine RetK.keep (hk _ _ ⟨?_, by rw [h2]; rfl⟩)
    have h3 : y = Mk.wr k0 x := M.all (by omega)
    rw [← h3]; exact H
theorem c_markFormulaS {g h : Heap} {Γ : List HP} {v : Value} {x : List Exq} {k0 : Int} (H : HS g (ow v x :: Γ) h) (hk0 : 0 ≤ k0) (hk1 : k0 + Mk.cnt x < 4611686018427387904) :
    CallE Try.prog fn_laws_markFormulaS [v, .int .i64 k0] h (fun u h' => HS g (ow v (Mk.wr k0 x) :: Γ) h' ∧ u = .int .i64 (k0 + Mk.cnt x)) := c_markFormulaS' (Exq.mk 0 0 x) H hk0 hk1
theorem cnt_cons {α : Type} [Mk α] (x : α) (l : List α) : Mk.cnt (x :: l) = Mk.cnt x + Mk.cnt l := rfl
theorem sz_cons {α : Type} [Sz α] (x : α) (l : List α) : Sz.sz (x :: l) = 1 + Sz.sz x + Sz.sz l := by
  simp only [sz_list, szL, List.length_cons]; omega
theorem cnt_le {α : Type} [Mk α] [Sz α] {c : Nat} : ∀ {l : List α}, (∀ x ∈ l, Mk.cnt x ≤ c * (1 + Sz.sz x)) → Mk.cnt l ≤ c * Sz.sz l
  | [], _ => by show 0 ≤ _; omega
  | x :: l, h => by
    have h1 := cnt_le (l := l) fun y hy => h y (by simp [hy])
    have h2 := h x (by simp)
    rw [cnt_cons, sz_cons, Nat.mul_add]
    omega
theorem cnt_Formula' : ∀ x : Exq, Mk.cnt x.kids ≤ 2 * Sz.sz x.kids := by
  refine Exq.ind fun x ih => cnt_le fun y hy => ?_
  have h1 := ih y hy
  rw [cnt_Exq, sz_Exq]; omega
theorem c_markFormula {g h : Heap} {Γ : List HP} {v : Value} {x : Exq} {k0 : Int} (H : HS g (ow v x :: Γ) h) (hk0 : 0 ≤ k0) (hk1 : k0 + Mk.cnt x.kids < 4611686018427387904) :
    CallE Try.prog fn_laws_markFormula [v, .int .i64 k0] h (fun u h' => HS g (ow v (Exq.mk x.kind x.val (Mk.wr k0 x.kids)) :: Γ) h' ∧ u = .int .i64 (k0 + Mk.cnt x.kids)) := by
  obtain ⟨w, rfl, k1, k2, H⟩ := H.unExq
  refine CallE.gen fun k hk => EN_laws_markFormula rfl ?_
  simp -implicitDefEqProofs (disch:=first|omega|(simp only[LnZ];omega))[wrap64]
  refine (c_markFormulaS H hk0 hk1).go ?_
  rintro _ h1 ⟨H, rfl⟩
  simp -implicitDefEqProofs (disch:=first|omega|(simp only[LnZ];omega))[wrap64]
  exact RetK.keep (hk _ _ ⟨HS.mkExq' H k1 k2, rfl⟩)
theorem cnt_Formula {x : Exq} (h : Sz.sz x ≤ 1048576) : Mk.cnt x.kids ≤ 2097152 := by
  have h1 := cnt_Formula' x
  rw [sz_Exq] at h
  omega
end Go.Proofs.Ytbanccfdojgocaa

namespace Go.Proofs.Ytbanccfdojgocaa
open Go
theorem c_Clone_impl_Formula {h : Heap} {a : Value} {x : List Exq} (Ra : Rep h a x) (hs : x.length ≤ 1048576) : CallE Try.prog fn_slices_Clone_S_impl_Formula_impl_Formula [a] h (fun v h' => ∃ M, Raws h x M ∧ HS h [ow v M] h') := by
  refine CallE.gen fun k hk => EN_slices_Clone_S_impl_Formula_impl_Formula rfl ?_
  obtain ⟨b, hb, hb2⟩ := Ra.isNil
  simp -implicitDefEqProofs (disch:=first|omega|(simp only[LnZ];omega))[wrap64, hb]
  refine IteW.mk (fun h1 => ?_) (fun h1 => ?_)
  · simp -implicitDefEqProofs (disch:=first|omega|(simp only[LnZ];omega))[wrap64]
    have h2 : x = [] := hb2 h1
    subst h2
    exact RetK.keep (hk _ _ ⟨[], ⟨rfl, fun i hi => absurd hi (Nat.not_lt_zero i)⟩, HS.init.nil_ow⟩)
  · simp -implicitDefEqProofs (disch:=first|omega|(simp only[LnZ];omega))[wrap64]
    refine HS.init.appPLr (α := Exq) (l2 := x) (u := a) rfl rfl Ra rfl rfl (by omega) fun v h1 M hM H => ?_
    simp -implicitDefEqProofs (disch:=first|omega|(simp only[LnZ];omega))[wrap64]
    exact RetK.keep (hk _ _ ⟨M, hM, H⟩)
theorem c_Clip_impl_Formula {g h : Heap} {Γ : List HP} {a : Value} {x : List (Mix Exq)} (H : HS g (ow a x :: Γ) h) : CallE Try.prog fn_slices_Clip_S_impl_Formula_impl_Formula [a] h (fun v h' => HS g (ow v x :: Γ) h') := by
  refine CallE.gen fun k hk => EN_slices_Clip_S_impl_Formula_impl_Formula rfl ?_
  obtain ⟨v', h1, h2⟩ := H.clip (esz := 3) (k := .i64)
  simp -implicitDefEqProofs (disch:=first|omega|(simp only[LnZ];omega))[wrap64, H.rep.len, h1]
  exact RetK.keep (hk _ _ h2)
theorem c_clone_impl_Formula {h : Heap} {a : Value} {x : List Exq} (Ra : Rep h a x) (hs : x.length ≤ 1048576) : CallE Try.prog fn_impl_clone_impl_Formula [a] h (fun v h' => ∃ M, Raws h x M ∧ HS h [ow v M] h') := by
  refine CallE.gen fun k hk => EN_impl_clone_impl_Formula rfl ?_
  simp -implicitDefEqProofs (disch:=first|omega|(simp only[LnZ];omega))[wrap64]
  refine (c_Clone_impl_Formula Ra hs).go ?_
  rintro v h1 ⟨M, hM, H⟩
  simp -implicitDefEqProofs (disch:=first|omega|(simp only[LnZ];omega))[wrap64]
  refine (c_Clip_impl_Formula H).go ?_
  intro v' h2 H
  simp -implicitDefEqProofs (disch:=first|omega|(simp only[LnZ];omega))[wrap64]
  exact RetK.keep (hk _ _ ⟨M, hM, H⟩)
theorem Exq.nods_sz : ∀ x : Exq, x.nod = 1 + Sz.sz x := by
  have key : ∀ l : List Exq, (∀ y ∈ l, y.nod = 1 + Sz.sz y) → Exq.nods l = Sz.sz l := by
    intro l
    induction l with
    | nil => intro _; rfl
    | cons y l ih =>
      intro h
      rw [Exq.nods, ih fun z hz => h z (by simp [hz]), h y (by simp), sz_cons]
  refine Exq.ind fun x ih => ?_
  rw [Exq.nod_eq, key _ ih, ← sz_Exq]
theorem sz_kid {x : Exq} {i : Nat} (hi : i < x.kids.length) : Sz.sz x.kids[i] ≤ Sz.sz x := by
  have := szL_get hi
  rw [sz_Exq x, sz_list]; omega
theorem Fm.Ok.sz {x : Exq} (h : Fm.Ok x) : Sz.sz x ≤ 11 := by have := h.2; have := x.nods_sz; omega
theorem c_Formula_copyOf : ∀ (x : Exq) {h : Heap} {v : Value}, Rep h v x → Sz.sz x ≤ 1048576 → CallE Try.prog fn_impl_Formula_copyOf [v] h (fun u h' => HS h [ow u x] h') := by
  refine Exq.ind fun x ih h v R hs => ?_
  obtain ⟨w, rfl, k1, k2, R1⟩ := Rep_Exq.1 R
  have hsz := sz_Exq x
  rw [sz_list] at hsz
  refine CallE.gen fun k hk => EN_impl_Formula_copyOf rfl ?_
  simp -implicitDefEqProofs (disch:=first|omega|(simp only[LnZ];omega))[wrap64, setC]
  refine (c_clone_impl_Formula R1 (by omega)).go ?_
  rintro o h1 ⟨M, hM, H⟩
  simp -implicitDefEqProofs (disch:=first|omega|(simp only[LnZ];omega))[wrap64, setC, H.rep.cells, H.rep.one, R1.len]
  refine wp_count x.kids.length (fun i e h' => e = [none, none, some (.agg #[.int .i64 0, .int .i64 0, .slice none 0 0]), some (.agg #[.int .i64 x.kind, .int .i64 x.val, o]), none, none, some w, some (.int .i64 x.kids.length), some (.int .i64 i)] ∧ ∃ M, HS h [ow o M] h' ∧ Mixed h x.kids (fun y => y) M i) ⟨by simp, M, H, Mixed.zero hM⟩ ?_
  clear H
  rintro J i _ h2 hJ hi ⟨rfl, M, H, hM⟩
  simp -implicitDefEqProofs (disch:=first|omega|(simp only[LnZ];omega))[wrap64]
  refine IteW.mk (fun hlt => ?_) (fun hge => ?_)
  · have hlx : i < x.kids.length := by omega
    have hlM : i < M.length := by rw [hM.len]; exact hlx
    obtain ⟨u, hu, Ru⟩ := R1.ld hlx
    have hu2 := hload_le H.base hu
    change hload _ (some (elp 3 w i)) (some 3) = some u at hu2
    simp -implicitDefEqProofs (disch:=first|omega|(simp only[LnZ];omega))[wrap64, R1.X (n := 3) rfl, hu2, Ru.aExq]
    refine (ih _ (List.getElem_mem hlx) (Ru.on H) (by have := sz_kid hlx; omega)).go ?_
    intro y h3 G
    have H := (G.newO).app H
    simp -implicitDefEqProofs (disch:=first|omega|(simp only[LnZ];omega))[wrap64, H.sw1.rep.X (n := 3) rfl, G.rep.aExq]
    refine HS.store H hlM rfl rfl rfl fun h4 H => ?_
    simp -implicitDefEqProofs (disch:=first|omega|(simp only[LnZ];omega))[wrap64]
    exact hJ _ _ hlx ⟨by simp, _, H, hM.step hlx⟩
  · simp -implicitDefEqProofs (disch:=first|omega|(simp only[LnZ];omega))[wrap64, H.rep.cells, H.rep.one, setC]
    have he := hM.all (by omega)
    subst he
    have H := H.mixed
    rw [List.map_id'] at H
    exact RetK.keep (hk _ _ (H.mkExq k1 k2))
end Go.Proofs.Ytbanccfdojgocaa

namespace Go.Proofs.Ytbanccfdojgocaa
open Go
section
variable {α : Type} [Ty α] {h h' : Heap} {v : Value} {l : List α} {M : List (Mix α)}
theorem Raws.le (H : Raws h l M) (hl : h.le h') : Raws h' l M := ⟨H.len, fun i hi => by
  obtain ⟨c, h1, h2⟩ := H.at' i hi
  exact ⟨c, h1, Ty.mono hl h2⟩⟩
theorem Raws.nil : Raws h ([] : List α) [] := ⟨rfl, fun i hi => absurd hi (Nat.not_lt_zero i)⟩
theorem Raws.set (H : Raws h l M) {i : Nat} {y : α} {c : List Value} (hy : Ty.rep h c y) : Raws h (l.set i y) (M.set i (.raw c)) := by
  refine ⟨by simp [H.len], fun j hj => ?_⟩
  rw [List.length_set] at hj
  by_cases e : i = j
  · subst e
    exact ⟨c, by rw [List.getElem?_set_self (by rw [H.len]; exact hj)], by simpa using hy⟩
  · obtain ⟨c', h1, h2⟩ := H.at' j hj
    exact ⟨c', by rw [List.getElem?_set_ne e]; exact h1, by rw [List.getElem_set_ne e]; exact h2⟩
theorem Raws.push (H : Raws h l M) {y : α} {c : List Value} (hy : Ty.rep h c y) : Raws h (l ++ [y]) (M ++ [.raw c]) := by
  refine ⟨by simp [H.len], fun j hj => ?_⟩
  by_cases e : j < l.length
  · obtain ⟨c', h1, h2⟩ := H.at' j e
    exact ⟨c', by rw [List.getElem?_append_left (by rw [H.len]; exact e)]; exact h1, by rw [List.getElem_append_left e]; exact h2⟩
  · obtain rfl : j = l.length := by simp at hj; omega
    exact ⟨c, by rw [← H.len, List.getElem?_append_right (Nat.le_refl _)]; simp, by simpa using hy⟩
theorem Rep.raws (R : Rep h v M) (H : Raws h l M) : Rep h v l := by
  obtain ⟨p, cap, rfl, h1, h2, h3⟩ := Rep_list.1 R
  refine Rep_list.2 ⟨p, cap, by rw [H.len], by rw [← H.len]; exact h1, h2, fun i hi => ?_⟩
  obtain ⟨b, off, vs, e1, e2, e3⟩ := h3 i (by rw [H.len]; exact hi)
  obtain ⟨c, f1, f2⟩ := H.at' i hi
  rw [List.getElem?_eq_getElem (by rw [H.len]; exact hi)] at f1
  rw [Option.some.inj f1] at e3
  obtain ⟨rfl, _⟩ := e3
  exact ⟨b, off, vs, e1, e2, f2⟩
theorem HS.rawO {g : Heap} {Γ : List HP} (H : HS g Γ h) {c : List Value} {y : α} (hy : Ty.rep h' c y) : HS g (ow (valC (Ty.agg α) c) (Mix.raw (α := α) c) :: Γ) h :=
  ⟨h, Heap.nil, by simp, by simp, ⟨c, rfl, rfl, rfl, Ty.len hy, Ty.cell hy⟩, H⟩
end
end Go.Proofs.Ytbanccfdojgocaa

namespace Go.Proofs.Ytbanccfdojgocaa
open Go
section
variable {P : Program} {k : Env → Heap → Prop} {e : Env} {g h : Heap} {Γ : List HP} {v : Value} {α : Type}
theorem bls_two [Ty α] {u1 u2 : Value} {y1 y2 : α} (R1 : Rep h u1 y1) (R2 : Rep h u2 y2) {esz : Nat} {zero : List Value} {parts : List (Nat × Nat × O)} {dst : Nat} (hf : fillP e (reps 2 zero) parts = some (u1.cells.toList ++ u2.cells.toList))
    (K : ∀ v' h', h.le h' → Rep h' v' [y1, y2] → k (eset e dst (some v')) h') : (A.ex (some dst) (.bls esz 2 zero parts)).wp P k e h := by
  obtain ⟨c1, rfl, r1⟩ := R1
  obtain ⟨c2, rfl, r2⟩ := R2
  rw [rep_cells r1, rep_cells r2] at hf
  have l1 := Ty.len r1
  have l2 := Ty.len r2
  refine ⟨_, hf, fun b el hb => Fgt.keep ?_⟩
  rw [set_new hb]
  have hd : Dj h (Heap.one b (.cells (c1 ++ c2).toArray el (0, 0))) := Dj_one.2 hb
  have hbb : (h.add (Heap.one b (.cells (c1 ++ c2).toArray el (0, 0)))) b = some (.cells (c1 ++ c2).toArray el (0, 0)) := by simp [Heap.add, Heap.one, hb]
  refine K _ _ (le_add hd) (Rep_list.2 ⟨some ⟨b, 0, none⟩, 2, rfl, ⟨Nat.le_refl _, by simp⟩, trivial, fun i hi => ?_⟩)
  refine ⟨b, 0, ((c1 ++ c2).drop (0 + i * Ty.sz α)).take (Ty.sz α), rfl, ?_, ?_⟩
  · rw [hcells_mk hbb (by simp at hi ⊢; rcases (by omega : i = 0 ∨ i = 1) with rfl | rfl <;> simp <;> omega)]
  · simp only [List.length_cons, List.length_nil] at hi
    rcases (by omega : i = 0 ∨ i = 1) with rfl | rfl
    · have e1 : ((c1 ++ c2).drop (0 + 0 * Ty.sz α)).take (Ty.sz α) = c1 := by simp [← l1]
      rw [e1]
      exact Ty.mono (le_add hd) r1
    · have e1 : ((c1 ++ c2).drop (0 + 1 * Ty.sz α)).take (Ty.sz α) = c2 := by
        rw [show 0 + 1 * Ty.sz α = c1.length by omega, List.drop_left, List.take_of_length_le (by omega)]
      rw [e1]
      exact Ty.mono (le_add hd) r2
end
end Go.Proofs.Ytbanccfdojgocaa

namespace Go.Proofs.Ytbanccfdojgocaa
open Go
section
variable {α : Type} [Ty α] {P : Program} {k : Env → Heap → Prop} {e : Env} {h : Heap}
theorem bls_one {u1 : Value} {y1 : α} (R1 : Rep h u1 y1) {esz : Nat} {zero : List Value} {parts : List (Nat × Nat × O)} {dst : Nat} (hf : fillP e (reps 1 zero) parts = some u1.cells.toList)
    (K : ∀ v' h', h.le h' → Rep h' v' [y1] → k (eset e dst (some v')) h') : (A.ex (some dst) (.bls esz 1 zero parts)).wp P k e h := by
  obtain ⟨c1, rfl, r1⟩ := R1
  rw [rep_cells r1] at hf
  have l1 := Ty.len r1
  refine ⟨_, hf, fun b el hb => Fgt.keep ?_⟩
  rw [set_new hb]
  have hd : Dj h (Heap.one b (.cells c1.toArray el (0, 0))) := Dj_one.2 hb
  have hbb : (h.add (Heap.one b (.cells c1.toArray el (0, 0)))) b = some (.cells c1.toArray el (0, 0)) := by simp [Heap.add, Heap.one, hb]
  refine K _ _ (le_add hd) (Rep_list.2 ⟨some ⟨b, 0, none⟩, 1, rfl, ⟨Nat.le_refl _, by simp⟩, trivial, fun i hi => ?_⟩)
  refine ⟨b, 0, (c1.drop (0 + i * Ty.sz α)).take (Ty.sz α), rfl, ?_, ?_⟩
  · rw [hcells_mk hbb (by simp at hi ⊢; subst hi; simp; omega)]
  · simp only [List.length_cons, List.length_nil] at hi
    obtain rfl : i = 0 := by omega
    have e1 : (c1.drop (0 + 0 * Ty.sz α)).take (Ty.sz α) = c1 := by simp [← l1]
    rw [e1]
    exact Ty.mono (le_add hd) r1
end
theorem c_formula {h : Heap} {a : Value} {l : List Exq} {k0 : Int} (hk0 : I64 k0) (R : Rep h a l) (hl : l.length ≤ 1048576) : CallE Try.prog fn_impl_formula [.int .i64 k0, a] h (fun u h' => h.le h' ∧ Rep h' u (Exq.mk k0 0 l)) := by
  refine CallE.gen fun k hk => EN_impl_formula rfl ?_
  simp -implicitDefEqProofs (disch:=first|omega|(simp only[LnZ];omega))[wrap64, setC]
  refine (c_clone_impl_Formula R hl).go ?_
  rintro v h1 ⟨M, hM, H⟩
  have R1 : Rep h1 v l := H.rep.raws (hM.le H.base)
  simp -implicitDefEqProofs (disch:=first|omega|(simp only[LnZ];omega))[wrap64, setC, R1.cells, R1.one]
  exact RetK.keep (hk _ _ ⟨H.base, Rep_Exq.2 ⟨v, rfl, hk0, i64_0, R1⟩⟩)
theorem c_normal_pick {h : Heap} {b : Nat} {x y : Int} {ng : Bool} (hb : hload h (some (.pointer (some ⟨b, 0, none⟩))) none = some (.bool ng)) : CallE Try.prog fn_impl_Formula_normal_2 [.int .i64 x, .int .i64 y, .pointer (some ⟨b, 0, none⟩)] h (fun u h' => h' = h ∧ u = .int .i64 (if ng then y else x)) := by
  refine CallE.gen fun k hk => EN_impl_Formula_normal_2 rfl ?_
  cases ng with
  | true =>
    simp -implicitDefEqProofs (disch:=first|omega|(simp only[LnZ];omega))[wrap64, hb]
    exact RetK.keep (hk _ _ ⟨rfl, rfl⟩)
  | false =>
    simp -implicitDefEqProofs (disch:=first|omega|(simp only[LnZ];omega))[wrap64, hb]
    exact RetK.keep (hk _ _ ⟨rfl, rfl⟩)
theorem c_normal_kid {h : Heap} {b1 b2 : Nat} {x : Exq} {w : Value} {ng : Bool} {j : Nat} (hj : j < x.kids.length) (R : Rep h w x.kids) (h1 : hload h (some (.pointer (some ⟨b1, 2, none⟩))) none = some w) (h2 : hload h (some (.pointer (some ⟨b2, 0, none⟩))) none = some (.bool ng))
    (ih : ∀ {h : Heap} {v : Value}, Rep h v x.kids[j] → CallE Try.prog fn_impl_Formula_normal [v, .bool ng] h (fun u h' => h.le h' ∧ Rep h' u (Fm.push x.kids[j] ng))) :
    CallE Try.prog fn_impl_Formula_normal_1 [.int .i64 j, .pointer (some ⟨b1, 0, none⟩), .pointer (some ⟨b2, 0, none⟩)] h (fun u h' => h.le h' ∧ Rep h' u (Fm.kp x ng j)) := by
  obtain ⟨u, hu, Ru⟩ := R.ld hj
  change hload _ (some (elp 3 w j)) (some 3) = some u at hu
  refine CallE.gen fun k hk => EN_impl_Formula_normal_1 rfl ?_
  simp -implicitDefEqProofs (disch:=first|omega|(simp only[LnZ];omega))[wrap64, setC, h1, h2, R.X (n := 3) rfl, hu, Ru.aExq]
  refine (ih Ru).go ?_
  rintro y h3 ⟨l3, R3⟩
  simp -implicitDefEqProofs (disch:=first|omega|(simp only[LnZ];omega))[wrap64, setC, R3.aExq]
  exact RetK.keep (hk _ _ ⟨l3, by rw [Fm.kp_at hj]; exact R3⟩)
end Go.Proofs.Ytbanccfdojgocaa
