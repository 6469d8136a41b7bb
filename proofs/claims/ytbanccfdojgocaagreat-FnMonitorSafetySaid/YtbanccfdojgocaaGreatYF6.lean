/-
  Texts of this proof, one behind the other.
-/
import Derived.Test.YtbanccfdojgocaaGreatYF5
set_option linter.all false
set_option linter.unusedVariables false
set_option linter.unusedSimpArgs false
set_option linter.defProp false
set_option maxRecDepth 1000000
namespace Go.Proofs.YtbanccfdojgocaaGreat
open Go
def H_impl_AutomatonValid:Hint:=⟨[(0,false),(1,true),(2,false),(3,false),(4,false),(6,false),(11,false),(12,false),(13,false)],[[0,2,5]]⟩
def K21_1:Pl:=.y 17 (.px (some 22) (.un .not (.v 21))) <|
 .x 23 (.pick (.v 17) (.v 22) (.c (.bool false))) <|
 .m 2 23 .done
@[simp] def W21_1 := Pl.w K21_1.eq_1
def K21_2:Pl:=.m 11 10 <|
 .y 11 (.als 12 none 1) <|
 .y 11 (.pget (some 13) (some 12) 1 2 none) <|
 .y 11 (.px (some 14) (.lenV (.v 13))) <|
 .y 11 (.px (some 15) (.bin .leq (.v 14) (.c (.int .i64 2048)))) <|
 .x 16 (.pick (.v 11) (.v 15) (.c (.bool false))) <|
 .m 17 16 <|
 .y 17 (.als 18 none 1) <|
 .y 17 (.pget (some 19) (some 18) 1 2 none) <|
 .y 17 (.px (some 20) (.mkf (.func fn_impl_AutomatonValid_1) [] [.v 3])) <|
 .st (.act (some (.v 17,true)) (.ex (some 21) (.call fn_slices_ContainsFunc_S_impl_Transition_impl_Transition [.v 19,.v 20]))) K21_1
@[simp] def W21_2 := Pl.w K21_2.eq_1
def K21_3:C:=.seq (.pl <| .e 9 15 <|
 .l 9 3 <|
 .c 10 (.call fn_impl_in [.v 9,.c (.int .i64 1),.c (.int .i64 64)]) K21_2) (.ret)
@[simp] def W21_3 := C.w K21_3.eq_1
def K21_4:C:=.pl <| .e 9 1 <|
 .x 9 (.bin .add (.v 8) (.c (.int .i64 1))) <|
 .m 8 9 .done
@[simp] def W21_4 := C.w K21_4.eq_1
def K21_5:C:=.pl <| .e 9 1 <|
 .m 9 5 <|
 .m 4 9 .done
@[simp] def W21_5 := C.w K21_5.eq_1
def K21_6:C:=.seq (.pl <| .e 9 0 <|
 .x 2 (.mv (.c (.bool false))) .done) (.ret)
@[simp] def W21_6 := C.w K21_6.eq_1
def K21_7:C:=.cond 9 (.v 15) K21_6 (.skip)
@[simp] def W21_7 := C.w K21_7.eq_1
def K21_8:Pl:=.x 15 (.un .not (.v 14)) .done
@[simp] def W21_8 := Pl.w K21_8.eq_1
def K21_9:C:=.seq (.seq (.pl <| .e 9 7 <|
 .m 9 5 <|
 .m 10 4 <|
 .x 11 (.bin .add (.v 10) (.c (.int .i64 1))) <|
 .l 12 3 <|
 .x 13 (.bin .sub (.v 12) (.c (.int .i64 1))) <|
 .c 14 (.call fn_impl_in [.v 9,.v 11,.v 13]) K21_8) K21_7) K21_5
@[simp] def W21_9 := C.w K21_9.eq_1
def K21_10:C:=.seq (.block 1 (.seq (.pl <| .e 9 2 <|
 .x 9 (.ia 1 (.v 6) (.v 8)) <|
 .l 10 9 <|
 .m 5 10 .done) K21_9)) K21_4
@[simp] def W21_10 := C.w K21_10.eq_1
def K21_11:C:=.seq (.cond 9 (.v 9) (.skip) (.exit 0)) K21_10
@[simp] def W21_11 := C.w K21_11.eq_1
def K21_12:C:=.seq (.pl <| .e 9 1 <|
 .x 9 (.bin .lss (.v 8) (.v 7)) .done) K21_11
@[simp] def W21_12 := C.w K21_12.eq_1
def K21_13:C:=.block 0 (.loop 9 [0,2,5] K21_12)
@[simp] def W21_13 := C.w K21_13.eq_1
def K21_14:C:=.seq (.seq (.pl <| .e 9 1 <|
 .a 9 1 <|
 .g 6 9 1 0 <|
 .x 7 (.lenV (.v 6)) <|
 .x 8 (.mv (.c (.int .i64 0))) .done) K21_13) K21_3
@[simp] def W21_14 := C.w K21_14.eq_1
def K21_15:C:=.seq (.pl <| .e 9 0 <|
 .x 4 (.mv (.c (.int .i64 (-1)))) .done) K21_14
@[simp] def W21_15 := C.w K21_15.eq_1
def K21_16:Pl:=.o (.ex none (.store 1 (.v 3) (.v 11))) .done
@[simp] def W21_16 := Pl.w K21_16.eq_1
def K21_17:C:=.seq (.pl <| .e 9 3 <|
 .a 9 1 <|
 .g 10 9 1 1 <|
 .x 11 (.lenV (.v 10)) <|
 .c 3 (.alloc (.c (.int .i64 0))) K21_16) K21_15
@[simp] def W21_17 := C.w K21_17.eq_1
def B_impl_AutomatonValid:C:=.seq (.pl <| .e 9 0 <|
 .o (.pnew 1 (.v 0) []) <|
 .x 2 (.mv (.c (.bool false))) .done) K21_17
@[simp] def WB_impl_AutomatonValid := C.w B_impl_AutomatonValid.eq_1
def R_impl_AutomatonValid:FIR:=⟨B_impl_AutomatonValid,9,[(2,none)]⟩
theorem IR_impl_AutomatonValid:cfun Tryz.prog H_impl_AutomatonValid Tryz.f21=some R_impl_AutomatonValid:=by kernel_rfl
theorem EN_impl_AutomatonValid:ENT Tryz.prog B_impl_AutomatonValid [(2,none)] 1 9 fn_impl_AutomatonValid:=fun hargs hw=>enter Tryz.func21 rfl IR_impl_AutomatonValid hargs hw
def H_impl_AutomatonValid_1:Hint:=⟨[(0,false),(1,false),(2,true),(3,false)],[]⟩
def K75_1:Pl:=.n 18 (.px (some 22) (.un .not (.v 21))) <|
 .x 23 (.pick (.v 18) (.c (.bool true)) (.v 22)) <|
 .m 24 23 <|
 .n 24 (.als 25 none 2) <|
 .n 24 (.pget (some 26) (some 25) 2 2 none) <|
 .n 24 (.px (some 27) (.bin .lss (.v 26) (.c (.int .i64 0)))) <|
 .x 28 (.pick (.v 24) (.c (.bool true)) (.v 27)) <|
 .m 29 28 <|
 .n 29 (.als 30 none 2) <|
 .n 29 (.pget (some 31) (some 30) 2 2 none) <|
 .n 29 (.als 32 none 2) <|
 .n 29 (.pget (some 33) (some 32) 2 1 none) <|
 .n 29 (.px (some 34) (.bin .andNot (.v 31) (.v 33))) <|
 .n 29 (.px (some 35) (.bin .neq (.v 34) (.c (.int .i64 0)))) <|
 .x 36 (.pick (.v 29) (.c (.bool true)) (.v 35)) <|
 .m 3 36 .done
@[simp] def W75_1 := Pl.w K75_1.eq_1
def K75_2:Pl:=.n 10 (.px (some 16) (.un .not (.v 15))) <|
 .x 17 (.pick (.v 10) (.c (.bool true)) (.v 16)) <|
 .m 18 17 <|
 .n 18 (.als 19 none 2) <|
 .n 18 (.pget (some 20) (some 19) 2 1 none) <|
 .st (.act (some (.v 18,false)) (.ex (some 21) (.call fn_impl_in [.v 20,.c (.int .i64 0),.c (.int .i64 7)]))) K75_1
@[simp] def W75_2 := Pl.w K75_2.eq_1
def K75_3:Pl:=.x 9 (.un .not (.v 8)) <|
 .m 10 9 <|
 .n 10 (.als 11 none 2) <|
 .n 10 (.pget (some 12) (some 11) 2 3 none) <|
 .n 10 (.ld (some 13) (.v 1) none) <|
 .n 10 (.px (some 14) (.bin .sub (.v 13) (.c (.int .i64 1)))) <|
 .st (.act (some (.v 10,false)) (.ex (some 15) (.call fn_impl_in [.v 12,.c (.int .i64 0),.v 14]))) K75_2
@[simp] def W75_3 := Pl.w K75_3.eq_1
def K75_4:C:=.seq (.pl <| .e 4 33 <|
 .a 4 2 <|
 .g 5 4 2 0 <|
 .l 6 1 <|
 .x 7 (.bin .sub (.v 6) (.c (.int .i64 1))) <|
 .c 8 (.call fn_impl_in [.v 5,.c (.int .i64 0),.v 7]) K75_3) (.ret)
@[simp] def W75_4 := C.w K75_4.eq_1
def B_impl_AutomatonValid_1:C:=.seq (.pl <| .e 4 0 <|
 .o (.pnew 2 (.v 0) []) <|
 .x 3 (.mv (.c (.bool false))) .done) K75_4
@[simp] def WB_impl_AutomatonValid_1 := C.w B_impl_AutomatonValid_1.eq_1
def R_impl_AutomatonValid_1:FIR:=⟨B_impl_AutomatonValid_1,4,[(3,none)]⟩
theorem IR_impl_AutomatonValid_1:cfun Tryz.prog H_impl_AutomatonValid_1 Tryz.f75=some R_impl_AutomatonValid_1:=by kernel_rfl
theorem EN_impl_AutomatonValid_1:ENT Tryz.prog B_impl_AutomatonValid_1 [(3,none)] 2 4 fn_impl_AutomatonValid_1:=fun hargs hw=>enter Tryz.func75 rfl IR_impl_AutomatonValid_1 hargs hw
def H_impl_Automaton_copyOf:Hint:=⟨[(0,false),(1,true),(2,true)],[]⟩
def K79_1:Pl:=.x 12 (.build [.slice none 0 0,.slice none 0 0,.slice none 0 0] [(0,1,.v 5),(1,1,.v 8),(2,1,.v 11)]) <|
 .o (.pset none 2 0 3 (.v 12)) .done
@[simp] def W79_1 := Pl.w K79_1.eq_1
def K79_2:Pl:=.c 11 (.call fn_impl_clone_impl_Transition [.v 10]) K79_1
@[simp] def W79_2 := Pl.w K79_2.eq_1
def K79_3:Pl:=.c 8 (.call fn_impl_clone_bool [.v 7]) K79_2
@[simp] def W79_3 := Pl.w K79_3.eq_1
def K79_4:C:=.seq (.pl <| .e 3 10 <|
 .a 3 1 <|
 .g 4 3 1 0 <|
 .a 6 1 <|
 .g 7 6 1 1 <|
 .a 9 1 <|
 .g 10 9 1 2 <|
 .c 5 (.call fn_impl_clone_int [.v 4]) K79_3) (.ret)
@[simp] def W79_4 := C.w K79_4.eq_1
def B_impl_Automaton_copyOf:C:=.seq (.pl <| .e 3 0 <|
 .o (.pnew 1 (.v 0) []) <|
 .o (.pnew 2 (.c (.agg #[.slice none 0 0,.slice none 0 0,.slice none 0 0])) []) .done) K79_4
@[simp] def WB_impl_Automaton_copyOf := C.w B_impl_Automaton_copyOf.eq_1
def R_impl_Automaton_copyOf:FIR:=⟨B_impl_Automaton_copyOf,3,[(2,some (some 3))]⟩
theorem IR_impl_Automaton_copyOf:cfun Tryz.prog H_impl_Automaton_copyOf Tryz.f79=some R_impl_Automaton_copyOf:=by kernel_rfl
theorem EN_impl_Automaton_copyOf:ENT Tryz.prog B_impl_Automaton_copyOf [(2,some (some 3))] 1 3 fn_impl_Automaton_copyOf:=fun hargs hw=>enter Tryz.func79 rfl IR_impl_Automaton_copyOf hargs hw
def H_impl_BasicFormulas:Hint:=⟨[(0,false),(1,true),(2,false),(3,false),(4,true),(5,false),(6,false)],[]⟩
def K51_1:C:=.seq (.pl <| .e 7 1 <|
 .m 7 6 <|
 .m 2 7 <|
 .x 3 (.mv (.c (.bool true))) .done) (.ret)
@[simp] def W51_1 := C.w K51_1.eq_1
def K51_2:C:=.seq (.pl <| .e 7 0 <|
 .x 2 (.mv (.c (.slice none 0 0))) <|
 .x 3 (.mv (.c (.bool false))) .done) (.ret)
@[simp] def W51_2 := C.w K51_2.eq_1
def K51_3:C:=.cond 7 (.v 9) K51_2 (.skip)
@[simp] def W51_3 := C.w K51_3.eq_1
def K51_4:C:=.seq (.seq (.pl <| .e 7 3 <|
 .m 7 6 <|
 .x 8 (.lenV (.v 7)) <|
 .x 9 (.bin .gtr (.v 8) (.c (.int .i64 5))) .done) K51_3) K51_1
@[simp] def W51_4 := C.w K51_4.eq_1
def K51_5:Pl:=.m 6 8 .done
@[simp] def W51_5 := Pl.w K51_5.eq_1
def K51_6:C:=.seq (.pl <| .e 7 2 <|
 .o (.pget (some 7) none 4 0 (some 3)) <|
 .c 8 (.call fn_impl_basics [.v 7]) K51_5) K51_4
@[simp] def W51_6 := C.w K51_6.eq_1
def K51_7:C:=.seq (.pl <| .e 7 0 <|
 .x 2 (.mv (.c (.slice none 0 0))) <|
 .x 3 (.mv (.c (.bool false))) .done) (.ret)
@[simp] def W51_7 := C.w K51_7.eq_1
def K51_8:C:=.cond 7 (.v 8) K51_7 (.skip)
@[simp] def W51_8 := C.w K51_8.eq_1
def K51_9:C:=.seq (.seq (.pl <| .e 7 2 <|
 .m 7 5 <|
 .x 8 (.un .not (.v 7)) .done) K51_8) K51_6
@[simp] def W51_9 := C.w K51_9.eq_1
def K51_10:Pl:=.m 9 8 <|
 .x 10 (.extract 0 (.v 9)) <|
 .x 11 (.extract 1 (.v 9)) <|
 .o (.pnew 4 (.c (.agg #[.int .i64 0,.int .i64 0,.slice none 0 0])) []) <|
 .o (.pset none 4 0 3 (.v 10)) <|
 .m 5 11 .done
@[simp] def W51_10 := Pl.w K51_10.eq_1
def K51_11:C:=.seq (.pl <| .e 7 5 <|
 .o (.pget (some 7) none 1 0 (some 3)) <|
 .c 8 (.call fn_impl_NormalForm [.v 7]) K51_10) K51_9
@[simp] def W51_11 := C.w K51_11.eq_1
def B_impl_BasicFormulas:C:=.seq (.pl <| .e 7 0 <|
 .o (.pnew 1 (.v 0) []) <|
 .x 2 (.mv (.c (.slice none 0 0))) <|
 .x 3 (.mv (.c (.bool false))) .done) K51_11
@[simp] def WB_impl_BasicFormulas := C.w B_impl_BasicFormulas.eq_1
def R_impl_BasicFormulas:FIR:=⟨B_impl_BasicFormulas,7,[(2,none),(3,none)]⟩
theorem IR_impl_BasicFormulas:cfun Tryz.prog H_impl_BasicFormulas Tryz.f51=some R_impl_BasicFormulas:=by kernel_rfl
theorem EN_impl_BasicFormulas:ENT Tryz.prog B_impl_BasicFormulas [(2,none),(3,none)] 1 7 fn_impl_BasicFormulas:=fun hargs hw=>enter Tryz.func51 rfl IR_impl_BasicFormulas hargs hw
def H_impl_FormulaNodes:Hint:=⟨[(0,false),(1,true),(2,false),(3,false)],[]⟩
def K130_1:C:=.seq (.pl <| .e 4 1 <|
 .l 4 3 <|
 .m 2 4 .done) (.ret)
@[simp] def W130_1 := C.w K130_1.eq_1
def K130_2:C:=.seq (.pl <| .e 4 0 <|
 .x 2 (.mv (.c (.int .i64 0))) .done) (.ret)
@[simp] def W130_2 := C.w K130_2.eq_1
def K130_3:C:=.cond 4 (.v 6) K130_2 (.skip)
@[simp] def W130_3 := C.w K130_3.eq_1
def K130_4:Pl:=.x 6 (.un .not (.v 5)) .done
@[simp] def W130_4 := Pl.w K130_4.eq_1
def K130_5:C:=.seq (.seq (.pl <| .e 4 3 <|
 .o (.pget (some 4) none 1 0 (some 3)) <|
 .c 5 (.call fn_impl_Formula_walk [.v 4,.c (.int .i64 1),.v 3]) K130_4) K130_3) K130_1
@[simp] def W130_5 := C.w K130_5.eq_1
def K130_6:Pl:=.o (.ex none (.store 1 (.v 3) (.c (.int .i64 0)))) .done
@[simp] def W130_6 := Pl.w K130_6.eq_1
def K130_7:C:=.seq (.pl <| .e 4 0 <|
 .c 3 (.alloc (.c (.int .i64 0))) K130_6) K130_5
@[simp] def W130_7 := C.w K130_7.eq_1
def B_impl_FormulaNodes:C:=.seq (.pl <| .e 4 0 <|
 .o (.pnew 1 (.v 0) []) <|
 .x 2 (.mv (.c (.int .i64 0))) .done) K130_7
@[simp] def WB_impl_FormulaNodes := C.w B_impl_FormulaNodes.eq_1
def R_impl_FormulaNodes:FIR:=⟨B_impl_FormulaNodes,4,[(2,none)]⟩
theorem IR_impl_FormulaNodes:cfun Tryz.prog H_impl_FormulaNodes Tryz.f130=some R_impl_FormulaNodes:=by kernel_rfl
theorem EN_impl_FormulaNodes:ENT Tryz.prog B_impl_FormulaNodes [(2,none)] 1 4 fn_impl_FormulaNodes:=fun hargs hw=>enter Tryz.func130 rfl IR_impl_FormulaNodes hargs hw
def H_impl_FormulaSame:Hint:=⟨[(0,false),(1,false),(2,true),(3,true),(4,false)],[]⟩
def K173_1:Pl:=.x 23 (.pick (.v 17) (.v 22) (.c (.bool false))) <|
 .m 4 23 .done
@[simp] def W173_1 := Pl.w K173_1.eq_1
def K173_2:C:=.seq (.pl <| .e 5 19 <|
 .a 5 2 <|
 .g 6 5 2 0 <|
 .a 7 3 <|
 .g 8 7 3 0 <|
 .x 9 (.bin .eql (.v 6) (.v 8)) <|
 .m 10 9 <|
 .y 10 (.als 11 none 2) <|
 .y 10 (.pget (some 12) (some 11) 2 1 none) <|
 .y 10 (.als 13 none 3) <|
 .y 10 (.pget (some 14) (some 13) 3 1 none) <|
 .y 10 (.px (some 15) (.bin .eql (.v 12) (.v 14))) <|
 .x 16 (.pick (.v 10) (.v 15) (.c (.bool false))) <|
 .m 17 16 <|
 .y 17 (.als 18 none 2) <|
 .y 17 (.pget (some 19) (some 18) 2 2 none) <|
 .y 17 (.als 20 none 3) <|
 .y 17 (.pget (some 21) (some 20) 3 2 none) <|
 .st (.act (some (.v 17,true)) (.ex (some 22) (.call fn_slices_EqualFunc_S_impl_Formula_S_impl_Formula_impl_Formula_impl_Formula [.v 19,.v 21,.c (.func (.func 173) #[] #[])]))) K173_1) (.ret)
@[simp] def W173_2 := C.w K173_2.eq_1
def B_impl_FormulaSame:C:=.seq (.pl <| .e 5 0 <|
 .o (.pnew 2 (.v 0) []) <|
 .o (.pnew 3 (.v 1) []) <|
 .x 4 (.mv (.c (.bool false))) .done) K173_2
@[simp] def WB_impl_FormulaSame := C.w B_impl_FormulaSame.eq_1
def R_impl_FormulaSame:FIR:=⟨B_impl_FormulaSame,5,[(4,none)]⟩
theorem IR_impl_FormulaSame:cfun Tryz.prog H_impl_FormulaSame Tryz.f173=some R_impl_FormulaSame:=by kernel_rfl
theorem EN_impl_FormulaSame:ENT Tryz.prog B_impl_FormulaSame [(4,none)] 2 5 fn_impl_FormulaSame:=fun hargs hw=>enter Tryz.func173 rfl IR_impl_FormulaSame hargs hw
def H_impl_FormulaValid:Hint:=⟨[(0,false),(1,true),(2,false)],[]⟩
def K71_1:Pl:=.x 5 (.bin .gtr (.v 4) (.c (.int .i64 0))) <|
 .m 2 5 .done
@[simp] def W71_1 := Pl.w K71_1.eq_1
def K71_2:C:=.seq (.pl <| .e 3 3 <|
 .o (.pget (some 3) none 1 0 (some 3)) <|
 .c 4 (.call fn_impl_FormulaNodes [.v 3]) K71_1) (.ret)
@[simp] def W71_2 := C.w K71_2.eq_1
def B_impl_FormulaValid:C:=.seq (.pl <| .e 3 0 <|
 .o (.pnew 1 (.v 0) []) <|
 .x 2 (.mv (.c (.bool false))) .done) K71_2
@[simp] def WB_impl_FormulaValid := C.w B_impl_FormulaValid.eq_1
def R_impl_FormulaValid:FIR:=⟨B_impl_FormulaValid,3,[(2,none)]⟩
theorem IR_impl_FormulaValid:cfun Tryz.prog H_impl_FormulaValid Tryz.f71=some R_impl_FormulaValid:=by kernel_rfl
theorem EN_impl_FormulaValid:ENT Tryz.prog B_impl_FormulaValid [(2,none)] 1 3 fn_impl_FormulaValid:=fun hargs hw=>enter Tryz.func71 rfl IR_impl_FormulaValid hargs hw
def H_impl_Formula_copyOf:Hint:=⟨[(0,false),(1,true),(2,true),(3,true),(4,false),(5,true),(15,false),(16,false),(17,false)],[[0,1,4,5]]⟩
def K142_1:C:=.seq (.pl <| .e 9 1 <|
 .o (.pget (some 9) none 3 0 (some 3)) <|
 .o (.pset none 2 0 3 (.v 9)) .done) (.ret)
@[simp] def W142_1 := C.w K142_1.eq_1
def K142_2:C:=.pl <| .e 9 1 <|
 .x 9 (.bin .add (.v 8) (.c (.int .i64 1))) <|
 .m 8 9 .done
@[simp] def W142_2 := C.w K142_2.eq_1
def K142_3:Pl:=.x 14 (.ia 3 (.v 10) (.v 11)) <|
 .o (.ex none (.store 3 (.v 14) (.v 13))) .done
@[simp] def W142_3 := Pl.w K142_3.eq_1
def K142_4:C:=.pl <| .e 9 6 <|
 .a 9 3 <|
 .g 10 9 3 2 <|
 .m 11 4 <|
 .o (.pget (some 12) none 5 0 (some 3)) <|
 .c 13 (.call fn_impl_Formula_copyOf [.v 12]) K142_3
@[simp] def W142_4 := C.w K142_4.eq_1
def K142_5:C:=.seq (.block 1 (.seq (.pl <| .e 9 3 <|
 .m 9 8 <|
 .x 10 (.ia 3 (.v 6) (.v 8)) <|
 .o (.ld (some 11) (.v 10) (some 3)) <|
 .o (.pnew 5 (.c (.agg #[.int .i64 0,.int .i64 0,.slice none 0 0])) []) <|
 .m 4 9 <|
 .o (.pset none 5 0 3 (.v 11)) .done) K142_4)) K142_2
@[simp] def W142_5 := C.w K142_5.eq_1
def K142_6:C:=.seq (.cond 9 (.v 9) (.skip) (.exit 0)) K142_5
@[simp] def W142_6 := C.w K142_6.eq_1
def K142_7:C:=.seq (.pl <| .e 9 1 <|
 .x 9 (.bin .lss (.v 8) (.v 7)) .done) K142_6
@[simp] def W142_7 := C.w K142_7.eq_1
def K142_8:C:=.block 0 (.loop 9 [0,1,4,5] K142_7)
@[simp] def W142_8 := C.w K142_8.eq_1
def K142_9:C:=.seq (.seq (.pl <| .e 9 1 <|
 .a 9 1 <|
 .g 6 9 1 2 <|
 .x 7 (.lenV (.v 6)) <|
 .x 8 (.mv (.c (.int .i64 0))) .done) K142_8) K142_1
@[simp] def W142_9 := C.w K142_9.eq_1
def K142_10:Pl:=.x 16 (.build [.int .i64 0,.int .i64 0,.slice none 0 0] [(0,1,.v 10),(1,1,.v 12),(2,1,.v 15)]) <|
 .o (.pset none 3 0 3 (.v 16)) .done
@[simp] def W142_10 := Pl.w K142_10.eq_1
def K142_11:C:=.seq (.pl <| .e 9 8 <|
 .a 9 1 <|
 .g 10 9 1 0 <|
 .a 11 1 <|
 .g 12 11 1 1 <|
 .a 13 1 <|
 .g 14 13 1 2 <|
 .o (.pnew 3 (.c (.agg #[.int .i64 0,.int .i64 0,.slice none 0 0])) []) <|
 .c 15 (.call fn_impl_clone_impl_Formula [.v 14]) K142_10) K142_9
@[simp] def W142_11 := C.w K142_11.eq_1
def B_impl_Formula_copyOf:C:=.seq (.pl <| .e 9 0 <|
 .o (.pnew 1 (.v 0) []) <|
 .o (.pnew 2 (.c (.agg #[.int .i64 0,.int .i64 0,.slice none 0 0])) []) .done) K142_11
@[simp] def WB_impl_Formula_copyOf := C.w B_impl_Formula_copyOf.eq_1
def R_impl_Formula_copyOf:FIR:=⟨B_impl_Formula_copyOf,9,[(2,some (some 3))]⟩
theorem IR_impl_Formula_copyOf:cfun Tryz.prog H_impl_Formula_copyOf Tryz.f142=some R_impl_Formula_copyOf:=by kernel_rfl
theorem EN_impl_Formula_copyOf:ENT Tryz.prog B_impl_Formula_copyOf [(2,some (some 3))] 1 9 fn_impl_Formula_copyOf:=fun hargs hw=>enter Tryz.func142 rfl IR_impl_Formula_copyOf hargs hw
def H_impl_Formula_normal:Hint:=⟨[(0,false),(1,false),(2,false),(3,false),(4,true),(5,true),(6,false),(7,false),(8,true),(15,false),(71,false)],[]⟩
def K113_1:C:=.seq (.pl <| .e 11 1 <|
 .o (.pget (some 11) none 8 0 (some 3)) <|
 .o (.pset none 4 0 3 (.v 11)) .done) (.ret)
@[simp] def W113_1 := C.w K113_1.eq_1
def K113_2:Pl:=.o (.pset none 4 0 3 (.v 13)) .done
@[simp] def W113_2 := Pl.w K113_2.eq_1
def K113_3:Pl:=.c 13 (.call fn_impl_formula [.c (.int .i64 3),.v 12]) K113_2
@[simp] def W113_3 := Pl.w K113_3.eq_1
def K113_4:C:=.seq (.pl <| .e 11 3 <|
 .o (.pget (some 11) none 8 0 (some 3)) <|
 .c 12 (.bls 3 1 [.int .i64 0,.int .i64 0,.slice none 0 0] [(0,3,.v 11)]) K113_3) (.ret)
@[simp] def W113_4 := C.w K113_4.eq_1
def K113_5:C:=.cond 11 (.v 11) K113_4 (.skip)
@[simp] def W113_5 := C.w K113_5.eq_1
def K113_6:C:=.seq (.seq (.pl <| .e 11 1 <|
 .l 11 3 .done) K113_5) K113_1
@[simp] def W113_6 := C.w K113_6.eq_1
def K113_7:C:=.seq (.pl <| .e 11 5 <|
 .x 11 (.fa 0 (.v 2)) <|
 .l 12 11 <|
 .x 13 (.fa 1 (.v 2)) <|
 .l 14 13 <|
 .x 15 (.build [.int .i64 0,.int .i64 0,.slice none 0 0] [(0,1,.v 12),(1,1,.v 14)]) <|
 .o (.pnew 8 (.c (.agg #[.int .i64 0,.int .i64 0,.slice none 0 0])) []) <|
 .o (.pset none 8 0 3 (.v 15)) .done) K113_6
@[simp] def W113_7 := C.w K113_7.eq_1
def K113_8:Pl:=.o (.pset none 4 0 3 (.v 17)) .done
@[simp] def W113_8 := Pl.w K113_8.eq_1
def K113_9:C:=.seq (.pl <| .e 11 7 <|
 .x 11 (.fa 2 (.v 2)) <|
 .l 12 11 <|
 .x 13 (.ia 3 (.v 12) (.c (.int .i64 0))) <|
 .o (.ld (some 14) (.v 13) (some 3)) <|
 .l 15 3 <|
 .x 16 (.un .not (.v 15)) <|
 .c 17 (.call fn_impl_Formula_normal [.v 14,.v 16]) K113_8) (.ret)
@[simp] def W113_9 := C.w K113_9.eq_1
def K113_10:Pl:=.o (.pset none 4 0 3 (.v 18)) .done
@[simp] def W113_10 := Pl.w K113_10.eq_1
def K113_11:Pl:=.c 18 (.call fn_impl_formula [.v 12,.v 17]) K113_10
@[simp] def W113_11 := Pl.w K113_11.eq_1
def K113_12:Pl:=.c 17 (.bls 3 2 [.int .i64 0,.int .i64 0,.slice none 0 0] [(0,3,.v 14),(3,3,.v 16)]) K113_11
@[simp] def W113_12 := Pl.w K113_12.eq_1
def K113_13:Pl:=.m 15 6 <|
 .c 16 (.callv (.v 15) [.c (.int .i64 1)]) K113_12
@[simp] def W113_13 := Pl.w K113_13.eq_1
def K113_14:Pl:=.m 13 6 <|
 .c 14 (.callv (.v 13) [.c (.int .i64 0)]) K113_13
@[simp] def W113_14 := Pl.w K113_14.eq_1
def K113_15:C:=.seq (.pl <| .e 11 8 <|
 .m 11 7 <|
 .c 12 (.callv (.v 11) [.c (.int .i64 4),.c (.int .i64 5)]) K113_14) (.ret)
@[simp] def W113_15 := C.w K113_15.eq_1
def K113_16:Pl:=.o (.pset none 4 0 3 (.v 18)) .done
@[simp] def W113_16 := Pl.w K113_16.eq_1
def K113_17:Pl:=.c 18 (.call fn_impl_formula [.v 12,.v 17]) K113_16
@[simp] def W113_17 := Pl.w K113_17.eq_1
def K113_18:Pl:=.c 17 (.bls 3 2 [.int .i64 0,.int .i64 0,.slice none 0 0] [(0,3,.v 14),(3,3,.v 16)]) K113_17
@[simp] def W113_18 := Pl.w K113_18.eq_1
def K113_19:Pl:=.m 15 6 <|
 .c 16 (.callv (.v 15) [.c (.int .i64 1)]) K113_18
@[simp] def W113_19 := Pl.w K113_19.eq_1
def K113_20:Pl:=.m 13 6 <|
 .c 14 (.callv (.v 13) [.c (.int .i64 0)]) K113_19
@[simp] def W113_20 := Pl.w K113_20.eq_1
def K113_21:C:=.seq (.pl <| .e 11 8 <|
 .m 11 7 <|
 .c 12 (.callv (.v 11) [.c (.int .i64 5),.c (.int .i64 4)]) K113_20) (.ret)
@[simp] def W113_21 := C.w K113_21.eq_1
def K113_22:Pl:=.o (.pset none 4 0 3 (.v 14)) .done
@[simp] def W113_22 := Pl.w K113_22.eq_1
def K113_23:Pl:=.c 14 (.call fn_impl_formula [.c (.int .i64 6),.v 13]) K113_22
@[simp] def W113_23 := Pl.w K113_23.eq_1
def K113_24:Pl:=.c 13 (.bls 3 1 [.int .i64 0,.int .i64 0,.slice none 0 0] [(0,3,.v 12)]) K113_23
@[simp] def W113_24 := Pl.w K113_24.eq_1
def K113_25:C:=.seq (.pl <| .e 11 4 <|
 .m 11 6 <|
 .c 12 (.callv (.v 11) [.c (.int .i64 0)]) K113_24) (.ret)
@[simp] def W113_25 := C.w K113_25.eq_1
def K113_26:Pl:=.o (.pset none 4 0 3 (.v 18)) .done
@[simp] def W113_26 := Pl.w K113_26.eq_1
def K113_27:Pl:=.c 18 (.call fn_impl_formula [.v 12,.v 17]) K113_26
@[simp] def W113_27 := Pl.w K113_27.eq_1
def K113_28:Pl:=.c 17 (.bls 3 2 [.int .i64 0,.int .i64 0,.slice none 0 0] [(0,3,.v 14),(3,3,.v 16)]) K113_27
@[simp] def W113_28 := Pl.w K113_28.eq_1
def K113_29:Pl:=.m 15 6 <|
 .c 16 (.callv (.v 15) [.c (.int .i64 1)]) K113_28
@[simp] def W113_29 := Pl.w K113_29.eq_1
def K113_30:Pl:=.m 13 6 <|
 .c 14 (.callv (.v 13) [.c (.int .i64 0)]) K113_29
@[simp] def W113_30 := Pl.w K113_30.eq_1
def K113_31:C:=.seq (.pl <| .e 11 8 <|
 .m 11 7 <|
 .c 12 (.callv (.v 11) [.c (.int .i64 7),.c (.int .i64 8)]) K113_30) (.ret)
@[simp] def W113_31 := C.w K113_31.eq_1
def K113_32:Pl:=.o (.pset none 4 0 3 (.v 18)) .done
@[simp] def W113_32 := Pl.w K113_32.eq_1
def K113_33:Pl:=.c 18 (.call fn_impl_formula [.v 12,.v 17]) K113_32
@[simp] def W113_33 := Pl.w K113_33.eq_1
def K113_34:Pl:=.c 17 (.bls 3 2 [.int .i64 0,.int .i64 0,.slice none 0 0] [(0,3,.v 14),(3,3,.v 16)]) K113_33
@[simp] def W113_34 := Pl.w K113_34.eq_1
def K113_35:Pl:=.m 15 6 <|
 .c 16 (.callv (.v 15) [.c (.int .i64 1)]) K113_34
@[simp] def W113_35 := Pl.w K113_35.eq_1
def K113_36:Pl:=.m 13 6 <|
 .c 14 (.callv (.v 13) [.c (.int .i64 0)]) K113_35
@[simp] def W113_36 := Pl.w K113_36.eq_1
def K113_37:C:=.seq (.pl <| .e 11 8 <|
 .m 11 7 <|
 .c 12 (.callv (.v 11) [.c (.int .i64 8),.c (.int .i64 7)]) K113_36) (.ret)
@[simp] def W113_37 := C.w K113_37.eq_1
def K113_38:Pl:=.o (.pset none 4 0 3 (.v 15)) .done
@[simp] def W113_38 := Pl.w K113_38.eq_1
def K113_39:Pl:=.c 15 (.call fn_impl_formula [.c (.int .i64 8),.v 14]) K113_38
@[simp] def W113_39 := Pl.w K113_39.eq_1
def K113_40:Pl:=.c 14 (.bls 3 2 [.int .i64 0,.int .i64 0,.slice none 0 0] [(0,3,.v 11),(3,3,.v 13)]) K113_39
@[simp] def W113_40 := Pl.w K113_40.eq_1
def K113_41:C:=.seq (.pl <| .e 11 5 <|
 .o (.pget (some 11) none 5 0 (some 3)) <|
 .m 12 6 <|
 .c 13 (.callv (.v 12) [.c (.int .i64 0)]) K113_40) (.ret)
@[simp] def W113_41 := C.w K113_41.eq_1
def K113_42:Pl:=.o (.pset none 4 0 3 (.v 15)) .done
@[simp] def W113_42 := Pl.w K113_42.eq_1
def K113_43:Pl:=.c 15 (.call fn_impl_formula [.c (.int .i64 7),.v 14]) K113_42
@[simp] def W113_43 := Pl.w K113_43.eq_1
def K113_44:Pl:=.c 14 (.bls 3 2 [.int .i64 0,.int .i64 0,.slice none 0 0] [(0,3,.v 11),(3,3,.v 13)]) K113_43
@[simp] def W113_44 := Pl.w K113_44.eq_1
def K113_45:Pl:=.m 12 6 <|
 .c 13 (.callv (.v 12) [.c (.int .i64 0)]) K113_44
@[simp] def W113_45 := Pl.w K113_45.eq_1
def K113_46:C:=.seq (.pl <| .e 11 5 <|
 .c 11 (.call fn_impl_formula [.c (.int .i64 1),.c (.slice none 0 0)]) K113_45) (.ret)
@[simp] def W113_46 := C.w K113_46.eq_1
def K113_47:C:=.cond 11 (.v 15) K113_46 (.skip)
@[simp] def W113_47 := C.w K113_47.eq_1
def K113_48:C:=.seq (.seq (.pl <| .e 11 5 <|
 .x 11 (.fa 0 (.v 2)) <|
 .l 12 11 <|
 .x 13 (.bin .eql (.v 12) (.c (.int .i64 9))) <|
 .l 14 3 <|
 .x 15 (.eqb true (.v 13) (.v 14)) .done) K113_47) K113_41
@[simp] def W113_48 := C.w K113_48.eq_1
def K113_49:C:=.cond 11 (.v 10) K113_48 (.skip)
@[simp] def W113_49 := C.w K113_49.eq_1
def K113_50:C:=.pl <| .e 11 1 <|
 .x 11 (.bin .eql (.v 9) (.c (.int .i64 10))) <|
 .m 10 11 .done
@[simp] def W113_50 := C.w K113_50.eq_1
def K113_51:C:=.cond 11 (.v 10) (.skip) K113_50
@[simp] def W113_51 := C.w K113_51.eq_1
def K113_52:C:=.seq (.seq (.pl <| .e 11 1 <|
 .x 11 (.bin .eql (.v 9) (.c (.int .i64 9))) <|
 .m 10 11 .done) K113_51) K113_49
@[simp] def W113_52 := C.w K113_52.eq_1
def K113_53:C:=.cond 11 (.v 12) K113_37 K113_52
@[simp] def W113_53 := C.w K113_53.eq_1
def K113_54:C:=.seq (.pl <| .e 11 2 <|
 .x 11 (.bin .eql (.v 9) (.c (.int .i64 8))) <|
 .m 12 11 .done) K113_53
@[simp] def W113_54 := C.w K113_54.eq_1
def K113_55:C:=.cond 11 (.v 12) K113_31 K113_54
@[simp] def W113_55 := C.w K113_55.eq_1
def K113_56:C:=.seq (.pl <| .e 11 2 <|
 .x 11 (.bin .eql (.v 9) (.c (.int .i64 7))) <|
 .m 12 11 .done) K113_55
@[simp] def W113_56 := C.w K113_56.eq_1
def K113_57:C:=.cond 11 (.v 12) K113_25 K113_56
@[simp] def W113_57 := C.w K113_57.eq_1
def K113_58:C:=.seq (.pl <| .e 11 2 <|
 .x 11 (.bin .eql (.v 9) (.c (.int .i64 6))) <|
 .m 12 11 .done) K113_57
@[simp] def W113_58 := C.w K113_58.eq_1
def K113_59:C:=.cond 11 (.v 12) K113_21 K113_58
@[simp] def W113_59 := C.w K113_59.eq_1
def K113_60:C:=.seq (.pl <| .e 11 2 <|
 .x 11 (.bin .eql (.v 9) (.c (.int .i64 5))) <|
 .m 12 11 .done) K113_59
@[simp] def W113_60 := C.w K113_60.eq_1
def K113_61:C:=.cond 11 (.v 12) K113_15 K113_60
@[simp] def W113_61 := C.w K113_61.eq_1
def K113_62:C:=.seq (.pl <| .e 11 2 <|
 .x 11 (.bin .eql (.v 9) (.c (.int .i64 4))) <|
 .m 12 11 .done) K113_61
@[simp] def W113_62 := C.w K113_62.eq_1
def K113_63:C:=.cond 11 (.v 12) K113_9 K113_62
@[simp] def W113_63 := C.w K113_63.eq_1
def K113_64:C:=.block 0 (.seq (.pl <| .e 11 2 <|
 .x 11 (.bin .eql (.v 9) (.c (.int .i64 3))) <|
 .m 12 11 .done) K113_63)
@[simp] def W113_64 := C.w K113_64.eq_1
def K113_65:C:=.seq (.seq (.pl <| .e 11 1 <|
 .x 11 (.fa 0 (.v 2)) <|
 .l 9 11 .done) K113_64) K113_7
@[simp] def W113_65 := C.w K113_65.eq_1
def K113_66:C:=.seq (.pl <| .e 11 1 <|
 .x 11 (.mkf (.func fn_impl_Formula_normal_2) [] [.v 3]) <|
 .m 7 11 .done) K113_65
@[simp] def W113_66 := C.w K113_66.eq_1
def K113_67:C:=.seq (.pl <| .e 11 1 <|
 .x 11 (.mkf (.func fn_impl_Formula_normal_1) [] [.v 2,.v 3]) <|
 .m 6 11 .done) K113_66
@[simp] def W113_67 := C.w K113_67.eq_1
def K113_68:Pl:=.o (.pnew 5 (.c (.agg #[.int .i64 0,.int .i64 0,.slice none 0 0])) []) <|
 .o (.pset none 5 0 3 (.v 13)) .done
@[simp] def W113_68 := Pl.w K113_68.eq_1
def K113_69:Pl:=.c 13 (.call fn_impl_formula [.c (.int .i64 3),.v 12]) K113_68
@[simp] def W113_69 := Pl.w K113_69.eq_1
def K113_70:Pl:=.c 12 (.bls 3 1 [.int .i64 0,.int .i64 0,.slice none 0 0] [(0,3,.v 11)]) K113_69
@[simp] def W113_70 := Pl.w K113_70.eq_1
def K113_71:C:=.seq (.pl <| .e 11 3 <|
 .c 11 (.call fn_impl_formula [.c (.int .i64 1),.c (.slice none 0 0)]) K113_70) K113_67
@[simp] def W113_71 := C.w K113_71.eq_1
def K113_72:Pl:=.o (.pnew 4 (.c (.agg #[.int .i64 0,.int .i64 0,.slice none 0 0])) []) .done
@[simp] def W113_72 := Pl.w K113_72.eq_1
def K113_73:Pl:=.c 3 (.alloc (.v 1)) K113_72
@[simp] def W113_73 := Pl.w K113_73.eq_1
def B_impl_Formula_normal:C:=.seq (.pl <| .e 11 0 <|
 .c 2 (.alloc (.v 0)) K113_73) K113_71
@[simp] def WB_impl_Formula_normal := C.w B_impl_Formula_normal.eq_1
def R_impl_Formula_normal:FIR:=⟨B_impl_Formula_normal,11,[(4,some (some 3))]⟩
theorem IR_impl_Formula_normal:cfun Tryz.prog H_impl_Formula_normal Tryz.f113=some R_impl_Formula_normal:=by kernel_rfl
theorem EN_impl_Formula_normal:ENT Tryz.prog B_impl_Formula_normal [(4,some (some 3))] 2 11 fn_impl_Formula_normal:=fun hargs hw=>enter Tryz.func113 rfl IR_impl_Formula_normal hargs hw
def H_impl_Formula_normalForm:Hint:=⟨[(0,false),(1,true),(2,true),(3,false),(4,true)],[]⟩
def K52_1:C:=.seq (.pl <| .e 5 1 <|
 .o (.pget (some 5) none 4 0 (some 3)) <|
 .o (.pset none 2 0 3 (.v 5)) <|
 .x 3 (.mv (.c (.bool true))) .done) (.ret)
@[simp] def W52_1 := C.w K52_1.eq_1
def K52_2:C:=.seq (.pl <| .e 5 1 <|
 .x 5 (.build [.int .i64 0,.int .i64 0,.slice none 0 0] []) <|
 .o (.pset none 2 0 3 (.v 5)) <|
 .x 3 (.mv (.c (.bool false))) .done) (.ret)
@[simp] def W52_2 := C.w K52_2.eq_1
def K52_3:C:=.cond 5 (.v 7) K52_2 (.skip)
@[simp] def W52_3 := C.w K52_3.eq_1
def K52_4:Pl:=.x 7 (.un .not (.v 6)) .done
@[simp] def W52_4 := Pl.w K52_4.eq_1
def K52_5:C:=.seq (.seq (.pl <| .e 5 3 <|
 .o (.pget (some 5) none 4 0 (some 3)) <|
 .c 6 (.call fn_impl_FormulaValid [.v 5]) K52_4) K52_3) K52_1
@[simp] def W52_5 := C.w K52_5.eq_1
def K52_6:Pl:=.o (.pnew 4 (.c (.agg #[.int .i64 0,.int .i64 0,.slice none 0 0])) []) <|
 .o (.pset none 4 0 3 (.v 6)) .done
@[simp] def W52_6 := Pl.w K52_6.eq_1
def K52_7:C:=.seq (.pl <| .e 5 2 <|
 .o (.pget (some 5) none 1 0 (some 3)) <|
 .c 6 (.call fn_impl_Formula_normal [.v 5,.c (.bool false)]) K52_6) K52_5
@[simp] def W52_7 := C.w K52_7.eq_1
def B_impl_Formula_normalForm:C:=.seq (.pl <| .e 5 0 <|
 .o (.pnew 1 (.v 0) []) <|
 .o (.pnew 2 (.c (.agg #[.int .i64 0,.int .i64 0,.slice none 0 0])) []) <|
 .x 3 (.mv (.c (.bool false))) .done) K52_7
@[simp] def WB_impl_Formula_normalForm := C.w B_impl_Formula_normalForm.eq_1
def R_impl_Formula_normalForm:FIR:=⟨B_impl_Formula_normalForm,5,[(2,some (some 3)),(3,none)]⟩
theorem IR_impl_Formula_normalForm:cfun Tryz.prog H_impl_Formula_normalForm Tryz.f52=some R_impl_Formula_normalForm:=by kernel_rfl
theorem EN_impl_Formula_normalForm:ENT Tryz.prog B_impl_Formula_normalForm [(2,some (some 3)),(3,none)] 1 5 fn_impl_Formula_normalForm:=fun hargs hw=>enter Tryz.func52 rfl IR_impl_Formula_normalForm hargs hw
def H_impl_Formula_normal_1:Hint:=⟨[(0,false),(1,false),(2,false),(4,true)],[]⟩
def K169_1:Pl:=.o (.pset none 3 0 3 (.v 10)) .done
@[simp] def W169_1 := Pl.w K169_1.eq_1
def K169_2:C:=.seq (.pl <| .e 4 7 <|
 .x 4 (.fa 2 (.v 1)) <|
 .l 5 4 <|
 .m 6 0 <|
 .x 7 (.ia 3 (.v 5) (.v 6)) <|
 .o (.ld (some 8) (.v 7) (some 3)) <|
 .l 9 2 <|
 .c 10 (.call fn_impl_Formula_normal [.v 8,.v 9]) K169_1) (.ret)
@[simp] def W169_2 := C.w K169_2.eq_1
def B_impl_Formula_normal_1:C:=.seq (.pl <| .e 4 0 <|
 .o (.pnew 3 (.c (.agg #[.int .i64 0,.int .i64 0,.slice none 0 0])) []) .done) K169_2
@[simp] def WB_impl_Formula_normal_1 := C.w B_impl_Formula_normal_1.eq_1
def R_impl_Formula_normal_1:FIR:=⟨B_impl_Formula_normal_1,4,[(3,some (some 3))]⟩
theorem IR_impl_Formula_normal_1:cfun Tryz.prog H_impl_Formula_normal_1 Tryz.f169=some R_impl_Formula_normal_1:=by kernel_rfl
theorem EN_impl_Formula_normal_1:ENT Tryz.prog B_impl_Formula_normal_1 [(3,some (some 3))] 3 4 fn_impl_Formula_normal_1:=fun hargs hw=>enter Tryz.func169 rfl IR_impl_Formula_normal_1 hargs hw
def H_impl_Formula_normal_2:Hint:=⟨[(0,false),(1,false),(2,false),(5,false)],[]⟩
def K170_1:C:=.seq (.pl <| .e 4 1 <|
 .m 4 0 <|
 .m 3 4 .done) (.ret)
@[simp] def W170_1 := C.w K170_1.eq_1
def K170_2:C:=.seq (.pl <| .e 4 1 <|
 .m 4 1 <|
 .m 3 4 .done) (.ret)
@[simp] def W170_2 := C.w K170_2.eq_1
def K170_3:C:=.cond 4 (.v 4) K170_2 (.skip)
@[simp] def W170_3 := C.w K170_3.eq_1
def K170_4:C:=.seq (.seq (.pl <| .e 4 1 <|
 .l 4 2 .done) K170_3) K170_1
@[simp] def W170_4 := C.w K170_4.eq_1
def B_impl_Formula_normal_2:C:=.seq (.pl <| .e 4 0 <|
 .x 3 (.mv (.c (.int .i64 0))) .done) K170_4
@[simp] def WB_impl_Formula_normal_2 := C.w B_impl_Formula_normal_2.eq_1
def R_impl_Formula_normal_2:FIR:=⟨B_impl_Formula_normal_2,4,[(3,none)]⟩
theorem IR_impl_Formula_normal_2:cfun Tryz.prog H_impl_Formula_normal_2 Tryz.f170=some R_impl_Formula_normal_2:=by kernel_rfl
theorem EN_impl_Formula_normal_2:ENT Tryz.prog B_impl_Formula_normal_2 [(3,none)] 3 4 fn_impl_Formula_normal_2:=fun hargs hw=>enter Tryz.func170 rfl IR_impl_Formula_normal_2 hargs hw
def H_impl_Formula_subformulas:Hint:=⟨[(0,false),(1,true),(2,false),(3,false),(4,false)],[]⟩
def K167_1:Pl:=.m 2 6 .done
@[simp] def W167_1 := Pl.w K167_1.eq_1
def K167_2:C:=.seq (.pl <| .e 5 2 <|
 .l 5 3 <|
 .c 6 (.call fn_slices_Clip_S_impl_Formula_impl_Formula [.v 5]) K167_1) (.ret)
@[simp] def W167_2 := C.w K167_2.eq_1
def K167_3:C:=.seq (.pl <| .e 5 3 <|
 .l 5 4 <|
 .o (.pget (some 6) none 1 0 (some 3)) <|
 .c 7 (.callv (.v 5) [.v 6]) .done) K167_2
@[simp] def W167_3 := C.w K167_3.eq_1
def K167_4:C:=.seq (.pl <| .e 5 1 <|
 .x 5 (.mkf (.func fn_impl_Formula_subformulas_1) [] [.v 4,.v 3]) <|
 .o (.ex none (.store 1 (.v 4) (.v 5))) .done) K167_3
@[simp] def W167_4 := C.w K167_4.eq_1
def K167_5:C:=.seq (.pl <| .e 5 0 <|
 .c 4 (.alloc (.c (.nilFunc))) .done) K167_4
@[simp] def W167_5 := C.w K167_5.eq_1
def K167_6:C:=.seq (.pl <| .e 5 0 <|
 .c 3 (.alloc (.c (.slice none 0 0))) .done) K167_5
@[simp] def W167_6 := C.w K167_6.eq_1
def B_impl_Formula_subformulas:C:=.seq (.pl <| .e 5 0 <|
 .o (.pnew 1 (.v 0) []) <|
 .x 2 (.mv (.c (.slice none 0 0))) .done) K167_6
@[simp] def WB_impl_Formula_subformulas := C.w B_impl_Formula_subformulas.eq_1
def R_impl_Formula_subformulas:FIR:=⟨B_impl_Formula_subformulas,5,[(2,none)]⟩
theorem IR_impl_Formula_subformulas:cfun Tryz.prog H_impl_Formula_subformulas Tryz.f167=some R_impl_Formula_subformulas:=by kernel_rfl
theorem EN_impl_Formula_subformulas:ENT Tryz.prog B_impl_Formula_subformulas [(2,none)] 1 5 fn_impl_Formula_subformulas:=fun hargs hw=>enter Tryz.func167 rfl IR_impl_Formula_subformulas hargs hw
def H_impl_Formula_subformulas_1:Hint:=⟨[(0,false),(1,false),(2,false),(3,true),(5,true),(7,false),(8,false),(9,false)],[[0,4]]⟩
def K195_1:Pl:=.o (.ex none (.store 1 (.v 2) (.v 13))) .done
@[simp] def W195_1 := Pl.w K195_1.eq_1
def K195_2:Pl:=.o (.ex none (.store 3 (.v 14) (.v 10))) K195_1
@[simp] def W195_2 := Pl.w K195_2.eq_1
def K195_3:Pl:=.o (.ex none (.store 3 (.v 14) (.v 10))) .done
@[simp] def W195_3 := Pl.w K195_3.eq_1
def K195_4:Pl:=.o (.ex none (.store 1 (.v 2) (.v 13))) K195_3
@[simp] def W195_4 := Pl.w K195_4.eq_1
def K195_5:Pl:=.x 14 (.ia 3 (.v 13) (.v 11)) <|
 .both K195_2 K195_4
@[simp] def W195_5 := Pl.w K195_5.eq_1
def K195_6:Pl:=.st (.re 8 (.v 2) none none) <|
 .c 13 (.app 40 3 [.int .i64 0,.int .i64 0,.slice none 0 0] (.o (.v 8)) (.p 1 12)) K195_5
@[simp] def W195_6 := Pl.w K195_6.eq_1
def K195_7:C:=.pl <| .e 8 7 <|
 .l 8 2 <|
 .o (.pget (some 9) none 3 0 (some 3)) <|
 .x 11 (.lenV (.v 8)) <|
 .o (.psl 12 [.int .i64 0,.int .i64 0,.slice none 0 0] [(0,3,.c (.agg #[.int .i64 0,.int .i64 0,.slice none 0 0]))]) <|
 .c 10 (.call fn_impl_Formula_copyOf [.v 9]) K195_6
@[simp] def W195_7 := C.w K195_7.eq_1
def K195_8:C:=.cond 8 (.v 11) K195_7 (.skip)
@[simp] def W195_8 := C.w K195_8.eq_1
def K195_9:Pl:=.x 11 (.bin .lss (.v 10) (.c (.int .i64 0))) .done
@[simp] def W195_9 := Pl.w K195_9.eq_1
def K195_10:C:=.seq (.pl <| .e 8 4 <|
 .l 8 2 <|
 .o (.pget (some 9) none 3 0 (some 3)) <|
 .c 10 (.call fn_impl_formulaAt [.v 8,.v 9]) K195_9) K195_8
@[simp] def W195_10 := C.w K195_10.eq_1
def K195_11:C:=.pl <| .e 8 1 <|
 .x 8 (.bin .add (.v 7) (.c (.int .i64 1))) <|
 .m 7 8 .done
@[simp] def W195_11 := C.w K195_11.eq_1
def K195_12:C:=.pl <| .e 8 3 <|
 .l 8 1 <|
 .o (.pget (some 9) none 4 0 (some 3)) <|
 .c 10 (.callv (.v 8) [.v 9]) .done
@[simp] def W195_12 := C.w K195_12.eq_1
def K195_13:C:=.seq (.block 1 (.seq (.pl <| .e 8 2 <|
 .x 8 (.ia 3 (.v 5) (.v 7)) <|
 .o (.ld (some 9) (.v 8) (some 3)) <|
 .o (.pnew 4 (.c (.agg #[.int .i64 0,.int .i64 0,.slice none 0 0])) []) <|
 .o (.pset none 4 0 3 (.v 9)) .done) K195_12)) K195_11
@[simp] def W195_13 := C.w K195_13.eq_1
def K195_14:C:=.seq (.cond 8 (.v 8) (.skip) (.exit 0)) K195_13
@[simp] def W195_14 := C.w K195_14.eq_1
def K195_15:C:=.seq (.pl <| .e 8 1 <|
 .x 8 (.bin .lss (.v 7) (.v 6)) .done) K195_14
@[simp] def W195_15 := C.w K195_15.eq_1
def K195_16:C:=.block 0 (.loop 8 [0,4] K195_15)
@[simp] def W195_16 := C.w K195_16.eq_1
def K195_17:C:=.seq (.seq (.pl <| .e 8 1 <|
 .a 8 3 <|
 .g 5 8 3 2 <|
 .x 6 (.lenV (.v 5)) <|
 .x 7 (.mv (.c (.int .i64 0))) .done) K195_16) K195_10
@[simp] def W195_17 := C.w K195_17.eq_1
def B_impl_Formula_subformulas_1:C:=.seq (.pl <| .e 8 0 <|
 .o (.pnew 3 (.v 0) []) .done) K195_17
@[simp] def WB_impl_Formula_subformulas_1 := C.w B_impl_Formula_subformulas_1.eq_1
def R_impl_Formula_subformulas_1:FIR:=⟨B_impl_Formula_subformulas_1,8,[]⟩
theorem IR_impl_Formula_subformulas_1:cfun Tryz.prog H_impl_Formula_subformulas_1 Tryz.f195=some R_impl_Formula_subformulas_1:=by kernel_rfl
theorem EN_impl_Formula_subformulas_1:ENT Tryz.prog B_impl_Formula_subformulas_1 [] 3 8 fn_impl_Formula_subformulas_1:=fun hargs hw=>enter Tryz.func195 rfl IR_impl_Formula_subformulas_1 hargs hw
def H_impl_Formula_walk:Hint:=⟨[(0,false),(1,false),(2,false),(3,true),(4,false),(5,false),(6,false),(7,false)],[]⟩
def K181_1:Pl:=.x 12 (.un .not (.v 11)) <|
 .m 6 12 .done
@[simp] def W181_1 := Pl.w K181_1.eq_1
def K181_2:C:=.seq (.pl <| .e 8 5 <|
 .a 8 3 <|
 .g 9 8 3 2 <|
 .x 10 (.mkf (.func fn_impl_Formula_walk_1) [] [.v 4,.v 5]) <|
 .c 11 (.call fn_slices_ContainsFunc_S_impl_Formula_impl_Formula [.v 9,.v 10]) K181_1) (.ret)
@[simp] def W181_2 := C.w K181_2.eq_1
def K181_3:C:=.seq (.pl <| .e 8 0 <|
 .x 6 (.mv (.c (.bool false))) .done) (.ret)
@[simp] def W181_3 := C.w K181_3.eq_1
def K181_4:C:=.cond 8 (.v 37) K181_3 (.skip)
@[simp] def W181_4 := C.w K181_4.eq_1
def K181_5:Pl:=.n 29 (.px (some 36) (.bin .neq (.v 32) (.v 35))) <|
 .x 37 (.pick (.v 29) (.c (.bool true)) (.v 36)) .done
@[simp] def W181_5 := Pl.w K181_5.eq_1
def K181_6:Pl:=.n 22 (.px (some 27) (.un .not (.v 26))) <|
 .x 28 (.pick (.v 22) (.c (.bool true)) (.v 27)) <|
 .m 29 28 <|
 .n 29 (.als 30 none 3) <|
 .n 29 (.pget (some 31) (some 30) 3 2 none) <|
 .n 29 (.px (some 32) (.lenV (.v 31))) <|
 .n 29 (.als 33 none 3) <|
 .n 29 (.pget (some 34) (some 33) 3 0 none) <|
 .st (.act (some (.v 29,false)) (.ex (some 35) (.call fn_impl_operands [.v 34]))) K181_5
@[simp] def W181_6 := Pl.w K181_6.eq_1
def K181_7:Pl:=.n 16 (.px (some 20) (.un .not (.v 19))) <|
 .x 21 (.pick (.v 16) (.c (.bool true)) (.v 20)) <|
 .m 22 21 <|
 .n 22 (.als 23 none 3) <|
 .n 22 (.pget (some 24) (some 23) 3 1 none) <|
 .n 22 (.px (some 25) (.mv (.v 7))) <|
 .st (.act (some (.v 22,false)) (.ex (some 26) (.call fn_impl_in [.v 24,.c (.int .i64 0),.v 25]))) K181_6
@[simp] def W181_7 := Pl.w K181_7.eq_1
def K181_8:C:=.seq (.seq (.pl <| .e 8 30 <|
 .l 8 4 <|
 .x 9 (.bin .gtr (.v 8) (.c (.int .i64 6))) <|
 .m 10 9 <|
 .n 10 (.ld (some 11) (.v 5) none) <|
 .n 10 (.px (some 12) (.nilc (.v 11))) <|
 .n 10 (.ld (some 13) (.v 12) none) <|
 .n 10 (.px (some 14) (.bin .gtr (.v 13) (.c (.int .i64 12)))) <|
 .x 15 (.pick (.v 10) (.c (.bool true)) (.v 14)) <|
 .m 16 15 <|
 .n 16 (.als 17 none 3) <|
 .n 16 (.pget (some 18) (some 17) 3 0 none) <|
 .st (.act (some (.v 16,false)) (.ex (some 19) (.call fn_impl_in [.v 18,.c (.int .i64 1),.c (.int .i64 10)]))) K181_7) K181_4) K181_2
@[simp] def W181_8 := C.w K181_8.eq_1
def K181_9:C:=.pl <| .e 8 0 <|
 .x 7 (.mv (.c (.int .i64 2))) .done
@[simp] def W181_9 := C.w K181_9.eq_1
def K181_10:C:=.cond 8 (.v 10) K181_9 (.skip)
@[simp] def W181_10 := C.w K181_10.eq_1
def K181_11:C:=.seq (.seq (.pl <| .e 8 3 <|
 .a 8 3 <|
 .g 9 8 3 0 <|
 .x 10 (.bin .eql (.v 9) (.c (.int .i64 2))) .done) K181_10) K181_8
@[simp] def W181_11 := C.w K181_11.eq_1
def K181_12:C:=.seq (.pl <| .e 8 0 <|
 .x 7 (.mv (.c (.int .i64 0))) .done) K181_11
@[simp] def W181_12 := C.w K181_12.eq_1
def K181_13:C:=.seq (.pl <| .e 8 5 <|
 .l 8 5 <|
 .x 9 (.nilc (.v 8)) <|
 .l 10 9 <|
 .x 11 (.bin .add (.v 10) (.c (.int .i64 1))) <|
 .x 12 (.nilc (.v 8)) <|
 .o (.ex none (.store 1 (.v 12) (.v 11))) .done) K181_12
@[simp] def W181_13 := C.w K181_13.eq_1
def K181_14:Pl:=.x 6 (.mv (.c (.bool false))) .done
@[simp] def W181_14 := Pl.w K181_14.eq_1
def K181_15:Pl:=.c 5 (.alloc (.v 2)) K181_14
@[simp] def W181_15 := Pl.w K181_15.eq_1
def B_impl_Formula_walk:C:=.seq (.pl <| .e 8 0 <|
 .o (.pnew 3 (.v 0) []) <|
 .c 4 (.alloc (.v 1)) K181_15) K181_13
@[simp] def WB_impl_Formula_walk := C.w B_impl_Formula_walk.eq_1
def R_impl_Formula_walk:FIR:=⟨B_impl_Formula_walk,8,[(6,none)]⟩
theorem IR_impl_Formula_walk:cfun Tryz.prog H_impl_Formula_walk Tryz.f181=some R_impl_Formula_walk:=by kernel_rfl
theorem EN_impl_Formula_walk:ENT Tryz.prog B_impl_Formula_walk [(6,none)] 3 8 fn_impl_Formula_walk:=fun hargs hw=>enter Tryz.func181 rfl IR_impl_Formula_walk hargs hw
def H_impl_Formula_walk_1:Hint:=⟨[(0,false),(1,false),(2,false),(3,true),(4,false)],[]⟩
def K202_1:Pl:=.x 10 (.un .not (.v 9)) <|
 .m 4 10 .done
@[simp] def W202_1 := Pl.w K202_1.eq_1
def K202_2:C:=.seq (.pl <| .e 5 6 <|
 .o (.pget (some 5) none 3 0 (some 3)) <|
 .l 6 1 <|
 .x 7 (.bin .add (.v 6) (.c (.int .i64 1))) <|
 .l 8 2 <|
 .c 9 (.call fn_impl_Formula_walk [.v 5,.v 7,.v 8]) K202_1) (.ret)
@[simp] def W202_2 := C.w K202_2.eq_1
def B_impl_Formula_walk_1:C:=.seq (.pl <| .e 5 0 <|
 .o (.pnew 3 (.v 0) []) <|
 .x 4 (.mv (.c (.bool false))) .done) K202_2
@[simp] def WB_impl_Formula_walk_1 := C.w B_impl_Formula_walk_1.eq_1
def R_impl_Formula_walk_1:FIR:=⟨B_impl_Formula_walk_1,5,[(4,none)]⟩
theorem IR_impl_Formula_walk_1:cfun Tryz.prog H_impl_Formula_walk_1 Tryz.f202=some R_impl_Formula_walk_1:=by kernel_rfl
theorem EN_impl_Formula_walk_1:ENT Tryz.prog B_impl_Formula_walk_1 [(4,none)] 3 5 fn_impl_Formula_walk_1:=fun hargs hw=>enter Tryz.func202 rfl IR_impl_Formula_walk_1 hargs hw
def H_impl_NormalForm:Hint:=⟨[(0,false),(1,true),(2,true),(3,false)],[]⟩
def K22_1:Pl:=.x 6 (.extract 0 (.v 5)) <|
 .x 7 (.extract 1 (.v 5)) <|
 .o (.pset none 2 0 3 (.v 6)) <|
 .m 3 7 .done
@[simp] def W22_1 := Pl.w K22_1.eq_1
def K22_2:C:=.seq (.pl <| .e 4 4 <|
 .o (.pget (some 4) none 1 0 (some 3)) <|
 .c 5 (.call fn_impl_Formula_normalForm [.v 4]) K22_1) (.ret)
@[simp] def W22_2 := C.w K22_2.eq_1
def K22_3:C:=.seq (.pl <| .e 4 1 <|
 .x 4 (.build [.int .i64 0,.int .i64 0,.slice none 0 0] []) <|
 .o (.pset none 2 0 3 (.v 4)) <|
 .x 3 (.mv (.c (.bool false))) .done) (.ret)
@[simp] def W22_3 := C.w K22_3.eq_1
def K22_4:C:=.cond 4 (.v 6) K22_3 (.skip)
@[simp] def W22_4 := C.w K22_4.eq_1
def K22_5:Pl:=.x 6 (.un .not (.v 5)) .done
@[simp] def W22_5 := Pl.w K22_5.eq_1
def K22_6:C:=.seq (.seq (.pl <| .e 4 3 <|
 .o (.pget (some 4) none 1 0 (some 3)) <|
 .c 5 (.call fn_impl_FormulaValid [.v 4]) K22_5) K22_4) K22_2
@[simp] def W22_6 := C.w K22_6.eq_1
def B_impl_NormalForm:C:=.seq (.pl <| .e 4 0 <|
 .o (.pnew 1 (.v 0) []) <|
 .o (.pnew 2 (.c (.agg #[.int .i64 0,.int .i64 0,.slice none 0 0])) []) <|
 .x 3 (.mv (.c (.bool false))) .done) K22_6
@[simp] def WB_impl_NormalForm := C.w B_impl_NormalForm.eq_1
def R_impl_NormalForm:FIR:=⟨B_impl_NormalForm,4,[(2,some (some 3)),(3,none)]⟩
theorem IR_impl_NormalForm:cfun Tryz.prog H_impl_NormalForm Tryz.f22=some R_impl_NormalForm:=by kernel_rfl
theorem EN_impl_NormalForm:ENT Tryz.prog B_impl_NormalForm [(2,some (some 3)),(3,none)] 1 4 fn_impl_NormalForm:=fun hargs hw=>enter Tryz.func22 rfl IR_impl_NormalForm hargs hw
def H_impl_Transition_takes:Hint:=⟨[(0,false),(1,false),(2,true),(4,false)],[]⟩
def K126_1:C:=.seq (.pl <| .e 4 7 <|
 .m 4 1 <|
 .a 5 2 <|
 .g 6 5 2 1 <|
 .x 7 (.bin .and (.v 4) (.v 6)) <|
 .a 8 2 <|
 .g 9 8 2 2 <|
 .x 10 (.bin .eql (.v 7) (.v 9)) <|
 .m 3 10 .done) (.ret)
@[simp] def W126_1 := C.w K126_1.eq_1
def B_impl_Transition_takes:C:=.seq (.pl <| .e 4 0 <|
 .o (.pnew 2 (.v 0) []) <|
 .x 3 (.mv (.c (.bool false))) .done) K126_1
@[simp] def WB_impl_Transition_takes := C.w B_impl_Transition_takes.eq_1
def R_impl_Transition_takes:FIR:=⟨B_impl_Transition_takes,4,[(3,none)]⟩
theorem IR_impl_Transition_takes:cfun Tryz.prog H_impl_Transition_takes Tryz.f126=some R_impl_Transition_takes:=by kernel_rfl
theorem EN_impl_Transition_takes:ENT Tryz.prog B_impl_Transition_takes [(3,none)] 2 4 fn_impl_Transition_takes:=fun hargs hw=>enter Tryz.func126 rfl IR_impl_Transition_takes hargs hw
def H_impl_TranslateFormula:Hint:=⟨[(0,false),(1,true),(2,true),(3,false),(4,false),(5,false),(6,true),(8,false),(9,false),(10,true),(11,false),(12,false),(13,false),(30,false),(31,false),(32,false),(53,false),(54,false)],[[0,1,3,5,8,9,10,11,12,16,17],[0,1,3,4,5,8,9,11,12,13,14,15]]⟩
def K16_1:Pl:=.x 23 (.extract 0 (.v 22)) <|
 .x 24 (.extract 1 (.v 22)) <|
 .o (.pset none 2 0 3 (.v 23)) <|
 .m 3 24 .done
@[simp] def W16_1 := Pl.w K16_1.eq_1
def K16_2:C:=.seq (.pl <| .e 18 7 <|
 .m 18 10 <|
 .m 19 12 <|
 .l 20 7 <|
 .x 21 (.mkf (.func fn_impl_translator_moves) [.v 20] []) <|
 .c 22 (.call fn_impl_explore_impl_phased [.v 18,.v 19,.v 21]) K16_1) (.ret)
@[simp] def W16_2 := C.w K16_2.eq_1
def K16_3:C:=.seq (.pl <| .e 18 1 <|
 .x 18 (.mkf (.func fn_impl_TranslateFormula_1) [] [.v 7]) <|
 .m 12 18 .done) K16_2
@[simp] def W16_3 := C.w K16_3.eq_1
def K16_4:C:=.pl <| .e 18 1 <|
 .x 18 (.bin .add (.v 17) (.c (.int .i64 1))) <|
 .m 17 18 .done
@[simp] def W16_4 := C.w K16_4.eq_1
def K16_5:Pl:=.m 10 22 .done
@[simp] def W16_5 := Pl.w K16_5.eq_1
def K16_6:C:=.pl <| .e 18 5 <|
 .m 18 10 <|
 .m 19 11 <|
 .x 20 (.build [.int .i64 0,.int .i64 0] [(0,1,.v 19),(1,1,.c (.int .i64 0))]) <|
 .o (.psl 21 [.int .i64 0,.int .i64 0] [(0,2,.v 20)]) <|
 .c 22 (.app 16 2 [.int .i64 0,.int .i64 0] (.o (.v 18)) (.p 1 21)) K16_5
@[simp] def W16_6 := C.w K16_6.eq_1
def K16_7:C:=.cond 18 (.v 21) K16_6 (.skip)
@[simp] def W16_7 := C.w K16_7.eq_1
def K16_8:C:=.seq (.pl <| .e 18 4 <|
 .l 18 7 <|
 .o (.pget (some 19) none 6 0 (some 3)) <|
 .m 20 11 <|
 .c 21 (.call fn_impl_translator_holds [.v 18,.v 19,.v 20]) .done) K16_7
@[simp] def W16_8 := C.w K16_8.eq_1
def K16_9:C:=.seq (.block 3 (.seq (.pl <| .e 18 1 <|
 .m 18 17 <|
 .m 11 18 .done) K16_8)) K16_4
@[simp] def W16_9 := C.w K16_9.eq_1
def K16_10:C:=.seq (.cond 18 (.v 18) (.skip) (.exit 2)) K16_9
@[simp] def W16_10 := C.w K16_10.eq_1
def K16_11:C:=.seq (.pl <| .e 18 1 <|
 .x 18 (.bin .lss (.v 17) (.v 16)) .done) K16_10
@[simp] def W16_11 := C.w K16_11.eq_1
def K16_12:C:=.block 2 (.loop 18 [0,1,3,4,5,8,9,11,12,13,14,15] K16_11)
@[simp] def W16_12 := C.w K16_12.eq_1
def K16_13:C:=.seq (.seq (.pl <| .e 18 2 <|
 .m 18 4 <|
 .x 19 (.lenV (.v 18)) <|
 .x 16 (.bin .shl (.c (.int .i64 1)) (.v 19)) <|
 .x 17 (.mv (.c (.int .i64 0))) .done) K16_12) K16_3
@[simp] def W16_13 := C.w K16_13.eq_1
def K16_14:C:=.seq (.pl <| .e 18 0 <|
 .x 10 (.mv (.c (.slice none 0 0))) .done) K16_13
@[simp] def W16_14 := C.w K16_14.eq_1
def K16_15:C:=.pl <| .e 18 1 <|
 .x 18 (.bin .add (.v 15) (.c (.int .i64 1))) <|
 .m 15 18 .done
@[simp] def W16_15 := C.w K16_15.eq_1
def K16_16:Pl:=.st (.re 18 (.v 7) none none) <|
 .x 26 (.nilc (.v 18)) <|
 .x 27 (.fa 1 (.v 26)) <|
 .o (.ex none (.store 1 (.v 27) (.v 25))) .done
@[simp] def W16_16 := Pl.w K16_16.eq_1
def K16_17:C:=.pl <| .e 18 10 <|
 .l 18 7 <|
 .l 19 7 <|
 .x 20 (.nilc (.v 19)) <|
 .x 21 (.fa 1 (.v 20)) <|
 .l 22 21 <|
 .m 23 8 <|
 .o (.psl 24 [.int .i64 0] [(0,1,.v 23)]) <|
 .c 25 (.app 8 1 [.int .i64 0] (.o (.v 22)) (.p 1 24)) K16_16
@[simp] def W16_17 := C.w K16_17.eq_1
def K16_18:C:=.cond 18 (.v 20) K16_17 (.skip)
@[simp] def W16_18 := C.w K16_18.eq_1
def K16_19:C:=.seq (.pl <| .e 18 3 <|
 .a 18 9 <|
 .g 19 18 9 0 <|
 .x 20 (.bin .eql (.v 19) (.c (.int .i64 7))) .done) K16_18
@[simp] def W16_19 := C.w K16_19.eq_1
def K16_20:C:=.seq (.block 1 (.seq (.pl <| .e 18 3 <|
 .m 18 15 <|
 .x 19 (.ia 3 (.v 13) (.v 15)) <|
 .o (.ld (some 20) (.v 19) (some 3)) <|
 .o (.pnew 9 (.c (.agg #[.int .i64 0,.int .i64 0,.slice none 0 0])) []) <|
 .m 8 18 <|
 .o (.pset none 9 0 3 (.v 20)) .done) K16_19)) K16_15
@[simp] def W16_20 := C.w K16_20.eq_1
def K16_21:C:=.seq (.cond 18 (.v 18) (.skip) (.exit 0)) K16_20
@[simp] def W16_21 := C.w K16_21.eq_1
def K16_22:C:=.seq (.pl <| .e 18 1 <|
 .x 18 (.bin .lss (.v 15) (.v 14)) .done) K16_21
@[simp] def W16_22 := C.w K16_22.eq_1
def K16_23:C:=.block 0 (.loop 18 [0,1,3,5,8,9,10,11,12,16,17] K16_22)
@[simp] def W16_23 := C.w K16_23.eq_1
def K16_24:C:=.seq (.seq (.pl <| .e 18 0 <|
 .m 13 4 <|
 .x 14 (.lenV (.v 13)) <|
 .x 15 (.mv (.c (.int .i64 0))) .done) K16_23) K16_14
@[simp] def W16_24 := C.w K16_24.eq_1
def K16_25:Pl:=.o (.ex none (.store 1 (.v 7) (.v 20))) .done
@[simp] def W16_25 := Pl.w K16_25.eq_1
def K16_26:Pl:=.c 7 (.alloc (.c (.pointer none))) K16_25
@[simp] def W16_26 := Pl.w K16_26.eq_1
def K16_27:C:=.seq (.pl <| .e 18 3 <|
 .m 18 4 <|
 .x 19 (.build [.slice none 0 0,.slice none 0 0] [(0,1,.v 18)]) <|
 .c 20 (.alloc (.v 19)) K16_26) K16_24
@[simp] def W16_27 := C.w K16_27.eq_1
def K16_28:Pl:=.m 20 19 <|
 .x 21 (.extract 0 (.v 20)) <|
 .x 22 (.extract 1 (.v 20)) <|
 .o (.pnew 6 (.c (.agg #[.int .i64 0,.int .i64 0,.slice none 0 0])) []) <|
 .o (.pset none 6 0 3 (.v 21)) <|
 .m 23 22 .done
@[simp] def W16_28 := Pl.w K16_28.eq_1
def K16_29:C:=.seq (.pl <| .e 18 6 <|
 .o (.pget (some 18) none 1 0 (some 3)) <|
 .c 19 (.call fn_impl_Formula_normalForm [.v 18]) K16_28) K16_27
@[simp] def W16_29 := C.w K16_29.eq_1
def K16_30:C:=.seq (.pl <| .e 18 1 <|
 .x 18 (.build [.slice none 0 0,.slice none 0 0,.slice none 0 0] []) <|
 .o (.pset none 2 0 3 (.v 18)) <|
 .x 3 (.mv (.c (.bool false))) .done) (.ret)
@[simp] def W16_30 := C.w K16_30.eq_1
def K16_31:C:=.cond 18 (.v 19) K16_30 (.skip)
@[simp] def W16_31 := C.w K16_31.eq_1
def K16_32:C:=.seq (.seq (.pl <| .e 18 2 <|
 .m 18 5 <|
 .x 19 (.un .not (.v 18)) .done) K16_31) K16_29
@[simp] def W16_32 := C.w K16_32.eq_1
def K16_33:Pl:=.m 20 19 <|
 .x 21 (.extract 0 (.v 20)) <|
 .x 22 (.extract 1 (.v 20)) <|
 .m 4 21 <|
 .m 5 22 .done
@[simp] def W16_33 := Pl.w K16_33.eq_1
def K16_34:C:=.seq (.pl <| .e 18 5 <|
 .o (.pget (some 18) none 1 0 (some 3)) <|
 .c 19 (.call fn_impl_BasicFormulas [.v 18]) K16_33) K16_32
@[simp] def W16_34 := C.w K16_34.eq_1
def B_impl_TranslateFormula:C:=.seq (.pl <| .e 18 0 <|
 .o (.pnew 1 (.v 0) []) <|
 .o (.pnew 2 (.c (.agg #[.slice none 0 0,.slice none 0 0,.slice none 0 0])) []) <|
 .x 3 (.mv (.c (.bool false))) .done) K16_34
@[simp] def WB_impl_TranslateFormula := C.w B_impl_TranslateFormula.eq_1
def R_impl_TranslateFormula:FIR:=⟨B_impl_TranslateFormula,18,[(2,some (some 3)),(3,none)]⟩
theorem IR_impl_TranslateFormula:cfun Tryz.prog H_impl_TranslateFormula Tryz.f16=some R_impl_TranslateFormula:=by kernel_rfl
theorem EN_impl_TranslateFormula:ENT Tryz.prog B_impl_TranslateFormula [(2,some (some 3)),(3,none)] 1 18 fn_impl_TranslateFormula:=fun hargs hw=>enter Tryz.func16 rfl IR_impl_TranslateFormula hargs hw
def H_impl_TranslateFormula_1:Hint:=⟨[(0,false),(1,false),(2,true),(3,false)],[]⟩
def K54_1:Pl:=.n 10 (.px (some 19) (.pick (.v 14) (.v 18) (.c (.bool false)))) <|
 .x 20 (.pick (.v 10) (.c (.bool true)) (.v 19)) <|
 .m 3 20 .done
@[simp] def W54_1 := Pl.w K54_1.eq_1
def K54_2:C:=.seq (.pl <| .e 4 17 <|
 .l 4 1 <|
 .x 5 (.nilc (.v 4)) <|
 .x 6 (.fa 1 (.v 5)) <|
 .l 7 6 <|
 .x 8 (.lenV (.v 7)) <|
 .x 9 (.bin .eql (.v 8) (.c (.int .i64 0))) <|
 .m 10 9 <|
 .n 10 (.als 11 none 2) <|
 .n 10 (.pget (some 12) (some 11) 2 1 none) <|
 .n 10 (.px (some 13) (.bin .eql (.v 12) (.c (.int .i64 0)))) <|
 .n 10 (.px (some 14) (.mv (.v 13))) <|
 .y 14 (.ld (some 15) (.v 1) none) <|
 .y 14 (.als 16 none 2) <|
 .y 14 (.pget (some 17) (some 16) 2 0 none) <|
 .st (.act (some (.v 14,true)) (.ex (some 18) (.call fn_impl_translator_fulfils [.v 15,.v 17,.c (.int .i64 0)]))) K54_1) (.ret)
@[simp] def W54_2 := C.w K54_2.eq_1
def B_impl_TranslateFormula_1:C:=.seq (.pl <| .e 4 0 <|
 .o (.pnew 2 (.v 0) []) <|
 .x 3 (.mv (.c (.bool false))) .done) K54_2
@[simp] def WB_impl_TranslateFormula_1 := C.w B_impl_TranslateFormula_1.eq_1
def R_impl_TranslateFormula_1:FIR:=⟨B_impl_TranslateFormula_1,4,[(3,none)]⟩
theorem IR_impl_TranslateFormula_1:cfun Tryz.prog H_impl_TranslateFormula_1 Tryz.f54=some R_impl_TranslateFormula_1:=by kernel_rfl
theorem EN_impl_TranslateFormula_1:ENT Tryz.prog B_impl_TranslateFormula_1 [(3,none)] 2 4 fn_impl_TranslateFormula_1:=fun hargs hw=>enter Tryz.func54 rfl IR_impl_TranslateFormula_1 hargs hw
def H_impl_basics:Hint:=⟨[(0,false),(1,true),(2,false),(3,false),(5,true),(7,false),(8,false),(9,false)],[[0,1,2,4]]⟩
def K112_1:Pl:=.m 2 9 .done
@[simp] def W112_1 := Pl.w K112_1.eq_1
def K112_2:C:=.seq (.pl <| .e 8 2 <|
 .m 8 3 <|
 .c 9 (.call fn_slices_Clip_S_impl_Formula_impl_Formula [.v 8]) K112_1) (.ret)
@[simp] def W112_2 := C.w K112_2.eq_1
def K112_3:C:=.pl <| .e 8 1 <|
 .x 8 (.bin .add (.v 7) (.c (.int .i64 1))) <|
 .m 7 8 .done
@[simp] def W112_3 := C.w K112_3.eq_1
def K112_4:Pl:=.m 3 11 .done
@[simp] def W112_4 := Pl.w K112_4.eq_1
def K112_5:C:=.pl <| .e 8 4 <|
 .m 8 3 <|
 .o (.pget (some 9) none 4 0 (some 3)) <|
 .o (.psl 10 [.int .i64 0,.int .i64 0,.slice none 0 0] [(0,3,.v 9)]) <|
 .c 11 (.app 40 3 [.int .i64 0,.int .i64 0,.slice none 0 0] (.o (.v 8)) (.p 1 10)) K112_4
@[simp] def W112_5 := C.w K112_5.eq_1
def K112_6:C:=.cond 8 (.v 25) K112_5 (.skip)
@[simp] def W112_6 := C.w K112_6.eq_1
def K112_7:C:=.seq (.pl <| .e 8 18 <|
 .a 8 4 <|
 .g 9 8 4 0 <|
 .x 10 (.bin .eql (.v 9) (.c (.int .i64 2))) <|
 .m 11 10 <|
 .n 11 (.als 12 none 4) <|
 .n 11 (.pget (some 13) (some 12) 4 0 none) <|
 .n 11 (.px (some 14) (.bin .eql (.v 13) (.c (.int .i64 6)))) <|
 .x 15 (.pick (.v 11) (.c (.bool true)) (.v 14)) <|
 .m 16 15 <|
 .n 16 (.als 17 none 4) <|
 .n 16 (.pget (some 18) (some 17) 4 0 none) <|
 .n 16 (.px (some 19) (.bin .eql (.v 18) (.c (.int .i64 7)))) <|
 .x 20 (.pick (.v 16) (.c (.bool true)) (.v 19)) <|
 .m 21 20 <|
 .n 21 (.als 22 none 4) <|
 .n 21 (.pget (some 23) (some 22) 4 0 none) <|
 .n 21 (.px (some 24) (.bin .eql (.v 23) (.c (.int .i64 8)))) <|
 .x 25 (.pick (.v 21) (.c (.bool true)) (.v 24)) .done) K112_6
@[simp] def W112_7 := C.w K112_7.eq_1
def K112_8:C:=.seq (.block 1 (.seq (.pl <| .e 8 2 <|
 .x 8 (.ia 3 (.v 5) (.v 7)) <|
 .o (.ld (some 9) (.v 8) (some 3)) <|
 .o (.pnew 4 (.c (.agg #[.int .i64 0,.int .i64 0,.slice none 0 0])) []) <|
 .o (.pset none 4 0 3 (.v 9)) .done) K112_7)) K112_3
@[simp] def W112_8 := C.w K112_8.eq_1
def K112_9:C:=.seq (.cond 8 (.v 8) (.skip) (.exit 0)) K112_8
@[simp] def W112_9 := C.w K112_9.eq_1
def K112_10:C:=.seq (.pl <| .e 8 1 <|
 .x 8 (.bin .lss (.v 7) (.v 6)) .done) K112_9
@[simp] def W112_10 := C.w K112_10.eq_1
def K112_11:C:=.block 0 (.loop 8 [0,1,2,4] K112_10)
@[simp] def W112_11 := C.w K112_11.eq_1
def K112_12:Pl:=.x 6 (.lenV (.v 5)) <|
 .x 7 (.mv (.c (.int .i64 0))) .done
@[simp] def W112_12 := Pl.w K112_12.eq_1
def K112_13:C:=.seq (.seq (.pl <| .e 8 1 <|
 .o (.pget (some 8) none 1 0 (some 3)) <|
 .c 5 (.call fn_impl_Formula_subformulas [.v 8]) K112_12) K112_11) K112_2
@[simp] def W112_13 := C.w K112_13.eq_1
def K112_14:C:=.seq (.pl <| .e 8 0 <|
 .x 3 (.mv (.c (.slice none 0 0))) .done) K112_13
@[simp] def W112_14 := C.w K112_14.eq_1
def B_impl_basics:C:=.seq (.pl <| .e 8 0 <|
 .o (.pnew 1 (.v 0) []) <|
 .x 2 (.mv (.c (.slice none 0 0))) .done) K112_14
@[simp] def WB_impl_basics := C.w B_impl_basics.eq_1
def R_impl_basics:FIR:=⟨B_impl_basics,8,[(2,none)]⟩
theorem IR_impl_basics:cfun Tryz.prog H_impl_basics Tryz.f112=some R_impl_basics:=by kernel_rfl
theorem EN_impl_basics:ENT Tryz.prog B_impl_basics [(2,none)] 1 8 fn_impl_basics:=fun hargs hw=>enter Tryz.func112 rfl IR_impl_basics hargs hw
def H_impl_clone_bool:Hint:=⟨[(0,false),(2,false)],[]⟩
def K139_1:Pl:=.m 1 4 .done
@[simp] def W139_1 := Pl.w K139_1.eq_1
def K139_2:Pl:=.c 4 (.call fn_slices_Clip_S_bool_bool [.v 3]) K139_1
@[simp] def W139_2 := Pl.w K139_2.eq_1
def K139_3:C:=.seq (.pl <| .e 2 3 <|
 .m 2 0 <|
 .c 3 (.call fn_slices_Clone_S_bool_bool [.v 2]) K139_2) (.ret)
@[simp] def W139_3 := C.w K139_3.eq_1
def B_impl_clone_bool:C:=.seq (.pl <| .e 2 0 <|
 .x 1 (.mv (.c (.slice none 0 0))) .done) K139_3
@[simp] def WB_impl_clone_bool := C.w B_impl_clone_bool.eq_1
def R_impl_clone_bool:FIR:=⟨B_impl_clone_bool,2,[(1,none)]⟩
theorem IR_impl_clone_bool:cfun Tryz.prog H_impl_clone_bool Tryz.f139=some R_impl_clone_bool:=by kernel_rfl
theorem EN_impl_clone_bool:ENT Tryz.prog B_impl_clone_bool [(1,none)] 1 2 fn_impl_clone_bool:=fun hargs hw=>enter Tryz.func139 rfl IR_impl_clone_bool hargs hw
def H_impl_clone_impl_Formula:Hint:=⟨[(0,false),(2,false)],[]⟩
def K186_1:Pl:=.m 1 4 .done
@[simp] def W186_1 := Pl.w K186_1.eq_1
def K186_2:Pl:=.c 4 (.call fn_slices_Clip_S_impl_Formula_impl_Formula [.v 3]) K186_1
@[simp] def W186_2 := Pl.w K186_2.eq_1
def K186_3:C:=.seq (.pl <| .e 2 3 <|
 .m 2 0 <|
 .c 3 (.call fn_slices_Clone_S_impl_Formula_impl_Formula [.v 2]) K186_2) (.ret)
@[simp] def W186_3 := C.w K186_3.eq_1
def B_impl_clone_impl_Formula:C:=.seq (.pl <| .e 2 0 <|
 .x 1 (.mv (.c (.slice none 0 0))) .done) K186_3
@[simp] def WB_impl_clone_impl_Formula := C.w B_impl_clone_impl_Formula.eq_1
def R_impl_clone_impl_Formula:FIR:=⟨B_impl_clone_impl_Formula,2,[(1,none)]⟩
theorem IR_impl_clone_impl_Formula:cfun Tryz.prog H_impl_clone_impl_Formula Tryz.f186=some R_impl_clone_impl_Formula:=by kernel_rfl
theorem EN_impl_clone_impl_Formula:ENT Tryz.prog B_impl_clone_impl_Formula [(1,none)] 1 2 fn_impl_clone_impl_Formula:=fun hargs hw=>enter Tryz.func186 rfl IR_impl_clone_impl_Formula hargs hw
def H_impl_clone_impl_Transition:Hint:=⟨[(0,false),(2,false)],[]⟩
def K140_1:Pl:=.m 1 4 .done
@[simp] def W140_1 := Pl.w K140_1.eq_1
def K140_2:Pl:=.c 4 (.call fn_slices_Clip_S_impl_Transition_impl_Transition [.v 3]) K140_1
@[simp] def W140_2 := Pl.w K140_2.eq_1
def K140_3:C:=.seq (.pl <| .e 2 3 <|
 .m 2 0 <|
 .c 3 (.call fn_slices_Clone_S_impl_Transition_impl_Transition [.v 2]) K140_2) (.ret)
@[simp] def W140_3 := C.w K140_3.eq_1
def B_impl_clone_impl_Transition:C:=.seq (.pl <| .e 2 0 <|
 .x 1 (.mv (.c (.slice none 0 0))) .done) K140_3
@[simp] def WB_impl_clone_impl_Transition := C.w B_impl_clone_impl_Transition.eq_1
def R_impl_clone_impl_Transition:FIR:=⟨B_impl_clone_impl_Transition,2,[(1,none)]⟩
theorem IR_impl_clone_impl_Transition:cfun Tryz.prog H_impl_clone_impl_Transition Tryz.f140=some R_impl_clone_impl_Transition:=by kernel_rfl
theorem EN_impl_clone_impl_Transition:ENT Tryz.prog B_impl_clone_impl_Transition [(1,none)] 1 2 fn_impl_clone_impl_Transition:=fun hargs hw=>enter Tryz.func140 rfl IR_impl_clone_impl_Transition hargs hw
def H_impl_clone_int:Hint:=⟨[(0,false),(2,false)],[]⟩
def K76_1:Pl:=.m 1 4 .done
@[simp] def W76_1 := Pl.w K76_1.eq_1
def K76_2:Pl:=.c 4 (.call fn_slices_Clip_S_int_int [.v 3]) K76_1
@[simp] def W76_2 := Pl.w K76_2.eq_1
def K76_3:C:=.seq (.pl <| .e 2 3 <|
 .m 2 0 <|
 .c 3 (.call fn_slices_Clone_S_int_int [.v 2]) K76_2) (.ret)
@[simp] def W76_3 := C.w K76_3.eq_1
def B_impl_clone_int:C:=.seq (.pl <| .e 2 0 <|
 .x 1 (.mv (.c (.slice none 0 0))) .done) K76_3
@[simp] def WB_impl_clone_int := C.w B_impl_clone_int.eq_1
def R_impl_clone_int:FIR:=⟨B_impl_clone_int,2,[(1,none)]⟩
theorem IR_impl_clone_int:cfun Tryz.prog H_impl_clone_int Tryz.f76=some R_impl_clone_int:=by kernel_rfl
theorem EN_impl_clone_int:ENT Tryz.prog B_impl_clone_int [(1,none)] 1 2 fn_impl_clone_int:=fun hargs hw=>enter Tryz.func76 rfl IR_impl_clone_int hargs hw
def H_impl_components:Hint:=⟨[(0,false),(1,false),(2,false),(3,false),(4,false),(5,false),(6,false),(7,false),(8,false),(9,false),(10,false),(11,false),(12,false),(13,false),(14,false),(15,false),(17,false),(27,false),(28,false),(36,false),(37,false),(50,false),(51,false),(52,false)],[[0,2,7,8,9,10,11,12,13,14,15,16,19,20,21,22,23],[0,1,2,3,5,7,8,9,10,12,13,14,15,16,17,18,21,22,23],[0,1,2,3,4,5,7,8,9,10,11,12,14,15,16,17,18,19,20]]⟩
def K179_1:C:=.seq (.pl <| .e 24 1 <|
 .l 24 6 <|
 .m 2 24 .done) (.ret)
@[simp] def W179_1 := C.w K179_1.eq_1
def K179_2:C:=.pl <| .e 24 1 <|
 .x 24 (.bin .add (.v 23) (.c (.int .i64 1))) <|
 .m 23 24 .done
@[simp] def W179_2 := C.w K179_2.eq_1
def K179_3:Pl:=.x 29 (.ia 1 (.v 24) (.v 25)) <|
 .o (.ex none (.store 1 (.v 29) (.v 28))) .done
@[simp] def W179_3 := Pl.w K179_3.eq_1
def K179_4:C:=.pl <| .e 24 6 <|
 .l 24 6 <|
 .m 25 14 <|
 .m 26 13 <|
 .m 27 15 <|
 .c 28 (.mget (.one .i) (.int .i64 0) false (.v 26) (.v 27)) K179_3
@[simp] def W179_4 := C.w K179_4.eq_1
def K179_5:Pl:=.o (.ex none (.mput (.one .i) (.v 24) (.v 25) (.v 27))) .done
@[simp] def W179_5 := Pl.w K179_5.eq_1
def K179_6:C:=.pl <| .e 24 4 <|
 .m 24 13 <|
 .m 25 15 <|
 .m 26 13 <|
 .c 27 (.mlen (.v 26)) K179_5
@[simp] def W179_6 := C.w K179_6.eq_1
def K179_7:C:=.cond 24 (.v 25) K179_6 (.skip)
@[simp] def W179_7 := C.w K179_7.eq_1
def K179_8:C:=.seq (.pl <| .e 24 2 <|
 .m 24 16 <|
 .x 25 (.un .not (.v 24)) .done) K179_7
@[simp] def W179_8 := C.w K179_8.eq_1
def K179_9:Pl:=.m 27 26 <|
 .x 28 (.extract 0 (.v 27)) <|
 .x 29 (.extract 1 (.v 27)) <|
 .m 30 28 <|
 .m 16 29 .done
@[simp] def W179_9 := Pl.w K179_9.eq_1
def K179_10:C:=.seq (.seq (.pl <| .e 24 7 <|
 .m 24 13 <|
 .m 25 15 <|
 .c 26 (.mget (.one .i) (.int .i64 0) true (.v 24) (.v 25)) K179_9) K179_8) K179_4
@[simp] def W179_10 := C.w K179_10.eq_1
def K179_11:C:=.seq (.block 5 (.seq (.pl <| .e 24 3 <|
 .m 24 23 <|
 .x 25 (.ia 1 (.v 21) (.v 23)) <|
 .l 26 25 <|
 .m 14 24 <|
 .m 15 26 .done) K179_10)) K179_2
@[simp] def W179_11 := C.w K179_11.eq_1
def K179_12:C:=.seq (.cond 24 (.v 24) (.skip) (.exit 4)) K179_11
@[simp] def W179_12 := C.w K179_12.eq_1
def K179_13:C:=.seq (.pl <| .e 24 1 <|
 .x 24 (.bin .lss (.v 23) (.v 22)) .done) K179_12
@[simp] def W179_13 := C.w K179_13.eq_1
def K179_14:C:=.block 4 (.loop 24 [0,1,2,3,4,5,7,8,9,10,11,12,14,15,16,17,18,19,20] K179_13)
@[simp] def W179_14 := C.w K179_14.eq_1
def K179_15:C:=.seq (.seq (.pl <| .e 24 0 <|
 .l 21 6 <|
 .x 22 (.lenV (.v 21)) <|
 .x 23 (.mv (.c (.int .i64 0))) .done) K179_14) K179_1
@[simp] def W179_15 := C.w K179_15.eq_1
def K179_16:Pl:=.m 13 24 .done
@[simp] def W179_16 := Pl.w K179_16.eq_1
def K179_17:C:=.seq (.pl <| .e 24 1 <|
 .c 24 (.mkm) K179_16) K179_15
@[simp] def W179_17 := C.w K179_17.eq_1
def K179_18:C:=.pl <| .e 24 1 <|
 .x 24 (.bin .add (.v 20) (.c (.int .i64 1))) <|
 .m 20 24 .done
@[simp] def W179_18 := C.w K179_18.eq_1
def K179_19:C:=.pl <| .e 24 3 <|
 .l 24 11 <|
 .m 25 12 <|
 .c 26 (.callv (.v 24) [.v 25]) .done
@[simp] def W179_19 := C.w K179_19.eq_1
def K179_20:C:=.cond 24 (.v 28) K179_19 (.skip)
@[simp] def W179_20 := C.w K179_20.eq_1
def K179_21:C:=.seq (.pl <| .e 24 5 <|
 .l 24 4 <|
 .m 25 12 <|
 .x 26 (.ia 1 (.v 24) (.v 25)) <|
 .l 27 26 <|
 .x 28 (.bin .eql (.v 27) (.c (.int .i64 0))) .done) K179_20
@[simp] def W179_21 := C.w K179_21.eq_1
def K179_22:C:=.seq (.block 3 (.seq (.pl <| .e 24 1 <|
 .m 24 20 <|
 .m 12 24 .done) K179_21)) K179_18
@[simp] def W179_22 := C.w K179_22.eq_1
def K179_23:C:=.seq (.cond 24 (.v 24) (.skip) (.exit 2)) K179_22
@[simp] def W179_23 := C.w K179_23.eq_1
def K179_24:C:=.seq (.pl <| .e 24 1 <|
 .x 24 (.bin .lss (.v 20) (.v 19)) .done) K179_23
@[simp] def W179_24 := C.w K179_24.eq_1
def K179_25:C:=.block 2 (.loop 24 [0,1,2,3,5,7,8,9,10,12,13,14,15,16,17,18,21,22,23] K179_24)
@[simp] def W179_25 := C.w K179_25.eq_1
def K179_26:C:=.seq (.seq (.pl <| .e 24 0 <|
 .m 19 3 <|
 .x 20 (.mv (.c (.int .i64 0))) .done) K179_25) K179_17
@[simp] def W179_26 := C.w K179_26.eq_1
def K179_27:C:=.seq (.pl <| .e 24 1 <|
 .x 24 (.mkf (.func fn_impl_components_1) [] [.v 9,.v 4,.v 5,.v 8,.v 1,.v 11,.v 6,.v 10]) <|
 .o (.ex none (.store 1 (.v 11) (.v 24))) .done) K179_26
@[simp] def W179_27 := C.w K179_27.eq_1
def K179_28:C:=.seq (.pl <| .e 24 0 <|
 .c 11 (.alloc (.c (.nilFunc))) .done) K179_27
@[simp] def W179_28 := C.w K179_28.eq_1
def K179_29:Pl:=.o (.ex none (.store 1 (.v 10) (.c (.int .i64 0)))) .done
@[simp] def W179_29 := Pl.w K179_29.eq_1
def K179_30:Pl:=.o (.ex none (.store 1 (.v 9) (.c (.int .i64 0)))) K179_29
@[simp] def W179_30 := Pl.w K179_30.eq_1
def K179_31:Pl:=.c 10 (.alloc (.c (.int .i64 0))) K179_30
@[simp] def W179_31 := Pl.w K179_31.eq_1
def K179_32:C:=.seq (.pl <| .e 24 0 <|
 .c 9 (.alloc (.c (.int .i64 0))) K179_31) K179_28
@[simp] def W179_32 := C.w K179_32.eq_1
def K179_33:C:=.seq (.pl <| .e 24 0 <|
 .c 8 (.alloc (.c (.slice none 0 0))) .done) K179_32
@[simp] def W179_33 := C.w K179_33.eq_1
def K179_34:C:=.pl <| .e 24 1 <|
 .x 24 (.bin .add (.v 18) (.c (.int .i64 1))) <|
 .m 18 24 .done
@[simp] def W179_34 := C.w K179_34.eq_1
def K179_35:C:=.pl <| .e 24 3 <|
 .l 24 6 <|
 .m 25 7 <|
 .x 26 (.ia 1 (.v 24) (.v 25)) <|
 .o (.ex none (.store 1 (.v 26) (.c (.int .i64 (-1))))) .done
@[simp] def W179_35 := C.w K179_35.eq_1
def K179_36:C:=.seq (.block 1 (.seq (.pl <| .e 24 1 <|
 .m 24 18 <|
 .m 7 24 .done) K179_35)) K179_34
@[simp] def W179_36 := C.w K179_36.eq_1
def K179_37:C:=.seq (.cond 24 (.v 24) (.skip) (.exit 0)) K179_36
@[simp] def W179_37 := C.w K179_37.eq_1
def K179_38:C:=.seq (.pl <| .e 24 1 <|
 .x 24 (.bin .lss (.v 18) (.v 17)) .done) K179_37
@[simp] def W179_38 := C.w K179_38.eq_1
def K179_39:C:=.block 0 (.loop 24 [0,2,7,8,9,10,11,12,13,14,15,16,19,20,21,22,23] K179_38)
@[simp] def W179_39 := C.w K179_39.eq_1
def K179_40:C:=.seq (.seq (.pl <| .e 24 1 <|
 .l 24 6 <|
 .x 17 (.lenV (.v 24)) <|
 .x 18 (.mv (.c (.int .i64 0))) .done) K179_39) K179_33
@[simp] def W179_40 := C.w K179_40.eq_1
def K179_41:Pl:=.o (.ex none (.store 1 (.v 6) (.v 29))) .done
@[simp] def W179_41 := Pl.w K179_41.eq_1
def K179_42:Pl:=.o (.ex none (.store 1 (.v 5) (.v 27))) K179_41
@[simp] def W179_42 := Pl.w K179_42.eq_1
def K179_43:Pl:=.o (.ex none (.store 1 (.v 4) (.v 25))) K179_42
@[simp] def W179_43 := Pl.w K179_43.eq_1
def K179_44:Pl:=.c 6 (.alloc (.c (.slice none 0 0))) K179_43
@[simp] def W179_44 := Pl.w K179_44.eq_1
def K179_45:Pl:=.c 5 (.alloc (.c (.slice none 0 0))) K179_44
@[simp] def W179_45 := Pl.w K179_45.eq_1
def K179_46:Pl:=.c 4 (.alloc (.c (.slice none 0 0))) K179_45
@[simp] def W179_46 := Pl.w K179_46.eq_1
def K179_47:Pl:=.m 28 3 <|
 .c 29 (.mks 8 1 [.int .i64 0] (.v 28) (.v 28)) K179_46
@[simp] def W179_47 := Pl.w K179_47.eq_1
def K179_48:Pl:=.m 26 3 <|
 .c 27 (.mks 8 1 [.int .i64 0] (.v 26) (.v 26)) K179_47
@[simp] def W179_48 := Pl.w K179_48.eq_1
def K179_49:C:=.seq (.pl <| .e 24 6 <|
 .m 24 3 <|
 .c 25 (.mks 8 1 [.int .i64 0] (.v 24) (.v 24)) K179_48) K179_40
@[simp] def W179_49 := C.w K179_49.eq_1
def K179_50:C:=.seq (.pl <| .e 24 2 <|
 .l 24 1 <|
 .x 25 (.lenV (.v 24)) <|
 .m 3 25 .done) K179_49
@[simp] def W179_50 := C.w K179_50.eq_1
def K179_51:Pl:=.x 2 (.mv (.c (.slice none 0 0))) .done
@[simp] def W179_51 := Pl.w K179_51.eq_1
def B_impl_components:C:=.seq (.pl <| .e 24 0 <|
 .c 1 (.alloc (.v 0)) K179_51) K179_50
@[simp] def WB_impl_components := C.w B_impl_components.eq_1
def R_impl_components:FIR:=⟨B_impl_components,24,[(2,none)]⟩
theorem IR_impl_components:cfun Tryz.prog H_impl_components Tryz.f179=some R_impl_components:=by kernel_rfl
theorem EN_impl_components:ENT Tryz.prog B_impl_components [(2,none)] 1 24 fn_impl_components:=fun hargs hw=>enter Tryz.func179 rfl IR_impl_components hargs hw
end Go.Proofs.YtbanccfdojgocaaGreat

namespace Go.Proofs.YtbanccfdojgocaaGreat
open Go
end Go.Proofs.YtbanccfdojgocaaGreat

namespace Go.Proofs.YtbanccfdojgocaaGreat
open Go
end Go.Proofs.YtbanccfdojgocaaGreat

namespace Go.Proofs.YtbanccfdojgocaaGreat
open Go
end Go.Proofs.YtbanccfdojgocaaGreat

namespace Go.Proofs.YtbanccfdojgocaaGreat
open Go
end Go.Proofs.YtbanccfdojgocaaGreat

namespace Go.Proofs.YtbanccfdojgocaaGreat
open Go
theorem c_Clone_int {h:Heap}{a:Value}{x:List Int}(Ra:Rep h a x) (hs:x.length≤1073741824):CallE Tryz.prog fn_slices_Clone_S_int_int [a] h (fun v h'=>HS h [ow v x] h'):=by
 refine CallE.gen fun k hk=>EN_slices_Clone_S_int_int rfl ?_
 obtain⟨b,hb,hb2⟩:=Ra.isNil
 simp -implicitDefEqProofs (disch:=first|omega|(simp only[LnZ];omega))[wrap64,hb]
 refine IteW.mk (fun h1=>?_) (fun h1=>?_)
 ·simp -implicitDefEqProofs (disch:=first|omega|(simp only[LnZ];omega))[wrap64]
  have h2:x=[]:=hb2 h1
  subst h2
  exact RetK.keep (hk _ _ HS.init.nil_ow)
 ·simp -implicitDefEqProofs (disch:=first|omega|(simp only[LnZ];omega))[wrap64]
  refine HS.init.appPL (α:=Int) (l2:=x) (u:=a) rfl rfl Ra rfl rfl (by omega) fun v h1 H=>?_
  simp -implicitDefEqProofs (disch:=first|omega|(simp only[LnZ];omega))[wrap64]
  exact RetK.keep (hk _ _ H)
theorem c_Clip_int {g h:Heap}{Γ:List HP}{a:Value}{x:List Int}(H:HS g (ow a x::Γ) h):CallE Tryz.prog fn_slices_Clip_S_int_int [a] h (fun v h'=>HS g (ow v x::Γ) h'):=by
 refine CallE.gen fun k hk=>EN_slices_Clip_S_int_int rfl ?_
 obtain⟨v',h1,h2⟩:=H.clip (esz:=1) (k:=.i64)
 simp -implicitDefEqProofs (disch:=first|omega|(simp only[LnZ];omega))[wrap64,H.rep.I,h1]
 exact RetK.keep (hk _ _ h2)
theorem c_clone_int {h:Heap}{a:Value}{x:List Int}(Ra:Rep h a x) (hs:x.length≤1073741824):CallE Tryz.prog fn_impl_clone_int [a] h (fun v h'=>HS h [ow v x] h'):=by
 refine CallE.gen fun k hk=>EN_impl_clone_int rfl ?_
 simp -implicitDefEqProofs (disch:=first|omega|(simp only[LnZ];omega))[wrap64]
 refine (c_Clone_int Ra hs).go ?_
 intro v h1 H
 simp -implicitDefEqProofs (disch:=first|omega|(simp only[LnZ];omega))[wrap64]
 refine (c_Clip_int H).go ?_
 intro v' h2 H
 simp -implicitDefEqProofs (disch:=first|omega|(simp only[LnZ];omega))[wrap64]
 exact RetK.keep (hk _ _ H)
theorem c_Clone_bool {h:Heap}{a:Value}{x:List Bool}(Ra:Rep h a x) (hs:x.length≤1073741824):CallE Tryz.prog fn_slices_Clone_S_bool_bool [a] h (fun v h'=>HS h [ow v x] h'):=by
 refine CallE.gen fun k hk=>EN_slices_Clone_S_bool_bool rfl ?_
 obtain⟨b,hb,hb2⟩:=Ra.isNil
 simp -implicitDefEqProofs (disch:=first|omega|(simp only[LnZ];omega))[wrap64,hb]
 refine IteW.mk (fun h1=>?_) (fun h1=>?_)
 ·simp -implicitDefEqProofs (disch:=first|omega|(simp only[LnZ];omega))[wrap64]
  have h2:x=[]:=hb2 h1
  subst h2
  exact RetK.keep (hk _ _ HS.init.nil_ow)
 ·simp -implicitDefEqProofs (disch:=first|omega|(simp only[LnZ];omega))[wrap64]
  refine HS.init.appPL (α:=Bool) (l2:=x) (u:=a) rfl rfl Ra rfl rfl (by omega) fun v h1 H=>?_
  simp -implicitDefEqProofs (disch:=first|omega|(simp only[LnZ];omega))[wrap64]
  exact RetK.keep (hk _ _ H)
theorem c_Clip_bool {g h:Heap}{Γ:List HP}{a:Value}{x:List Bool}(H:HS g (ow a x::Γ) h):CallE Tryz.prog fn_slices_Clip_S_bool_bool [a] h (fun v h'=>HS g (ow v x::Γ) h'):=by
 refine CallE.gen fun k hk=>EN_slices_Clip_S_bool_bool rfl ?_
 obtain⟨v',h1,h2⟩:=H.clip (esz:=1) (k:=.i64)
 simp -implicitDefEqProofs (disch:=first|omega|(simp only[LnZ];omega))[wrap64,H.rep.B,h1]
 exact RetK.keep (hk _ _ h2)
theorem c_clone_bool {h:Heap}{a:Value}{x:List Bool}(Ra:Rep h a x) (hs:x.length≤1073741824):CallE Tryz.prog fn_impl_clone_bool [a] h (fun v h'=>HS h [ow v x] h'):=by
 refine CallE.gen fun k hk=>EN_impl_clone_bool rfl ?_
 simp -implicitDefEqProofs (disch:=first|omega|(simp only[LnZ];omega))[wrap64]
 refine (c_Clone_bool Ra hs).go ?_
 intro v h1 H
 simp -implicitDefEqProofs (disch:=first|omega|(simp only[LnZ];omega))[wrap64]
 refine (c_Clip_bool H).go ?_
 intro v' h2 H
 simp -implicitDefEqProofs (disch:=first|omega|(simp only[LnZ];omega))[wrap64]
 exact RetK.keep (hk _ _ H)
theorem c_Clone_impl_Transition {h:Heap}{a:Value}{x:List Tr}(Ra:Rep h a x) (hs:x.length≤1073741824):CallE Tryz.prog fn_slices_Clone_S_impl_Transition_impl_Transition [a] h (fun v h'=>HS h [ow v x] h'):=by
 refine CallE.gen fun k hk=>EN_slices_Clone_S_impl_Transition_impl_Transition rfl ?_
 obtain⟨b,hb,hb2⟩:=Ra.isNil
 simp -implicitDefEqProofs (disch:=first|omega|(simp only[LnZ];omega))[wrap64,hb]
 refine IteW.mk (fun h1=>?_) (fun h1=>?_)
 ·simp -implicitDefEqProofs (disch:=first|omega|(simp only[LnZ];omega))[wrap64]
  have h2:x=[]:=hb2 h1
  subst h2
  exact RetK.keep (hk _ _ HS.init.nil_ow)
 ·simp -implicitDefEqProofs (disch:=first|omega|(simp only[LnZ];omega))[wrap64]
  refine HS.init.appPL (α:=Tr) (l2:=x) (u:=a) rfl rfl Ra rfl rfl (by omega) fun v h1 H=>?_
  simp -implicitDefEqProofs (disch:=first|omega|(simp only[LnZ];omega))[wrap64]
  exact RetK.keep (hk _ _ H)
theorem c_Clip_impl_Transition {g h:Heap}{Γ:List HP}{a:Value}{x:List Tr}(H:HS g (ow a x::Γ) h):CallE Tryz.prog fn_slices_Clip_S_impl_Transition_impl_Transition [a] h (fun v h'=>HS g (ow v x::Γ) h'):=by
 refine CallE.gen fun k hk=>EN_slices_Clip_S_impl_Transition_impl_Transition rfl ?_
 obtain⟨v',h1,h2⟩:=H.clip (esz:=4) (k:=.i64)
 simp -implicitDefEqProofs (disch:=first|omega|(simp only[LnZ];omega))[wrap64,H.rep.xTr,h1]
 exact RetK.keep (hk _ _ h2)
theorem c_clone_impl_Transition {h:Heap}{a:Value}{x:List Tr}(Ra:Rep h a x) (hs:x.length≤1073741824):CallE Tryz.prog fn_impl_clone_impl_Transition [a] h (fun v h'=>HS h [ow v x] h'):=by
 refine CallE.gen fun k hk=>EN_impl_clone_impl_Transition rfl ?_
 simp -implicitDefEqProofs (disch:=first|omega|(simp only[LnZ];omega))[wrap64]
 refine (c_Clone_impl_Transition Ra hs).go ?_
 intro v h1 H
 simp -implicitDefEqProofs (disch:=first|omega|(simp only[LnZ];omega))[wrap64]
 refine (c_Clip_impl_Transition H).go ?_
 intro v' h2 H
 simp -implicitDefEqProofs (disch:=first|omega|(simp only[LnZ];omega))[wrap64]
 exact RetK.keep (hk _ _ H)
theorem c_IndexFunc_impl_Transition {h:Heap}{a fv:Value}{x:List Tr}(Ra:Rep h a x) {f:FuncId}{c1 c2:List Value}(hf:fnOf fv=some (f,c1,c2)) (p:Tr→Bool)
  (hp:∀h1,h.le h1→∀(i:Nat) (hi:i<x.length) (u:Value),Rep h1 u x[i]→CallE Tryz.prog f (c1++u::c2) h1 (fun v h'=>h1.le h'∧v=.bool (p x[i]))) :
  CallE Tryz.prog fn_slices_IndexFunc_S_impl_Transition_impl_Transition [a,fv] h (fun v h'=>h.le h'∧v=.int .i64 (match x.findIdx? p with | some i=>(i:Int) | none=>-1)):=by
 refine CallE.gen fun k hk=>EN_slices_IndexFunc_S_impl_Transition_impl_Transition rfl ?_
 have hL:=Ra.lt
 simp -implicitDefEqProofs (disch:=first|omega|(simp only[LnZ];omega))[wrap64,Ra.len]
 refine wp_count x.length (fun i e h'=>e=[some a,some fv,none,none,some (.int .i64 x.length),some (.int .i64 i)]∧h.le h'∧∀(j:Nat) (hj:j<x.length),j<i→p x[j]=false) ⟨rfl,Heap.le.refl h,fun j _ hj=>absurd hj (Nat.not_lt_zero j)⟩ ?_
 rintro J i _ h1 hJ hi ⟨rfl,hl,hn⟩
 simp -implicitDefEqProofs (disch:=first|omega|(simp only[LnZ];omega))[wrap64]
 refine IteW.mk (fun hlt=>?_) (fun hge=>?_)
 ·have hlx:i<x.length:=by omega
  obtain⟨u,hu,Ru⟩:=(Ra.le hl).ld hlx
  change hload _ (some (elp 4 a i)) (some 4)=some u at hu
  simp -implicitDefEqProofs (disch:=first|omega|(simp only[LnZ];omega))[wrap64,(Ra.le hl).X (n:=4) rfl,hu,hf]
  refine (hp h1 hl i hlx u Ru).go ?_
  rintro _ h2 ⟨hl2,rfl⟩
  simp -implicitDefEqProofs (disch:=first|omega|(simp only[LnZ];omega))[wrap64]
  refine IteW.mk (fun hq=>?_) (fun hq=>?_)
  ·simp -implicitDefEqProofs (disch:=first|omega|(simp only[LnZ];omega))[wrap64]
   refine RetK.keep (hk _ _ ⟨hl.trans hl2,?_⟩)
   have h3:x.findIdx? p=some i:=by
    rw[List.findIdx?_eq_some_iff_getElem]
    exact⟨hlx,hq,fun j hj=>by rw[hn j (by omega) hj]; simp⟩
   rw[h3]
  ·simp -implicitDefEqProofs (disch:=first|omega|(simp only[LnZ];omega))[wrap64]
   refine hJ _ _ hlx ⟨rfl,hl.trans hl2,fun j hj hji=>?_⟩
   by_cases hji2:j=i
   ·subst hji2; simpa using hq
   ·exact hn j hj (by omega)
 ·simp -implicitDefEqProofs (disch:=first|omega|(simp only[LnZ];omega))[wrap64]
  refine RetK.keep (hk _ _ ⟨hl,?_⟩)
  have h3:x.findIdx? p=none:=by
   rw[List.findIdx?_eq_none_iff]
   intro y hy
   obtain⟨j,hj,rfl⟩:=List.mem_iff_getElem.1 hy
   exact hn j hj (by omega)
  rw[h3]
theorem c_ContainsFunc_impl_Transition {h:Heap}{a fv:Value}{x:List Tr}(Ra:Rep h a x) {f:FuncId}{c1 c2:List Value}(hf:fnOf fv=some (f,c1,c2)) (p:Tr→Bool)
  (hp:∀h1,h.le h1→∀(i:Nat) (hi:i<x.length) (u:Value),Rep h1 u x[i]→CallE Tryz.prog f (c1++u::c2) h1 (fun v h'=>h1.le h'∧v=.bool (p x[i]))) :
  CallE Tryz.prog fn_slices_ContainsFunc_S_impl_Transition_impl_Transition [a,fv] h (fun v h'=>h.le h'∧v=.bool (x.any p)):=by
 refine CallE.gen fun k hk=>EN_slices_ContainsFunc_S_impl_Transition_impl_Transition rfl ?_
 simp -implicitDefEqProofs (disch:=first|omega|(simp only[LnZ];omega))[wrap64]
 refine (c_IndexFunc_impl_Transition Ra hf p hp).go ?_
 rintro _ h1 ⟨hl,rfl⟩
 simp -implicitDefEqProofs (disch:=first|omega|(simp only[LnZ];omega))[wrap64]
 refine RetK.keep (hk _ _ ⟨hl,?_⟩)
 congr 1
 rw[← List.findIdx?_isSome]
 cases x.findIdx? p <;> simp
end Go.Proofs.YtbanccfdojgocaaGreat

namespace Go.Proofs.YtbanccfdojgocaaGreat
open Go
theorem empty_ow {g h:Heap}{Γ:List HP}(H:HS g Γ h):HS g (ow (.agg #[.slice none 0 0,.slice none 0 0,.slice none 0 0]) Aut.empty::Γ) h:=
 HS.mkAut (a:=Aut.empty) H.nil_ow.nil_ow.nil_ow
theorem c_copyOf {h:Heap}{v:Value}{a:Aut}(Ra:Rep h v a) (h1:a.init.length≤1073741824) (h2:a.acc.length≤1073741824) (h3:a.edges.length≤1073741824):CallE Tryz.prog fn_impl_Automaton_copyOf [v] h (fun v h'=>HS h [ow v a] h'):=by
 obtain⟨v1,v2,v3,rfl,R1,R2,R3⟩:=Rep_Aut.1 Ra
 refine CallE.gen fun k hk=>EN_impl_Automaton_copyOf rfl ?_
 simp -implicitDefEqProofs (disch:=first|omega|(simp only[LnZ];omega))[wrap64]
 refine (c_clone_int R1 h1).go ?_
 intro u1 m1 H
 simp -implicitDefEqProofs (disch:=first|omega|(simp only[LnZ];omega))[wrap64]
 refine (c_clone_bool (R2.on H) h2).go ?_
 intro u2 m2 H2
 have H:=H2.app H
 simp -implicitDefEqProofs (disch:=first|omega|(simp only[LnZ];omega))[wrap64]
 refine (c_clone_impl_Transition (R3.on H) h3).go ?_
 intro u3 m3 H3
 have H:=H3.app H
 simp -implicitDefEqProofs (disch:=first|omega|(simp only[LnZ];omega))[wrap64,H.rep.cells,H.rep.one,H.sw1.rep.cells,H.sw1.rep.one,H.sw2.rep.cells,H.sw2.rep.one,setC]
 exact RetK.keep (hk _ _ (HS.mkAut H.sw1.sw2))
theorem c_in {h:Heap}{n lo hi:Int}:CallE Tryz.prog fn_impl_in [.int .i64 n,.int .i64 lo,.int .i64 hi] h (fun u h'=>h'=h∧u=.bool (decide (lo≤n∧n≤hi))):=by
 refine CallE.gen fun k hk=>EN_impl_in rfl ?_
 by_cases h1:lo≤n
 ·simp -implicitDefEqProofs (disch:=first|omega|(simp only[LnZ];omega))[wrap64,h1]
  exact RetK.keep (hk _ _ ⟨rfl,by simp[h1]⟩)
 ·simp -implicitDefEqProofs (disch:=first|omega|(simp only[LnZ];omega))[wrap64,h1]
  exact RetK.keep (hk _ _ ⟨rfl,by simp[h1]⟩)
theorem c_l7Edge {h:Heap}{v:Value}{t:Tr}(Rt:Rep h v t) {n:Int}:CallE Tryz.prog fn_spec_l7Edge [v,.int .i64 n] h (fun u h'=>h'=h∧u=.bool (decide (t.Ok n))):=by
 rw[(Rep_Tr.1 Rt).1]
 refine CallE.gen fun k hk=>EN_spec_l7Edge rfl ?_
 unfold Tr.Ok at hk
 by_cases h1:0≤t.frm
 case neg=>simp -implicitDefEqProofs (disch:=first|omega|(simp only[LnZ];omega))[wrap64,Tr.v,h1]; exact RetK.keep (hk _ _ ⟨rfl,by simp[h1]⟩)
 by_cases h2:t.frm<n
 case neg=>simp -implicitDefEqProofs (disch:=first|omega|(simp only[LnZ];omega))[wrap64,Tr.v,h1,h2]; exact RetK.keep (hk _ _ ⟨rfl,by simp[h2]⟩)
 by_cases h3:0≤t.to
 case neg=>simp -implicitDefEqProofs (disch:=first|omega|(simp only[LnZ];omega))[wrap64,Tr.v,h1,h2,h3]; exact RetK.keep (hk _ _ ⟨rfl,by simp[h3]⟩)
 by_cases h4:t.to<n
 case neg=>simp -implicitDefEqProofs (disch:=first|omega|(simp only[LnZ];omega))[wrap64,Tr.v,h1,h2,h3,h4]; exact RetK.keep (hk _ _ ⟨rfl,by simp[h4]⟩)
 by_cases h5:0≤t.care
 case neg=>simp -implicitDefEqProofs (disch:=first|omega|(simp only[LnZ];omega))[wrap64,Tr.v,h1,h2,h3,h4,h5]; exact RetK.keep (hk _ _ ⟨rfl,by simp[h5]⟩)
 by_cases h6:t.care≤7
 case neg=>simp -implicitDefEqProofs (disch:=first|omega|(simp only[LnZ];omega))[wrap64,Tr.v,h1,h2,h3,h4,h5,h6]; exact RetK.keep (hk _ _ ⟨rfl,by simp[h6]⟩)
 by_cases h7:0≤t.value
 case neg=>simp -implicitDefEqProofs (disch:=first|omega|(simp only[LnZ];omega))[wrap64,Tr.v,h1,h2,h3,h4,h5,h6,h7]; exact RetK.keep (hk _ _ ⟨rfl,by simp[h7]⟩)
 simp -implicitDefEqProofs (disch:=first|omega|(simp only[LnZ];omega))[wrap64,Tr.v,h1,h2,h3,h4,h5,h6,h7]
 exact RetK.keep (hk _ _ ⟨rfl,by simp[h1,h2,h3,h4,h5,h6,h7]⟩)
end Go.Proofs.YtbanccfdojgocaaGreat

namespace Go.Proofs.YtbanccfdojgocaaGreat
open Go
theorem i64_toInt (x:BitVec 64):IntKind.i64.wrap (x.toNat:Int)=x.toInt:=by
 rw[IntKind.wrap_i64,BitVec.toInt_eq_toNat_bmod,Int.bmod_def]
 have:=x.isLt
 split <;> omega
theorem ofInt_toInt {v:Int}(h1:-9223372036854775808≤v) (h2:v<9223372036854775808):(BitVec.ofInt 64 v).toInt=v:=by
 rw[BitVec.toInt_ofInt,Int.bmod_def]; split <;> omega
theorem bits_in {v c:Int}(h1:-9223372036854775808≤v) (h2:v<9223372036854775808):andNotI .i64 v c=0↔andI .i64 v c=v:=by
 show IntKind.i64.wrap ((BitVec.ofInt 64 v &&& ~~~ BitVec.ofInt 64 c).toNat:Int)=0↔IntKind.i64.wrap ((BitVec.ofInt 64 v &&& BitVec.ofInt 64 c).toNat:Int)=v
 have hv:=ofInt_toInt h1 h2
 rw[i64_toInt,i64_toInt]
 generalize BitVec.ofInt 64 v=x at *
 generalize BitVec.ofInt 64 c=y at *
 subst hv
 rw[BitVec.toInt_inj,show (0:Int)=(0#64).toInt from rfl,BitVec.toInt_inj]
 constructor
 ·intro h
  apply BitVec.eq_of_getLsbD_eq
  intro i hi
  have h3:=congrArg (fun z=>z.getLsbD i) h
  simp only[BitVec.getLsbD_and,BitVec.getLsbD_not,hi,decide_true,Bool.true_and,BitVec.getLsbD_zero] at h3
  rw[BitVec.getLsbD_and]
  cases h4:x.getLsbD i <;> cases h5:y.getLsbD i <;> simp_all
 ·intro h
  apply BitVec.eq_of_getLsbD_eq
  intro i hi
  have h3:=congrArg (fun z=>z.getLsbD i) h
  simp only[BitVec.getLsbD_and] at h3
  rw[BitVec.getLsbD_and,BitVec.getLsbD_not,BitVec.getLsbD_zero]
  cases h4:x.getLsbD i <;> cases h5:y.getLsbD i <;> simp_all
theorem c_AutomatonValid_1 {h:Heap}{v:Value}{t:Tr}(Rt:Rep h v t) {b:Nat}{n:Int}(hn:1≤n∧n<4611686018427387904) (hb:hload h (some (.pointer (some ⟨b,0,none⟩))) none=some (.int .i64 n)) :
  CallE Tryz.prog fn_impl_AutomatonValid_1 [v,.pointer (some ⟨b,0,none⟩)] h (fun u h'=>h'=h∧u=.bool (!decide (t.Ok n))):=by
 have ht:=(Rep_Tr.1 Rt).2
 rw[(Rep_Tr.1 Rt).1]
 have e0:=ht.value
 refine CallE.gen fun k hk=>EN_impl_AutomatonValid_1 rfl ?_
 simp -implicitDefEqProofs (disch:=first|omega|(simp only[LnZ];omega))[wrap64,Tr.v,hb]
 refine c_in.go ?_
 rintro _ _ ⟨rfl,rfl⟩
 by_cases h1:0≤t.frm∧t.frm≤n-1
 case neg=>
  simp -implicitDefEqProofs (disch:=first|omega|(simp only[LnZ];omega))[wrap64,h1]
  have hno:¬t.Ok n:=fun ho=>h1 (by unfold Tr.Ok at ho; omega)
  exact RetK.keep (hk _ _ ⟨rfl,by simp[hno]⟩)
 simp -implicitDefEqProofs (disch:=first|omega|(simp only[LnZ];omega))[wrap64,h1,hb]
 refine c_in.go ?_
 rintro _ _ ⟨rfl,rfl⟩
 by_cases h2:0≤t.to∧t.to≤n-1
 case neg=>
  simp -implicitDefEqProofs (disch:=first|omega|(simp only[LnZ];omega))[wrap64,h2]
  have hno:¬t.Ok n:=fun ho=>h2 (by unfold Tr.Ok at ho; omega)
  exact RetK.keep (hk _ _ ⟨rfl,by simp[hno]⟩)
 simp -implicitDefEqProofs (disch:=first|omega|(simp only[LnZ];omega))[wrap64,h2]
 refine c_in.go ?_
 rintro _ _ ⟨rfl,rfl⟩
 by_cases h3:0≤t.care∧t.care≤7
 case neg=>
  simp -implicitDefEqProofs (disch:=first|omega|(simp only[LnZ];omega))[wrap64,h3]
  have hno:¬t.Ok n:=fun ho=>h3 (by unfold Tr.Ok at ho; omega)
  exact RetK.keep (hk _ _ ⟨rfl,by simp[hno]⟩)
 by_cases h4:t.value<0
 case pos=>
  simp -implicitDefEqProofs (disch:=first|omega|(simp only[LnZ];omega))[wrap64,h3,h4]
  have hno:¬t.Ok n:=fun ho=>by unfold Tr.Ok at ho; omega
  exact RetK.keep (hk _ _ ⟨rfl,by simp[hno]⟩)
 simp -implicitDefEqProofs (disch:=first|omega|(simp only[LnZ];omega))[wrap64,h3,h4]
 refine RetK.keep (hk _ _ ⟨rfl,?_⟩)
 have h5:=bits_in (c:=t.care) e0.1 e0.2
 by_cases h6:andNotI .i64 t.value t.care=0
 ·have hyes:t.Ok n:=⟨by omega,by omega,by omega,by omega,by omega,by omega,by omega,h5.1 h6⟩
  simp[h6,hyes]
 ·have hno:¬t.Ok n:=fun h=>h6 (h5.2 h.2.2.2.2.2.2.2)
  simp[h6,hno]
theorem drop_cons {α:Type}{l:List α}{i:Nat}(hi:i<l.length):l.drop i=l[i]::l.drop (i+1):=List.drop_eq_getElem_cons hi
theorem incr_cons {n lo x:Int}{l:List Int}:incr n lo (x::l)↔lo<x∧x<n∧incr n x l:=Iff.rfl
theorem c_AutomatonValid {h:Heap}{v:Value}{a:Aut}(Ra:Rep h v a):CallE Tryz.prog fn_impl_AutomatonValid [v] h (fun u h'=>h.le h'∧u=.bool (decide a.Ok)):=by
 obtain⟨v1,v2,v3,rfl,R1,R2,R3⟩:=Rep_Aut.1 Ra
 refine CallE.gen fun k hk=>EN_impl_AutomatonValid rfl ?_
 have l1:=R1.lt
 have l2:=R2.lt
 simp -implicitDefEqProofs (disch:=first|omega|(simp only[LnZ];omega))[wrap64,R1.len,R2.len,R3.len]
 refine HS.init.alloc rfl fun b h1 H=>?_
 simp -implicitDefEqProofs (disch:=first|omega|(simp only[LnZ];omega))[wrap64]
 refine H.bxst (u:=.int .i64 a.acc.length) rfl rfl rfl rfl (by simp) fun h2 H=>?_
 simp only[setC,cells_int,List.take_zero,List.nil_append] at H
 simp -implicitDefEqProofs (disch:=first|omega|(simp only[LnZ];omega))[wrap64,R1.len,R2.len,R3.len]
 have H:HS h [bx b [.int .i64 a.acc.length]] h2:=H
 refine wp_count a.init.length (fun i e h'=>h'=h2∧∃last:Int,e=[none,some (.agg #[v1,v2,v3]),none,some (.pointer (some ⟨b,0,none⟩)),some (.int .i64 last),none,some v1,some (.int .i64 a.init.length),some (.int .i64 i)] ∧
   -1≤last∧last<4611686018427387904∧(incr a.acc.length (-1) a.init↔incr a.acc.length last (a.init.drop i))) ⟨rfl,-1,rfl,by omega,by omega,by simp⟩ ?_
 rintro J i _ _ hJ hi ⟨rfl,last,rfl,hl1,hl2,hin⟩
 simp -implicitDefEqProofs (disch:=first|omega|(simp only[LnZ];omega))[wrap64]
 refine IteW.mk (fun hlt=>?_) (fun hge=>?_)
 ·have hlx:i<a.init.length:=by omega
  simp -implicitDefEqProofs (disch:=first|omega|(simp only[LnZ];omega))[wrap64,(R1.on H).I,H.bxld0]
  refine c_in.go ?_
  rintro _ _ ⟨rfl,rfl⟩
  simp -implicitDefEqProofs (disch:=first|omega|(simp only[LnZ];omega))[wrap64]
  rw[drop_cons hlx,incr_cons] at hin
  refine IteW.mk (fun hn=>?_) (fun hn=>?_)
  ·simp -implicitDefEqProofs (disch:=first|omega|(simp only[LnZ];omega))[wrap64]
   refine RetK.keep (hk _ _ ⟨H.base,?_⟩)
   have:¬a.Ok:=by
    intro ho
    have:=hin.1 ho.i
    omega
   simp[this]
  ·simp -implicitDefEqProofs (disch:=first|omega|(simp only[LnZ];omega))[wrap64]
   exact hJ _ _ hlx ⟨rfl,_,rfl,by omega,by omega,hin.trans ⟨fun h=>h.2.2,fun h=>⟨by omega,by omega,h⟩⟩⟩
 ·simp -implicitDefEqProofs (disch:=first|omega|(simp only[LnZ];omega))[wrap64,H.bxld0]
  have hin:incr a.acc.length (-1) a.init:=hin.2 (by rw[List.drop_eq_nil_of_le (by omega)]; trivial)
  refine c_in.go ?_
  rintro _ _ ⟨rfl,rfl⟩
  by_cases hn:1≤(a.acc.length:Int)∧(a.acc.length:Int)≤64
  case neg=>
   simp -implicitDefEqProofs (disch:=first|omega|(simp only[LnZ];omega))[wrap64,hn]
   refine RetK.keep (hk _ _ ⟨H.base,?_⟩)
   have:¬a.Ok:=fun ho=>hn (by have:=ho.n; omega)
   simp[this]
  by_cases he:(a.edges.length:Int)≤2048
  case neg=>
   simp -implicitDefEqProofs (disch:=first|omega|(simp only[LnZ];omega))[wrap64,hn,he,R3.len]
   refine RetK.keep (hk _ _ ⟨H.base,?_⟩)
   have:¬a.Ok:=fun ho=>he (by have:=ho.e; omega)
   simp[this]
  simp -implicitDefEqProofs (disch:=first|omega|(simp only[LnZ];omega))[wrap64,hn,he,R3.len]
  refine (c_ContainsFunc_impl_Transition (R3.on H) (c1:=[]) (fnOf_func) (fun t=>!decide (t.Ok a.acc.length)) ?_).go ?_
  ·intro h3 hl j hj u Ru
   exact (c_AutomatonValid_1 Ru (by omega) (hload_le hl H.bxld0)).to fun _ _ ⟨h4,h5⟩=>⟨h4 ▸ Heap.le.refl _,h5⟩
  ·rintro _ h3 ⟨hl,rfl⟩
   simp -implicitDefEqProofs (disch:=first|omega|(simp only[LnZ];omega))[wrap64]
   refine RetK.keep (hk _ _ ⟨H.base.trans hl,?_⟩)
   congr 1
   have hnn:1≤a.acc.length∧a.acc.length≤64:=by omega
   have hee:a.edges.length≤2048:=by omega
   simp only[Aut.Ok,hnn,hee,hin,true_and]
   rw[Bool.eq_iff_iff]
   simp
theorem c_spec_AutomatonValid {h:Heap}{v:Value}{a:Aut}(Ra:Rep h v a):CallE Tryz.prog fn_spec_AutomatonValid [v] h (fun u h'=>h'=h∧u=.bool (decide a.Ok)):=by
 obtain⟨v1,v2,v3,rfl,R1,R2,R3⟩:=Rep_Aut.1 Ra
 refine CallE.gen fun k hk=>EN_spec_AutomatonValid rfl ?_
 have l1:=R1.lt
 have l2:=R2.lt
 have l3:=R3.lt
 simp -implicitDefEqProofs (disch:=first|omega|(simp only[LnZ];omega))[wrap64,R1.len,R2.len,R3.len]
 by_cases h1:(a.acc.length:Int)<1
 case pos=>
  simp -implicitDefEqProofs (disch:=first|omega|(simp only[LnZ];omega))[wrap64,h1]
  have hno:¬a.Ok:=fun ho=>by have:=ho.n; omega
  exact RetK.keep (hk _ _ ⟨rfl,by simp[hno]⟩)
 by_cases h2:64<(a.acc.length:Int)
 case pos=>
  simp -implicitDefEqProofs (disch:=first|omega|(simp only[LnZ];omega))[wrap64,h1,h2]
  have hno:¬a.Ok:=fun ho=>by have:=ho.n; omega
  exact RetK.keep (hk _ _ ⟨rfl,by simp[hno]⟩)
 by_cases h3:(a.acc.length:Int)<a.init.length
 case pos=>
  simp -implicitDefEqProofs (disch:=first|omega|(simp only[LnZ];omega))[wrap64,h1,h2,R1.len,h3]
  have hno:¬a.Ok:=fun ho=>by
   have h1:=incr_len ho.i (by have:=ho.n; omega)
   omega
  exact RetK.keep (hk _ _ ⟨rfl,by simp[hno]⟩)
 by_cases h4:2048<(a.edges.length:Int)
 case pos=>
  simp -implicitDefEqProofs (disch:=first|omega|(simp only[LnZ];omega))[wrap64,h1,h2,R1.len,h3,R3.len,h4]
  have hno:¬a.Ok:=fun ho=>by have:=ho.e; omega
  exact RetK.keep (hk _ _ ⟨rfl,by simp[hno]⟩)
 simp -implicitDefEqProofs (disch:=first|omega|(simp only[LnZ];omega))[wrap64,h1,h2,R1.len,h3,R3.len,h4]
 refine wp_count a.init.length (fun i e h'=>h'=h∧e=[none,some (.agg #[v1,v2,v3]),none,some (.int .i64 a.acc.length),some (.int .i64 i),none] ∧
   (incr a.acc.length (-1) a.init↔incr a.acc.length (if i=0 then -1 else a.init.getD (i-1) 0) (a.init.drop i))) ⟨rfl,rfl,by simp⟩ ?_
 rintro J i _ _ hJ hi ⟨rfl,rfl,hin⟩
 simp -implicitDefEqProofs (disch:=first|omega|(simp only[LnZ];omega))[wrap64,R1.len]
 refine IteW.mk (fun hlt=>?_) (fun hge=>?_)
 ·have hlx:i<a.init.length:=by omega
  rw[drop_cons hlx,incr_cons] at hin
  have hgd:a.init.getD (i+1-1) 0=a.init[i]:=by simp[hlx]
  by_cases h5:a.init[i]<0
  case pos=>
   simp -implicitDefEqProofs (disch:=first|omega|(simp only[LnZ];omega))[wrap64,R1.I,h5]
   have hno:¬a.Ok:=fun ho=>by have:=ho.im hlx; omega
   exact RetK.keep (hk _ _ ⟨rfl,by simp[hno]⟩)
  by_cases h6:(a.acc.length:Int)≤a.init[i]
  case pos=>
   simp -implicitDefEqProofs (disch:=first|omega|(simp only[LnZ];omega))[wrap64,R1.I,h5,h6]
   have hno:¬a.Ok:=fun ho=>by have:=ho.im hlx; omega
   exact RetK.keep (hk _ _ ⟨rfl,by simp[hno]⟩)
  by_cases h7:0<i
  ·have hj:i-1<a.init.length:=by omega
   have hii:(i:Int)-1=((i-1:Nat):Int):=by omega
   have hw:IntKind.i64.wrap ((i:Int)-1)=((i-1:Nat):Int):=by rw[wrap64 (by omega) (by omega),hii]
   have hgd2:a.init.getD (i-1) 0=a.init[i-1]:=by simp[hj]
   rw[if_neg (by omega),hgd2] at hin
   simp -implicitDefEqProofs (disch:=first|omega|(simp only[LnZ];omega))[wrap64,R1.I,h5,h6,h7,hw]
   refine IteW.mk (fun h8=>?_) (fun h8=>?_)
   ·simp -implicitDefEqProofs (disch:=first|omega|(simp only[LnZ];omega))[wrap64]
    have hno:¬a.Ok:=fun ho=>by have:=(hin.1 ho.i).1; omega
    exact RetK.keep (hk _ _ ⟨rfl,by simp[hno]⟩)
   ·simp -implicitDefEqProofs (disch:=first|omega|(simp only[LnZ];omega))[wrap64]
    exact hJ _ _ hlx ⟨rfl,rfl,by rw[if_neg (by omega),hgd]; exact hin.trans ⟨fun h=>h.2.2,fun h=>⟨by omega,by omega,h⟩⟩⟩
  ·have h0:i=0:=by omega
   subst h0
   rw[if_pos rfl] at hin
   simp -implicitDefEqProofs (disch:=first|omega|(simp only[LnZ];omega))[wrap64,R1.I,h5,h6]
   exact hJ _ _ hlx ⟨rfl,rfl,by rw[if_neg (by omega),hgd]; exact hin.trans ⟨fun h=>h.2.2,fun h=>⟨by omega,by omega,h⟩⟩⟩
 ·have hin:incr a.acc.length (-1) a.init:=hin.2 (by rw[List.drop_eq_nil_of_le (by omega)]; trivial)
  simp -implicitDefEqProofs (disch:=first|omega|(simp only[LnZ];omega))[wrap64]
  refine wp_count a.edges.length (fun i e h'=>h'=_∧e=[none,some (.agg #[v1,v2,v3]),none,some (.int .i64 a.acc.length),none,some (.int .i64 i)] ∧
   ∀(j:Nat) (hj:j<a.edges.length),j<i→a.edges[j].Ok a.acc.length) ⟨rfl,rfl,fun j _ hj=>absurd hj (Nat.not_lt_zero j)⟩ ?_
  rintro J i _ _ hJ hi ⟨rfl,rfl,hn⟩
  simp -implicitDefEqProofs (disch:=first|omega|(simp only[LnZ];omega))[wrap64,R3.len]
  refine IteW.mk (fun hlt=>?_) (fun hge=>?_)
  ·have hlx:i<a.edges.length:=by omega
   simp -implicitDefEqProofs (disch:=first|omega|(simp only[LnZ];omega))[wrap64,R3.xTr]
   refine (c_l7Edge (Rep_Tr.2 ⟨rfl,R3.okTr hlx⟩)).go ?_
   rintro _ _ ⟨rfl,rfl⟩
   simp -implicitDefEqProofs (disch:=first|omega|(simp only[LnZ];omega))[wrap64]
   refine IteW.mkr (fun h8=>?_) (fun h8=>?_)
   ·simp -implicitDefEqProofs (disch:=first|omega|(simp only[LnZ];omega))[wrap64]
    have hno:¬a.Ok:=fun ho=>h8 (ho.t hlx)
    exact RetK.keep (hk _ _ ⟨rfl,by simp[hno]⟩)
   ·simp -implicitDefEqProofs (disch:=first|omega|(simp only[LnZ];omega))[wrap64]
    refine hJ _ _ hlx ⟨rfl,rfl,fun j hj hji=>?_⟩
    by_cases hji2:j=i
    ·subst hji2; exact h8
    ·exact hn j hj (by omega)
  ·simp -implicitDefEqProofs (disch:=first|omega|(simp only[LnZ];omega))[wrap64]
   have hyes:a.Ok:=⟨by omega,by omega,hin,fun t ht=>by
    obtain⟨j,hj,rfl⟩:=List.mem_iff_getElem.1 ht
    exact hn j hj (by omega)⟩
   exact RetK.keep (hk _ _ ⟨rfl,by simp[hyes]⟩)
end Go.Proofs.YtbanccfdojgocaaGreat

namespace Go.Proofs.YtbanccfdojgocaaGreat
open Go
section
variable {α:Type} [Ty α] {g h:Heap}{Γ:List HP}{v u:Value}{l:List α}
theorem HS.cut (H:HS g (ow v l::Γ) h) {n esz:Nat}{k:IntKind}(hn:n≤l.length):∃v',sliceVV esz v none (some (some (.int k n))) none=some v'∧HS g (ow v' (l.take n)::Γ) h:=by
 obtain⟨g',r,rfl,d,O,H⟩:=H
 rcases Own_list.1 O with ⟨p,rfl,rfl,rfl,hp⟩ | ⟨b,off,cap,cells,el,r',rfl,⟨h1,hM⟩,h2,rfl,h4,h5⟩
 ·have hn0:n=0:=by simpa using hn
  subst hn0
  exact⟨.slice p 0 0,by simp[sliceVV,bndV],g',Heap.nil,rfl,d,Own_list.2 (.inl ⟨p,rfl,by simp,rfl,hp⟩),H⟩
 ·rw[← List.take_append_drop n l] at h5
  obtain⟨r1,r2,rfl,d2,h6,h7⟩:=ownL_split h5
  obtain⟨d3,d4⟩:=Dj_add.1 d
  obtain⟨d5,d6⟩:=Dj_add.1 d4
  obtain⟨n1,n2⟩:r1 b=none∧r2 b=none:=by simpa[Heap.add] using h4
  refine⟨.slice (some ⟨b,off,none⟩) n cap,?_,g'.add r2,(Heap.one b (.cells cells.toArray el (0,0))).add r1,by ac_rfl,?_,?_,H.le (le_add d6)⟩
  ·have:n≤cap:=by omega
   simp[sliceVV,bndV,add_none,this]
  ·exact Dj_add.2 ⟨add_Dj.2 ⟨d3,(Dj_one.2 n2)⟩,add_Dj.2 ⟨d5,d2.symm⟩⟩
  ·have hl:(l.take n).length=n:=by simp; omega
   exact Own_list.2 (.inr ⟨b,off,cap,cells,el,r1,by rw[hl],⟨by omega,by omega⟩,h2,rfl,n1,h6⟩)
end
theorem c_Index_int {h:Heap}{a:Value}{x:List Int}(Ra:Rep h a x) {n:Int}:CallE Tryz.prog fn_slices_Index_S_int_int [a,.int .i64 n] h (fun v h'=>h'=h∧∃r:Int,v=.int .i64 r∧(0≤r↔n∈x)):=by
 refine CallE.gen fun k hk=>EN_slices_Index_S_int_int rfl ?_
 have hL:=Ra.lt
 simp -implicitDefEqProofs (disch:=first|omega|(simp only[LnZ];omega))[wrap64,Ra.len]
 refine wp_count x.length (fun i e h'=>e=[some a,some (.int .i64 n),none,none,some (.int .i64 x.length),some (.int .i64 i)]∧h'=h∧∀(j:Nat) (hj:j<x.length),j<i→x[j]≠n) ⟨rfl,rfl,fun j _ hj=>absurd hj (Nat.not_lt_zero j)⟩ ?_
 rintro J i _ h1 hJ hi ⟨rfl,rfl,hn⟩
 simp -implicitDefEqProofs (disch:=first|omega|(simp only[LnZ];omega))[wrap64]
 refine IteW.mk (fun hlt=>?_) (fun hge=>?_)
 ·have hlx:i<x.length:=by omega
  simp -implicitDefEqProofs (disch:=first|omega|(simp only[LnZ];omega))[wrap64,Ra.I]
  refine IteW.mk (fun hq=>?_) (fun hq=>?_)
  ·simp -implicitDefEqProofs (disch:=first|omega|(simp only[LnZ];omega))[wrap64]
   exact RetK.keep (hk _ _ ⟨rfl,i,rfl,by simp only[Int.natCast_nonneg,true_iff]; rw[hq]; exact List.getElem_mem hlx⟩)
  ·simp -implicitDefEqProofs (disch:=first|omega|(simp only[LnZ];omega))[wrap64]
   refine hJ _ _ hlx ⟨rfl,rfl,fun j hj hji=>?_⟩
   by_cases hji2:j=i
   ·subst hji2; exact fun e=>hq e.symm
   ·exact hn j hj (by omega)
 ·simp -implicitDefEqProofs (disch:=first|omega|(simp only[LnZ];omega))[wrap64]
  refine RetK.keep (hk _ _ ⟨rfl,-1,rfl,?_⟩)
  simp only[show ¬(0:Int)≤-1 by decide,false_iff]
  intro hm
  obtain⟨j,hj,h1⟩:=List.mem_iff_getElem.1 hm
  exact hn j hj (by omega) h1
theorem c_Contains_int {h:Heap}{a:Value}{x:List Int}(Ra:Rep h a x) {n:Int}:CallE Tryz.prog fn_slices_Contains_S_int_int [a,.int .i64 n] h (fun v h'=>h'=h∧v=.bool (decide (n∈x))):=by
 refine CallE.gen fun k hk=>EN_slices_Contains_S_int_int rfl ?_
 simp -implicitDefEqProofs (disch:=first|omega|(simp only[LnZ];omega))[wrap64]
 refine (c_Index_int Ra).go ?_
 rintro _ h1 ⟨rfl,r,rfl,hr⟩
 simp -implicitDefEqProofs (disch:=first|omega|(simp only[LnZ];omega))[wrap64]
 exact RetK.keep (hk _ _ ⟨rfl,by congr 1; rw[Bool.eq_iff_iff]; simp[hr]⟩)
theorem c_l4In {h:Heap}{a:Value}{x:List Int}(Ra:Rep h a x) {n:Int}:CallE Tryz.prog fn_spec_l4In [a,.int .i64 n] h (fun v h'=>h'=h∧v=.bool (decide (n∈x))):=by
 refine CallE.gen fun k hk=>EN_spec_l4In rfl ?_
 have hL:=Ra.lt
 simp -implicitDefEqProofs (disch:=first|omega|(simp only[LnZ];omega))[wrap64]
 refine wp_count x.length (fun i e h'=>e=[some a,some (.int .i64 n),none,some (.int .i64 i)]∧h'=h∧∀(j:Nat) (hj:j<x.length),j<i→x[j]≠n) ⟨rfl,rfl,fun j _ hj=>absurd hj (Nat.not_lt_zero j)⟩ ?_
 rintro J i _ h1 hJ hi ⟨rfl,rfl,hn⟩
 simp -implicitDefEqProofs (disch:=first|omega|(simp only[LnZ];omega))[wrap64,Ra.len]
 refine IteW.mk (fun hlt=>?_) (fun hge=>?_)
 ·have hlx:i<x.length:=by omega
  simp -implicitDefEqProofs (disch:=first|omega|(simp only[LnZ];omega))[wrap64,Ra.I]
  refine IteW.mk (fun hq=>?_) (fun hq=>?_)
  ·simp -implicitDefEqProofs (disch:=first|omega|(simp only[LnZ];omega))[wrap64]
   exact RetK.keep (hk _ _ ⟨rfl,by congr 1; rw[eq_comm,decide_eq_true_iff,← hq]; exact List.getElem_mem hlx⟩)
  ·simp -implicitDefEqProofs (disch:=first|omega|(simp only[LnZ];omega))[wrap64]
   refine hJ _ _ hlx ⟨rfl,rfl,fun j hj hji=>?_⟩
   by_cases hji2:j=i
   ·subst hji2; exact hq
   ·exact hn j hj (by omega)
 ·simp -implicitDefEqProofs (disch:=first|omega|(simp only[LnZ];omega))[wrap64]
  refine RetK.keep (hk _ _ ⟨rfl,?_⟩)
  congr 1
  rw[eq_comm,decide_eq_false_iff_not]
  intro hm
  obtain⟨j,hj,h1⟩:=List.mem_iff_getElem.1 hm
  exact hn j hj (by omega) h1
theorem c_next {h:Heap}{v:Value}{a:Aut}(Ra:Rep h v a) (ha:a.Ok):CallE Tryz.prog fn_impl_Automaton_next [v] h (fun u h'=>∃G,HS h [ow u G] h'∧Adj a.E G∧G.length=a.acc.length):=by
 obtain⟨v1,v2,v3,rfl,R1,R2,R3⟩:=Rep_Aut.1 Ra
 refine CallE.gen fun k hk=>EN_impl_Automaton_next rfl ?_
 have hn:=ha.n
 have he:=ha.e
 simp -implicitDefEqProofs (disch:=first|omega|(simp only[LnZ];omega))[wrap64,R2.len]
 refine HS.init.mks (α:=List Int) (z:=[]) rfl rfl own_nils (Nat.le_refl _) (by omega) (by omega) fun w h1 H=>?_
 simp -implicitDefEqProofs (disch:=first|omega|(simp only[LnZ];omega))[wrap64,(R3.on H).len]
 refine wp_count a.edges.length (fun i e h'=>∃G,e=[none,none,none,some w,none,some v3,some (.int .i64 a.edges.length),some (.int .i64 i)]∧HS h [ow w G] h'∧NextI a i G) ⟨_,by simp,H,NextI.zero⟩ ?_
 rintro J i _ h2 hJ hi ⟨G,rfl,H,hG⟩
 simp -implicitDefEqProofs (disch:=first|omega|(simp only[LnZ];omega))[wrap64]
 refine IteW.mk (fun hlt=>?_) (fun hge=>?_)
 ·have hlx:i<a.edges.length:=by omega
  have hx:=ha.t hlx
  unfold Tr.Ok at hx
  obtain⟨f,hf⟩:∃f:Nat,a.edges[i].frm=f:=⟨a.edges[i].frm.toNat,by omega⟩
  obtain⟨t,ht⟩:∃t:Nat,a.edges[i].to=t:=⟨a.edges[i].to.toNat,by omega⟩
  have hfG:f<G.length:=by rw[hG.len]; omega
  have hle:=hG.le f hfG
  have R3':=R3.on H
  obtain⟨u,hu,H⟩:=H.take hfG
  change hload _ (some (elp 1 w f)) none=some u at hu
  simp -implicitDefEqProofs (disch:=first|omega|(simp only[LnZ];omega))[wrap64,R3'.xTr,Tr.v,setC,hf,ht,H.sw1.holeia (n:=1) rfl,hu]
  refine H.app1 (t:Int) rfl rfl rfl ⟨by omega,by omega⟩ rfl rfl (by omega) (by omega) fun u' h3 H=>?_
  simp -implicitDefEqProofs (disch:=first|omega|(simp only[LnZ];omega))[wrap64,H.sw1.holeia (n:=1) rfl]
  refine H.storeH rfl rfl rfl fun h4 H=>?_
  simp -implicitDefEqProofs (disch:=first|omega|(simp only[LnZ];omega))[wrap64]
  exact hJ _ _ hlx ⟨_,rfl,H,hG.step hlx hf ht hfG⟩
 ·simp -implicitDefEqProofs (disch:=first|omega|(simp only[LnZ];omega))[wrap64]
  exact RetK.keep (hk _ _ ⟨G,H,hG.done ha (by omega),hG.len⟩)
theorem c_l7Next {h:Heap}{v:Value}{a:Aut}(Ra:Rep h v a) (ha:a.Ok):CallE Tryz.prog fn_spec_l7Next [v] h (fun u h'=>∃G,HS h [ow u G] h'∧Adj a.E G∧G.length=a.acc.length∧∀x (hx:x<G.length),G[x].length≤2048):=by
 obtain⟨v1,v2,v3,rfl,R1,R2,R3⟩:=Rep_Aut.1 Ra
 refine CallE.gen fun k hk=>EN_spec_l7Next rfl ?_
 have hn:=ha.n
 have he:=ha.e
 simp -implicitDefEqProofs (disch:=first|omega|(simp only[LnZ];omega))[wrap64,R2.len]
 refine HS.init.mks (α:=List Int) (z:=[]) rfl rfl own_nils (Nat.le_refl _) (by omega) (by omega) fun w h1 H=>?_
 simp -implicitDefEqProofs (disch:=first|omega|(simp only[LnZ];omega))[wrap64]
 refine wp_count a.edges.length (fun i e h'=>∃G,e=[none,some (.agg #[v1,v2,v3]),none,some w,some (.int .i64 i),none]∧HS h [ow w G] h'∧NextI a i G) ⟨_,by simp,H,NextI.zero⟩ ?_
 rintro J i _ h2 hJ hi ⟨G,rfl,H,hG⟩
 simp -implicitDefEqProofs (disch:=first|omega|(simp only[LnZ];omega))[wrap64,(R3.on H).len]
 refine IteW.mk (fun hlt=>?_) (fun hge=>?_)
 ·have hlx:i<a.edges.length:=by omega
  have hx:=ha.t hlx
  unfold Tr.Ok at hx
  obtain⟨f,hf⟩:∃f:Nat,a.edges[i].frm=f:=⟨a.edges[i].frm.toNat,by omega⟩
  obtain⟨t,ht⟩:∃t:Nat,a.edges[i].to=t:=⟨a.edges[i].to.toNat,by omega⟩
  have hfG:f<G.length:=by rw[hG.len]; omega
  have hle:=hG.le f hfG
  have R3':=R3.on H
  obtain⟨u,hu,Ru⟩:=H.rep.ldL hfG
  simp -implicitDefEqProofs (disch:=first|omega|(simp only[LnZ];omega))[wrap64,R3'.xTr,Tr.v,setC,hf,ht,H.rep.X (n:=1) rfl,hu]
  refine (c_l4In Ru).go ?_
  rintro _ _ ⟨rfl,rfl⟩
  by_cases hm:(t:Int)∈G[f]
  ·simp -implicitDefEqProofs (disch:=first|omega|(simp only[LnZ];omega))[wrap64,hm]
   exact hJ _ _ hlx ⟨_,by simp,H,hG.skip hlx hf ht hfG hm⟩
  ·obtain⟨u,hu,H⟩:=H.take hfG
   change hload _ (some (elp 1 w f)) none=some u at hu
   simp -implicitDefEqProofs (disch:=first|omega|(simp only[LnZ];omega))[wrap64,hm,hf,ht,H.sw1.holeia (n:=1) rfl,hu]
   refine H.app1 (t:Int) rfl rfl rfl ⟨by omega,by omega⟩ rfl rfl (by omega) (by omega) fun u' h3 H=>?_
   simp -implicitDefEqProofs (disch:=first|omega|(simp only[LnZ];omega))[wrap64,H.sw1.holeia (n:=1) rfl]
   refine H.storeH rfl rfl rfl fun h4 H=>?_
   simp -implicitDefEqProofs (disch:=first|omega|(simp only[LnZ];omega))[wrap64]
   exact hJ _ _ hlx ⟨_,by simp,H,hG.step hlx hf ht hfG⟩
 ·simp -implicitDefEqProofs (disch:=first|omega|(simp only[LnZ];omega))[wrap64]
  exact RetK.keep (hk _ _ ⟨G,H,hG.done ha (by omega),hG.len,fun x hx=>by have:=hG.le x hx; omega⟩)
end Go.Proofs.YtbanccfdojgocaaGreat

namespace Go.Proofs.YtbanccfdojgocaaGreat
open Go
theorem take_mem_succ {α:Type}{l:List α}{i:Nat}(hi:i<l.length) {x:α}:x∈l.take (i+1)↔x∈l.take i∨x=l[i]:=by
 rw[List.take_add_one,List.getElem?_eq_getElem hi]
 simp only[Option.toList_some,List.mem_append,List.mem_singleton]
theorem snoc_of {α:Type}{l:List α}(h:0<l.length):∃l' x,l=l'++[x]:=by
 refine⟨l.dropLast,l.getLast (List.ne_nil_of_length_pos h),?_⟩
 exact (List.dropLast_concat_getLast _).symm
theorem c_reachable {h:Heap}{w s:Value}{G:List (List Int)}{S:List Int}{E:Nat→Nat→Prop}(Rw:Rep h w G) (Rs:Rep h s S) (hG:Adj E G) (hS:∀z∈S,0≤z∧z<G.length) (hSl:S.length≤1048576) (hGl:G.length≤1048576) :
  CallE Tryz.prog fn_impl_reachable [w,s] h (fun u h'=>∃B:List Bool,HS h [ow u B] h'∧B.length=G.length∧∀x,tru B x↔∃z:Nat,(z:Int)∈S∧Rch E z x):=by
 refine CallE.gen fun k hk=>EN_impl_reachable rfl ?_
 simp -implicitDefEqProofs (disch:=first|omega|(simp only[LnZ];omega))[wrap64,Rw.len]
 refine HS.init.mks (α:=Bool) (z:=false) rfl rfl own_false (Nat.le_refl _) (by omega) (by omega) fun b h1 H=>?_
 simp -implicitDefEqProofs (disch:=first|omega|(simp only[LnZ];omega))[wrap64]
 refine (c_clone_int (Rs.on H) (by omega)).go ?_
 intro t0 h2 H2
 have H:=H2.app H
 simp -implicitDefEqProofs (disch:=first|omega|(simp only[LnZ];omega))[wrap64,(Rs.on H).len]
 refine wp_count S.length (fun i e h'=>∃B,e=[some w,none,none,some b,some t0,none,none,none,some s,some (.int .i64 S.length),some (.int .i64 i),none,none,none]∧HS h [ow t0 S,ow b B] h'∧B.length=G.length∧∀x,tru B x↔(x:Int)∈S.take i) ⟨_,by simp,H,by simp,fun x=>by simp[tru_replicate]⟩ ?_
 rintro J i _ h3 hJ hi ⟨B,rfl,H,hBl,hB⟩
 simp -implicitDefEqProofs (disch:=first|omega|(simp only[LnZ];omega))[wrap64]
 refine IteW.mk (fun hlt=>?_) (fun hge=>?_)
 ·have hlx:i<S.length:=by omega
  have hz:=hS _ (List.getElem_mem hlx)
  obtain⟨z,hz2⟩:∃z:Nat,S[i]=z:=⟨S[i].toNat,by omega⟩
  have H:=H.sw1
  have hzB:z<B.length:=by omega
  simp -implicitDefEqProofs (disch:=first|omega|(simp only[LnZ];omega))[wrap64,(Rs.on H).I,hz2,H.rep.B]
  refine H.storeF true (i:=z) hzB rfl rfl trivial rfl fun h4 H=>?_
  simp -implicitDefEqProofs (disch:=first|omega|(simp only[LnZ];omega))[wrap64]
  refine hJ _ _ hlx ⟨_,rfl,H.sw1,by simpa using hBl,fun x=>?_⟩
  rw[tru_set hzB,hB,take_mem_succ hlx,hz2]
  exact or_congr Iff.rfl (by omega)
 simp -implicitDefEqProofs (disch:=first|omega|(simp only[LnZ];omega))[wrap64]
 rw[List.take_of_length_le (by omega)] at hB
 have hI:Srch E (fun z=>(z:Int)∈S) (tru B) (fun z=>(z:Int)∈S):=Srch.init hB fun _ h=>h
 have hcl:=List.count_le_length (a:=false) (l:=B)
 refine wp_while (σ:=List Bool×List Int) (fun s e h'=>∃t,e=[some w,none,none,some b,some t,none,none,none,none,none,none,none,none,none] ∧
   HS h [ow t s.2,ow b s.1] h'∧s.1.length=G.length∧Srch E (fun z=>(z:Int)∈S) (tru s.1) (fun z=>(z:Int)∈s.2)∧(∀z∈s.2,∃q:Nat,z=q∧tru s.1 q)∧s.2.length+s.1.count false≤S.length+G.length)
  (fun s=>s.2.length+s.1.count false) (B,S) ⟨t0,by simp,H,hBl,hI,fun z hz=>⟨z.toNat,by have:=hS z hz; omega,by rw[hB]; have:=hS z hz; rwa [Int.toNat_of_nonneg this.1]⟩,by dsimp only; omega⟩ ?_
 rintro J ⟨B,T⟩ _ h4 hJ ⟨t,rfl,H,hBl,hI,hT,hm⟩
 dsimp only at H hBl hI hT hm
 simp -implicitDefEqProofs (disch:=first|omega|(simp only[LnZ];omega))[wrap64,H.rep.len]
 refine IteW.mkr (fun h0=>?_) (fun h0=>?_)
 ·simp -implicitDefEqProofs (disch:=first|omega|(simp only[LnZ];omega))[wrap64]
  have hT0:T=[]:=List.eq_nil_of_length_eq_zero (by omega)
  subst hT0
  exact RetK.keep (hk _ _ ⟨B,H.drop,hBl,fun x=>hI.done (by simp)⟩)
 obtain⟨T,x,rfl⟩:=snoc_of (l:=T) (by omega)
 obtain⟨q,rfl,hq⟩:=hT x (by simp)
 have hqG:q<G.length:=by rw[← hBl]; exact tru_lt hq
 obtain⟨t',ht',H'⟩:=H.cut (n:=T.length) (esz:=1) (k:=.i64) (by simp)
 have hTl:T.length<4611686018427387904:=by have:=H.rep.lt; simp at this; omega
 rw[List.take_left' rfl] at H'
 obtain⟨u,hu0,Ru⟩:=Rw.ldL hqG
 have hu:=hload_le H.base hu0
 have hul:=Ru.lt
 have hlen1:(T++[(q:Int)]).length=T.length+1:=by simp
 have hi1:IntKind.i64.wrap ((T.length:Int)+1-1)=T.length:=by rw[wrap64 (by omega) (by omega)]; omega
 simp -implicitDefEqProofs (disch:=first|omega|(simp only[LnZ];omega))[wrap64,H.rep.I,hlen1,hi1,ht',(Rw.on H').X (n:=1) rfl,hu,Ru.len]
 have hlt0:=hm
 obtain⟨m,hmm⟩:∃m,m=T.length+1+B.count false:=⟨_,rfl⟩
 refine wp_count G[q].length (fun j e h'=>∃(t:Value) (B:List Bool) (T':List Int),e=[some w,none,none,some b,some t,none,none,none,none,none,none,some u,some (.int .i64 G[q].length),some (.int .i64 j)] ∧
   HS h [ow t T',ow b B] h'∧B.length=G.length∧Srch E (fun z=>(z:Int)∈S) (tru B) (fun z=>(z:Int)∈T'∨z=q)∧tru B q∧(∀z∈T',∃q:Nat,z=q∧tru B q)∧T'.length+1+B.count false=m ∧
   ∀j' (hj':j'<G[q].length),j'<j→∀y:Nat,G[q][j']=y→tru B y) ⟨t',B,T,by simp,H',hBl,hI.congr (fun _=>Iff.rfl) (fun z=>by simp[Int.ofNat_inj]),hq,fun z hz=>hT z (by simp[hz]),hmm.symm,fun j' _ hj'=>absurd hj' (Nat.not_lt_zero j')⟩ ?_
 rintro J2 j _ h5 hJ2 hj ⟨t2,B2,T2,rfl,H,hBl2,hI2,hq2,hT2,hm2,hpr⟩
 simp -implicitDefEqProofs (disch:=first|omega|(simp only[LnZ];omega))[wrap64]
 refine IteW.mk (fun hlt2=>?_) (fun hge2=>?_)
 ·have hjl:j<G[q].length:=by omega
  obtain⟨y,hy,hxy,hyG⟩:=hG.get hqG hjl
  have H:=H.sw1
  have hyB:y<B2.length:=by omega
  have hpr2:∀B3,tru B3 y→(∀z,tru B2 z→tru B3 z)→∀j' (hj':j'<G[q].length),j'<j+1→∀y:Nat,G[q][j']=y→tru B3 y:=by
   intro B3 h1 h2 j' hj' hlt y' hy'
   by_cases e:j'=j
   ·subst e
    rw[hy] at hy'
    obtain rfl:y=y':=by omega
    exact h1
   ·exact h2 _ (hpr j' hj' (by omega) y' hy')
  by_cases hb:B2[y]=true
  ·simp -implicitDefEqProofs (disch:=first|omega|(simp only[LnZ];omega))[wrap64,(Ru.on H).I,hy,H.rep.B,hb]
   exact hJ2 _ _ hjl ⟨t2,B2,T2,rfl,H.sw1,hBl2,hI2,hq2,hT2,hm2,hpr2 _ ((tru_get hyB).2 hb) fun _ h=>h⟩
  ·have hb':B2[y]=false:=by simpa using hb
   simp -implicitDefEqProofs (disch:=first|omega|(simp only[LnZ];omega))[wrap64,(Ru.on H).I,hy,H.rep.B,hb']
   refine H.storeF true (i:=y) hyB rfl rfl trivial rfl fun h6 H=>?_
   have hcs:=count_set hyB hb'
   simp -implicitDefEqProofs (disch:=first|omega|(simp only[LnZ];omega))[wrap64]
   refine H.sw1.app1 (y:Int) rfl rfl rfl ⟨by omega,by omega⟩ rfl rfl (by omega) (by omega) fun t3 h7 H=>?_
   simp -implicitDefEqProofs (disch:=first|omega|(simp only[LnZ];omega))[wrap64]
   refine hJ2 _ _ hjl ⟨t3,_,_,rfl,H,by simpa using hBl2,hI2.add (x:=q) (y:=y) hq2 hxy (fun z=>tru_set hyB) (fun z=>?_),(tru_set hyB).2 (.inl hq2),?_,?_,hpr2 _ ((tru_set hyB).2 (.inr rfl)) fun z hz=>(tru_set hyB).2 (.inl hz)⟩
   ·simp only[List.mem_append,List.mem_singleton]
    constructor
    ·rintro ((h | h) | h)
     ·exact .inl (.inl h)
     ·exact .inr (by omega)
     ·exact .inl (.inr h)
    ·rintro ((h | h) | h)
     ·exact .inl (.inl h)
     ·exact .inr h
     ·exact .inl (.inr (by omega))
   ·intro z hz
    rcases List.mem_append.1 hz with hz | hz
    ·obtain⟨p,h1,h2⟩:=hT2 z hz
     exact⟨p,h1,(tru_set hyB).2 (.inl h2)⟩
    ·exact⟨y,by simpa using hz,(tru_set hyB).2 (.inr rfl)⟩
   ·simp; omega
 ·simp -implicitDefEqProofs (disch:=first|omega|(simp only[LnZ];omega))[wrap64]
  refine hJ (B2,T2) _ _ ?_ ⟨t2,rfl,H,hBl2,hI2.drop (x:=q) (fun y hxy=>?_) (fun z hz=>hz),hT2,?_⟩
  ·dsimp only; rw[hlen1]; omega
  ·exact hG.all hqG (C:=tru B2) (fun j' hj' y hy=>hpr j' hj' (by omega) y hy) hxy
  ·dsimp only at hm ⊢; rw[hlen1] at hm; omega
theorem c_l7Reach {h:Heap}{w s:Value}{G:List (List Int)}{S:List Int}{E:Nat→Nat→Prop}(Rw:Rep h w G) (Rs:Rep h s S) (hG:Adj E G) (hS:∀z∈S,0≤z∧z<G.length) (hGl:G.length≤1048576) :
  CallE Tryz.prog fn_spec_l7Reach [w,s] h (fun u h'=>∃Q:List Int,HS h [ow u Q] h'∧Q.length≤G.length∧(∀z∈Q,0≤z∧z<G.length)∧∀x:Nat,(x:Int)∈Q↔∃z:Nat,(z:Int)∈S∧Rch E z x):=by
 refine CallE.gen fun k hk=>EN_spec_l7Reach rfl ?_
 have hSl:=Rs.lt
 simp -implicitDefEqProofs (disch:=first|omega|(simp only[LnZ];omega))[wrap64,Rw.len]
 refine HS.init.mks (α:=Bool) (z:=false) rfl rfl own_false (Nat.le_refl _) (by omega) (by omega) fun b h1 H=>?_
 simp -implicitDefEqProofs (disch:=first|omega|(simp only[LnZ];omega))[wrap64]
 refine H.bls0 Int fun t0 h2 H=>?_
 simp -implicitDefEqProofs (disch:=first|omega|(simp only[LnZ];omega))[wrap64]
 refine wp_count S.length (fun i e h'=>∃(t:Value) (B:List Bool) (Q:List Int),e=[some w,some s,none,some b,some t,some (.int .i64 i),none,none,none]∧HS h [ow t Q,ow b B] h'∧B.length=G.length∧Q.length+B.count false=G.length∧(∀z∈Q,∃q:Nat,z=q∧q<G.length)∧(∀x,tru B x↔(x:Int)∈S.take i)∧∀x:Nat,tru B x↔(x:Int)∈Q) ⟨t0,_,[],by simp,H,by simp,by simp,by simp,fun x=>by simp[tru_replicate],fun x=>by simp[tru_replicate]⟩ ?_
 rintro J i _ h3 hJ hi ⟨t,B,Q,rfl,H,hBl,hQl,hQ,hB,hBQ⟩
 simp -implicitDefEqProofs (disch:=first|omega|(simp only[LnZ];omega))[wrap64,(Rs.on H).len]
 refine IteW.mk (fun hlt=>?_) (fun hge=>?_)
 ·have hlx:i<S.length:=by omega
  have hz:=hS _ (List.getElem_mem hlx)
  obtain⟨z,hz2⟩:∃z:Nat,S[i]=z:=⟨S[i].toNat,by omega⟩
  have H:=H.sw1
  have hzB:z<B.length:=by omega
  by_cases hb:B[z]=true
  ·simp -implicitDefEqProofs (disch:=first|omega|(simp only[LnZ];omega))[wrap64,(Rs.on H).I,hz2,H.rep.B,hb]
   refine hJ _ _ hlx ⟨t,B,Q,rfl,H.sw1,hBl,hQl,hQ,fun x=>?_,hBQ⟩
   rw[take_mem_succ hlx,hB,hz2]
   constructor
   ·exact .inl
   ·rintro (h | h)
    ·exact h
    ·obtain rfl:x=z:=by omega
     exact (hB x).1 ((tru_get hzB).2 hb)
  ·have hb':B[z]=false:=by simpa using hb
   have hcs:=count_set hzB hb'
   simp -implicitDefEqProofs (disch:=first|omega|(simp only[LnZ];omega))[wrap64,(Rs.on H).I,hz2,H.rep.B,hb']
   refine H.storeF true (i:=z) hzB rfl rfl trivial rfl fun h4 H=>?_
   simp -implicitDefEqProofs (disch:=first|omega|(simp only[LnZ];omega))[wrap64,(Rs.on H).I,hz2]
   refine H.sw1.app1 (z:Int) rfl rfl rfl ⟨by omega,by omega⟩ rfl rfl (by omega) (by omega) fun t3 h7 H=>?_
   simp -implicitDefEqProofs (disch:=first|omega|(simp only[LnZ];omega))[wrap64]
   refine hJ _ _ hlx ⟨t3,_,_,rfl,H,by simpa using hBl,by simp; omega,?_,fun x=>?_,fun x=>?_⟩
   ·intro y hy
    rcases List.mem_append.1 hy with hy | hy
    ·exact hQ y hy
    ·exact⟨z,by simpa using hy,by omega⟩
   ·rw[tru_set hzB,hB,take_mem_succ hlx,hz2]
    exact or_congr Iff.rfl (by omega)
   ·rw[tru_set hzB,hBQ]
    simp[Int.ofNat_inj]
 simp -implicitDefEqProofs (disch:=first|omega|(simp only[LnZ];omega))[wrap64]
 rw[List.take_of_length_le (by omega)] at hB
 have hI:Srch E (fun z=>(z:Int)∈S) (tru B) (fun z=>(z:Int)∈Q.drop 0):=Srch.init hB fun z hz=>by rw[List.drop_zero,← hBQ,hB]; exact hz
 refine wp_while (σ:=List Bool×List Int×Nat) (fun s e h'=>∃t,e=[some w,none,none,some b,some t,none,some (.int .i64 s.2.2),none,none] ∧
   HS h [ow t s.2.1,ow b s.1] h'∧s.1.length=G.length∧s.2.1.length+s.1.count false=G.length∧s.2.2≤s.2.1.length∧(∀z∈s.2.1,∃q:Nat,z=q∧q<G.length)∧(∀x:Nat,tru s.1 x↔(x:Int)∈s.2.1)∧Srch E (fun z=>(z:Int)∈S) (tru s.1) (fun z=>(z:Int)∈s.2.1.drop s.2.2))
  (fun s=>G.length-s.2.2) (B,Q,0) ⟨t,by simp,H,hBl,hQl,by dsimp only; omega,hQ,hBQ,hI⟩ ?_
 rintro J ⟨B,Q,i⟩ _ h4 hJ ⟨t,rfl,H,hBl,hQl,hiQ,hQ,hBQ,hI⟩
 dsimp only at H hBl hQl hiQ hQ hBQ hI
 simp -implicitDefEqProofs (disch:=first|omega|(simp only[LnZ];omega))[wrap64,H.rep.len]
 refine IteW.mkr (fun h0=>?_) (fun h0=>?_)
 ·simp -implicitDefEqProofs (disch:=first|omega|(simp only[LnZ];omega))[wrap64]
  have hd:Q.drop i=[]:=List.drop_eq_nil_of_le (by omega)
  rw[hd] at hI
  refine RetK.keep (hk _ _ ⟨Q,H.sw1.drop,by omega,fun z hz=>?_,fun x=>?_⟩)
  ·obtain⟨q,rfl,h2⟩:=hQ z hz; omega
  ·rw[← hBQ]; exact hI.done (by simp)
 have hiQ2:i<Q.length:=by omega
 obtain⟨q,hq,hqG⟩:=hQ _ (List.getElem_mem hiQ2)
 obtain⟨u,hu0,Ru⟩:=Rw.ldL hqG
 have hul:=Ru.lt
 have hqB:tru B q:=by rw[hBQ,← hq]; exact List.getElem_mem hiQ2
 simp -implicitDefEqProofs (disch:=first|omega|(simp only[LnZ];omega))[wrap64]
 refine wp_count G[q].length (fun j e h'=>∃(t:Value) (B':List Bool) (W:List Int),e=[some w,none,none,some b,some t,none,some (.int .i64 i),some (.int .i64 j),none] ∧
   HS h [ow t (Q++W),ow b B'] h'∧B'.length=G.length∧(Q++W).length+B'.count false=G.length∧(∀z∈Q++W,∃q:Nat,z=q∧q<G.length)∧(∀x:Nat,tru B' x↔(x:Int)∈Q++W)∧Srch E (fun z=>(z:Int)∈S) (tru B') (fun z=>(z:Int)∈(Q++W).drop i) ∧
   ∀j' (hj':j'<G[q].length),j'<j→∀y:Nat,G[q][j']=y→tru B' y) ⟨t,B,[],by simp,by simpa using H,hBl,by simpa using hQl,by simpa using hQ,by simpa using hBQ,by simpa using hI,fun j' _ hj'=>absurd hj' (Nat.not_lt_zero j')⟩ ?_
 rintro J2 j _ h5 hJ2 hj ⟨t2,B2,W,rfl,H,hBl2,hQl2,hQ2,hBQ2,hI2,hpr⟩
 have hiW:i<(Q++W).length:=by simp; omega
 have hqi:(Q++W)[i]=(q:Int):=by rw[List.getElem_append_left hiQ2]; exact hq
 have hu:=hload_le H.base hu0
 simp -implicitDefEqProofs (disch:=first|omega|(simp only[LnZ];omega))[wrap64,H.rep.I,hqi,(Rw.on H).X (n:=1) rfl,hu,(Ru.on H).len]
 refine IteW.mk (fun hlt2=>?_) (fun hge2=>?_)
 ·have hjl:j<G[q].length:=by omega
  obtain⟨y,hy,hxy,hyG⟩:=hG.get hqG hjl
  have H:=H.sw1
  have hyB:y<B2.length:=by omega
  have hpr2:∀B3,tru B3 y→(∀z,tru B2 z→tru B3 z)→∀j' (hj':j'<G[q].length),j'<j+1→∀y:Nat,G[q][j']=y→tru B3 y:=by
   intro B3 h1 h2 j' hj' hlt y' hy'
   by_cases e:j'=j
   ·subst e
    rw[hy] at hy'
    obtain rfl:y=y':=by omega
    exact h1
   ·exact h2 _ (hpr j' hj' (by omega) y' hy')
  have hqB2:tru B2 q:=by rw[hBQ2,← hqi]; exact List.getElem_mem hiW
  by_cases hb:B2[y]=true
  ·simp -implicitDefEqProofs (disch:=first|omega|(simp only[LnZ];omega))[wrap64,H.sw1.rep.I,hqi,(Rw.on H).X (n:=1) rfl,hu,(Ru.on H).I,hy,H.rep.B,hb]
   exact hJ2 _ _ hjl ⟨t2,B2,W,rfl,H.sw1,hBl2,hQl2,hQ2,hBQ2,hI2,hpr2 _ ((tru_get hyB).2 hb) fun _ h=>h⟩
  ·have hb':B2[y]=false:=by simpa using hb
   simp -implicitDefEqProofs (disch:=first|omega|(simp only[LnZ];omega))[wrap64,H.sw1.rep.I,hqi,(Rw.on H).X (n:=1) rfl,hu,(Ru.on H).I,hy,H.rep.B,hb']
   refine H.storeF true (i:=y) hyB rfl rfl trivial rfl fun h6 H=>?_
   have hcs:=count_set hyB hb'
   simp -implicitDefEqProofs (disch:=first|omega|(simp only[LnZ];omega))[wrap64]
   refine H.sw1.app1 (y:Int) rfl rfl rfl ⟨by omega,by omega⟩ rfl rfl (by omega) (by omega) fun t3 h7 H=>?_
   simp -implicitDefEqProofs (disch:=first|omega|(simp only[LnZ];omega))[wrap64]
   have hassoc:Q++W++[(y:Int)]=Q++(W++[(y:Int)]):=List.append_assoc _ _ _
   rw[hassoc] at H
   refine hJ2 _ _ hjl ⟨t3,_,W++[(y:Int)],rfl,H,by simpa using hBl2,by simp at hQl2 ⊢; omega,?_,fun x=>?_,hI2.add (x:=q) (y:=y) hqB2 hxy (fun z=>tru_set hyB) (fun z=>?_),hpr2 _ ((tru_set hyB).2 (.inr rfl)) fun z hz=>(tru_set hyB).2 (.inl hz)⟩
   ·intro z hz
    rw[← hassoc] at hz
    rcases List.mem_append.1 hz with hz | hz
    ·exact hQ2 z hz
    ·exact⟨y,by simpa using hz,hyG⟩
   ·rw[tru_set hyB,hBQ2,← hassoc]
    simp[Int.ofNat_inj,or_assoc]
   ·rw[← hassoc,List.drop_append_of_le_length (by omega)]
    simp[Int.ofNat_inj]
 ·simp -implicitDefEqProofs (disch:=first|omega|(simp only[LnZ];omega))[wrap64]
  refine hJ (B2,Q++W,i+1) _ _ ?_ ⟨t2,rfl,H,hBl2,hQl2,by dsimp only; omega,hQ2,hBQ2,hI2.drop (x:=q) (fun y hxy=>?_) (fun z hz=>?_)⟩
  ·dsimp only; omega
  ·exact hG.all hqG (C:=tru B2) (fun j' hj' y hy=>hpr j' hj' (by omega) y hy) hxy
  ·dsimp only
   rw[List.drop_eq_getElem_cons hiW,hqi] at hz
   rcases List.mem_cons.1 hz with hz | hz
   ·exact .inr (by omega)
   ·exact .inl hz
end Go.Proofs.YtbanccfdojgocaaGreat

namespace Go.Proofs.YtbanccfdojgocaaGreat
open Go
structure LpI (E:Nat→Nat→Prop) (n q:Nat) (B:List Bool) (Q:List Int) (i:Nat):Prop where
 len:B.length=n
 size:Q.length+2048*B.count false≤2048*(n+1)
 le:i≤Q.length
 snd:∀z∈Q,∃p:Nat,z=p∧p<n∧∃y,E q y∧Rch E y p
 start:∀y,E q y→(y:Int)∈Q
 seen:∀x,tru B x→∀y,E x y→(y:Int)∈Q
 past:∀j (hj:j<Q.length),j<i→Q[j]≠q∧tru B Q[j].toNat
theorem LpI.done {E:Nat→Nat→Prop}{n q:Nat}{B:List Bool}{Q:List Int}{i:Nat}(h:LpI E n q B Q i) (hi:Q.length≤i):¬Cyc E q:=by
 rintro⟨y,h1,h2⟩
 have hm:((q:Nat):Int)∈Q:=by
  refine h2.closed (C:=fun x=>(x:Int)∈Q) (fun u v hu huv=>?_) (h.start y h1)
  obtain⟨j,hj,h3⟩:=List.mem_iff_getElem.1 hu
  have h4:=(h.past j hj (by omega)).2
  rw[h3] at h4
  exact h.seen u h4 v huv
 obtain⟨j,hj,h3⟩:=List.mem_iff_getElem.1 hm
 exact (h.past j hj (by omega)).1 h3
theorem c_l7Loop {h:Heap}{w:Value}{G:List (List Int)}{E:Nat→Nat→Prop}(Rw:Rep h w G) (hG:Adj E G) (hrow:∀x (hx:x<G.length),G[x].length≤2048) (hGl:G.length≤1048576) {q:Nat}(hq:q<G.length) :
  CallE Tryz.prog fn_spec_l7Loop [w,.int .i64 q] h (fun u h'=>h.le h'∧∃r:Bool,u=.bool r∧(r=true↔Cyc E q)):=by
 refine CallE.gen fun k hk=>EN_spec_l7Loop rfl ?_
 obtain⟨u,hu0,Ru⟩:=Rw.ldL hq
 have hul:=hrow q hq
 simp -implicitDefEqProofs (disch:=first|omega|(simp only[LnZ];omega))[wrap64]
 refine wp_count G[q].length (fun i e h'=>e=[some w,some (.int .i64 q),none,some (.int .i64 i),none,none,none,none]∧h'=h∧∀(j:Nat) (hj:j<G[q].length),j<i→G[q][j]≠q) ⟨rfl,rfl,fun j _ hj=>absurd hj (Nat.not_lt_zero j)⟩ ?_
 rintro J i _ h hJ hi ⟨rfl,rfl,hn⟩
 simp -implicitDefEqProofs (disch:=first|omega|(simp only[LnZ];omega))[wrap64,Rw.X (n:=1) rfl,hu0,Ru.I]
 refine IteW.mk (fun hlt=>?_) (fun hge=>?_)
 ·have hlx:i<G[q].length:=by omega
  simp -implicitDefEqProofs (disch:=first|omega|(simp only[LnZ];omega))[wrap64,Rw.X (n:=1) rfl,hu0,Ru.I]
  refine IteW.mk (fun he=>?_) (fun he=>?_)
  ·simp -implicitDefEqProofs (disch:=first|omega|(simp only[LnZ];omega))[wrap64]
   refine RetK.keep (hk _ _ ⟨Heap.le.refl _,true,rfl,?_⟩)
   simp only[true_iff]
   obtain⟨y,h1,h2,_⟩:=hG.get hq hlx
   obtain rfl:y=q:=by rw[he] at h1; omega
   exact⟨y,h2,.refl _⟩
  ·simp -implicitDefEqProofs (disch:=first|omega|(simp only[LnZ];omega))[wrap64]
   refine hJ _ _ hlx ⟨rfl,rfl,fun j hj hji=>?_⟩
   by_cases hji2:j=i
   ·subst hji2; exact he
   ·exact hn j hj (by omega)
 clear hn
 simp -implicitDefEqProofs (disch:=first|omega|(simp only[LnZ];omega))[wrap64,Rw.len]
 refine HS.init.mks (α:=Bool) (z:=false) rfl rfl own_false (Nat.le_refl _) (by omega) (by omega) fun b h1 H=>?_
 have hu:=hload_le H.base hu0
 simp -implicitDefEqProofs (disch:=first|omega|(simp only[LnZ];omega))[wrap64,(Rw.on H).X (n:=1) rfl,hu]
 refine H.appPL (α:=Int) (l2:=G[q]) rfl rfl (Ru.on H) rfl rfl (by omega) fun t h2 H=>?_
 simp -implicitDefEqProofs (disch:=first|omega|(simp only[LnZ];omega))[wrap64]
 have hmem:=hG.mem q hq
 have hI:LpI E G.length q (List.replicate G.length false) G[q] 0:=by
  refine⟨by simp,by simp; omega,by omega,fun z hz=>?_,fun y hy=>(hmem y).2 ⟨y,rfl,hy⟩,fun x hx=>absurd hx tru_replicate,fun j _ hj=>absurd hj (Nat.not_lt_zero j)⟩
  obtain⟨y,rfl,h2⟩:=(hmem z).1 hz
  exact⟨y,rfl,(hG.lt _ _ h2).2,y,h2,.refl _⟩
 refine wp_while (σ:=List Bool×List Int×Nat) (fun s e h'=>∃t,e=[some w,some (.int .i64 q),none,none,some b,some t,some (.int .i64 s.2.2),none] ∧
   HS h [ow t s.2.1,ow b s.1] h'∧LpI E G.length q s.1 s.2.1 s.2.2) (fun s=>s.1.count false*2049+(s.2.1.length-s.2.2)) (List.replicate G.length false,G[q],0) ⟨t,by simp,H,hI⟩ ?_
 rintro J2 ⟨B,Q,i⟩ _ h3 hJ2 ⟨t,rfl,H,hI⟩
 dsimp only at H hI
 have hsz:=hI.size
 have hle:=hI.le
 have hBl:=hI.len
 simp -implicitDefEqProofs (disch:=first|omega|(simp only[LnZ];omega))[wrap64,H.rep.len]
 refine IteW.mkr (fun h0=>?_) (fun h0=>?_)
 ·simp -implicitDefEqProofs (disch:=first|omega|(simp only[LnZ];omega))[wrap64]
  exact RetK.keep (hk _ _ ⟨H.base,false,rfl,by simpa using hI.done (by omega)⟩)
 have hiQ:i<Q.length:=by omega
 obtain⟨p,hp,hpn,y,hy1,hy2⟩:=hI.snd _ (List.getElem_mem hiQ)
 by_cases hpq:p=q
 ·have hp2:Q[i]=(q:Int):=by rw[hp,hpq]
  simp -implicitDefEqProofs (disch:=first|omega|(simp only[LnZ];omega))[wrap64,H.rep.I,hp2]
  refine RetK.keep (hk _ _ ⟨H.base,true,rfl,?_⟩)
  simp only[true_iff]
  exact⟨y,hy1,hpq ▸ hy2⟩
 have hpq2:¬((p:Int)=q):=by omega
 have H:=H.sw1
 have hpB:p<B.length:=by omega
 have hpast:∀(B':List Bool) (W:List Int),(∀x,tru B x→tru B' x)→tru B' p→∀j (hj:j<(Q++W).length),j<i+1→(Q++W)[j]≠q∧tru B' (Q++W)[j].toNat:=by
  intro B' W h1 h2 j hj hji
  have hjQ:j<Q.length:=by omega
  rw[List.getElem_append_left hjQ]
  by_cases e:j=i
  ·subst e
   rw[hp]
   exact⟨hpq2,by simpa using h2⟩
  ·have:=hI.past j hjQ (by omega)
   exact⟨this.1,h1 _ this.2⟩
 by_cases hb:B[p]=true
 ·simp -implicitDefEqProofs (disch:=first|omega|(simp only[LnZ];omega))[wrap64,H.sw1.rep.I,hp,hpq2,H.rep.B,hb]
  refine hJ2 (B,Q,i+1) _ _ ?_ ⟨t,rfl,H.sw1,hI.len,hsz,by dsimp only; omega,hI.snd,hI.start,hI.seen,?_⟩
  ·dsimp only; omega
  ·dsimp only
   have:=hpast B [] (fun _ h=>h) ((tru_get hpB).2 hb)
   simpa using this
 ·have hb':B[p]=false:=by simpa using hb
  obtain⟨v,hv0,Rv⟩:=Rw.ldL hpn
  have hrp:=hrow p hpn
  have hcs:=count_set hpB hb'
  simp -implicitDefEqProofs (disch:=first|omega|(simp only[LnZ];omega))[wrap64,H.sw1.rep.I,hp,hpq2,H.rep.B,hb']
  refine H.storeF true (i:=p) hpB rfl rfl trivial rfl fun h4 H=>?_
  have hv:=hload_le H.base hv0
  simp -implicitDefEqProofs (disch:=first|omega|(simp only[LnZ];omega))[wrap64,(Rw.on H).X (n:=1) rfl,hv]
  refine H.sw1.appL rfl rfl (Rv.on H) rfl rfl (by omega) (by omega) fun t3 h5 H=>?_
  simp -implicitDefEqProofs (disch:=first|omega|(simp only[LnZ];omega))[wrap64]
  have hmp:=hG.mem p hpn
  refine hJ2 (B.set p true,Q++G[p],i+1) _ _ ?_ ⟨t3,rfl,H,by simpa using hI.len,by simp; omega,by simp; omega,?_,?_,?_,hpast _ _ (fun x hx=>(tru_set hpB).2 (.inl hx)) ((tru_set hpB).2 (.inr rfl))⟩
  ·simp; omega
  ·intro z hz
   rcases List.mem_append.1 hz with hz | hz
   ·exact hI.snd z hz
   ·obtain⟨y',rfl,h2⟩:=(hmp z).1 hz
    exact⟨y',rfl,(hG.lt _ _ h2).2,y,hy1,hy2.snoc h2⟩
  ·intro y' hy'
   exact List.mem_append_left _ (hI.start y' hy')
  ·intro x hx y' hxy
   rcases (tru_set hpB).1 hx with hx | rfl
   ·exact List.mem_append_left _ (hI.seen x hx y' hxy)
   ·exact List.mem_append_right _ ((hmp _).2 ⟨y',rfl,hxy⟩)
theorem ok_one {n:Int}(h:-9223372036854775808≤n∧n<9223372036854775808):∀x∈[n],Flat.ok x:=by
 intro x hx
 obtain rfl:x=n:=by simpa using hx
 exact h
theorem c_spec_LiveStates {h:Heap}{v:Value}{a:Aut}(Ra:Rep h v a) (ha:a.Ok):CallE Tryz.prog fn_spec_LiveStates [v] h (fun u h'=>∃L:List Bool,HS h [ow u L] h'∧L.length=a.acc.length∧∀q,tru L q↔q<a.acc.length∧a.Live q):=by
 obtain⟨v1,v2,v3,rfl,R1,R2,R3⟩:=Rep_Aut.1 Ra
 refine CallE.gen fun k hk=>EN_spec_LiveStates rfl ?_
 have hn:=ha.n
 simp -implicitDefEqProofs (disch:=first|omega|(simp only[LnZ];omega))[wrap64]
 refine HS.init.bls0 Bool fun o h1 H=>?_
 simp -implicitDefEqProofs (disch:=first|omega|(simp only[LnZ];omega))[wrap64]
 refine (c_spec_AutomatonValid (Ra.on H)).go ?_
 rintro _ h1 ⟨rfl,rfl⟩
 simp -implicitDefEqProofs (disch:=first|omega|(simp only[LnZ];omega))[wrap64,ha]
 refine (c_l7Next (Ra.on H) ha).go ?_
 rintro w h2 ⟨G,H2,hG,hGl,hrow⟩
 have H:=H2.app H
 have H:=H.sw1
 simp -implicitDefEqProofs (disch:=first|omega|(simp only[LnZ];omega))[wrap64]
 refine wp_count a.acc.length (fun i e h'=>∃(o:Value) (L:List Bool),e=[none,some (.agg #[v1,v2,v3]),none,some o,some w,some (.int .i64 i),none,none,none]∧HS h [ow o L,ow w G] h'∧L.length=i∧∀q,tru L q↔q<i∧a.Live q) ⟨o,[],by simp,H,rfl,fun q=>by simp[tru]⟩ ?_
 rintro J i _ h3 hJ hi ⟨o,L,rfl,H,hLl,hL⟩
 simp -implicitDefEqProofs (disch:=first|omega|(simp only[LnZ];omega))[wrap64,(R2.on H).len]
 refine IteW.mk (fun hlt=>?_) (fun hge=>?_)
 ·have hin:i<a.acc.length:=by omega
  simp -implicitDefEqProofs (disch:=first|omega|(simp only[LnZ];omega))[wrap64]
  refine H.bls (α:=Int) [(i:Int)] (by rfl) rfl (ok_one (by omega)) (by decide) fun s h4 H=>?_
  simp -implicitDefEqProofs (disch:=first|omega|(simp only[LnZ];omega))[wrap64]
  have hS1:∀z∈[(i:Int)],0≤z∧z<(G.length:Int):=by
   intro z hz
   have hxi:z=i:=by simpa using hz
   omega
  refine (c_l7Reach (S:=[(i:Int)]) H.sw2.rep H.rep hG hS1 (by omega)).go ?_
  rintro qv h5 ⟨Q,H5,hQl,hQn,hQ⟩
  have H:=H5.app H.drop
  simp -implicitDefEqProofs (disch:=first|omega|(simp only[LnZ];omega))[wrap64]
  refine wp_count Q.length (fun k e h'=>∃(r:Bool),e=[none,some (.agg #[v1,v2,v3]),none,some o,some w,some (.int .i64 i),some qv,some (.bool r),some (.int .i64 k)]∧HS h [ow qv Q,ow o L,ow w G] h'∧(r=true→a.Live i)∧∀j (hj:j<Q.length),j<k→r=false→¬(tru a.acc Q[j].toNat∧Cyc a.E Q[j].toNat)) ⟨false,by simp,H,by simp,fun j _ hj=>absurd hj (Nat.not_lt_zero j)⟩ ?_
  rintro J2 k _ h6 hJ2 hk2 ⟨r,rfl,H,hr1,hr2⟩
  simp -implicitDefEqProofs (disch:=first|omega|(simp only[LnZ];omega))[wrap64,H.rep.len]
  by_cases hx:k<Q.length∧r=false
  ·obtain⟨hkl,rfl⟩:=hx
   obtain⟨hz0,hz1⟩:=hQn _ (List.getElem_mem hkl)
   obtain⟨z,hz⟩:∃z:Nat,Q[k]=z:=⟨Q[k].toNat,by omega⟩
   have hzG:z<G.length:=by omega
   have hzr:Rch a.E i z:=by
    have h1:((z:Nat):Int)∈Q:=by rw[← hz]; exact List.getElem_mem hkl
    obtain⟨i',h2,h3⟩:=(hQ z).1 h1
    obtain rfl:i'=i:=by simpa[Int.ofNat_inj] using h2
    exact h3
   have hnext:∀r':Bool,(r'=true↔tru a.acc z∧Cyc a.E z)→(r'=true→a.Live i)∧∀j (hj:j<Q.length),j<k+1→r'=false→¬(tru a.acc Q[j].toNat∧Cyc a.E Q[j].toNat):=by
    intro r' hr'
    refine⟨fun h=>⟨z,hzr,(hr'.1 h).2,(hr'.1 h).1⟩,fun j hj hjk hf=>?_⟩
    by_cases e:j=k
    ·subst e
     rw[hz]
     intro hh
     have:=hr'.2 (by simpa using hh)
     rw[hf] at this; simp at this
    ·exact hr2 j hj (by omega) rfl
   by_cases hac:tru a.acc z
   ·have hac2:=(tru_get (by omega:z<a.acc.length)).1 hac
    simp -implicitDefEqProofs (disch:=first|omega|(simp only[LnZ];omega))[wrap64,hkl,H.rep.I,hz,(R2.on H).B,hac2]
    refine (c_l7Loop H.sw2.rep hG hrow (by omega) hzG).go ?_
    rintro _ h7 ⟨l7,r',rfl,hr'⟩
    have H:=H.le l7
    simp -implicitDefEqProofs (disch:=first|omega|(simp only[LnZ];omega))[wrap64]
    have h8:=hnext r' (by rw[hr']; simp[hac])
    exact hJ2 _ _ hkl ⟨r',by simp,H,h8.1,h8.2⟩
   ·have hac2:a.acc[z]'(by omega)=false:=by
     have:=mt (tru_get (by omega:z<a.acc.length)).2 hac
     simpa using this
    simp -implicitDefEqProofs (disch:=first|omega|(simp only[LnZ];omega))[wrap64,hkl,H.rep.I,hz,(R2.on H).B,hac2]
    have h8:=hnext false (by simp[hac])
    exact hJ2 _ _ hkl ⟨false,by simp,H,h8.1,h8.2⟩
  ·have hfin:r=true↔a.Live i:=by
    refine⟨hr1,fun ⟨t,h1,h2,h3⟩=>?_⟩
    cases r with
    | true=>rfl
    | false=>
     exfalso
     have hkl:¬k<Q.length:=fun h=>hx ⟨h,rfl⟩
     have hm:((t:Nat):Int)∈Q:=(hQ t).2 ⟨i,by simp,h1⟩
     obtain⟨j,hj,h4⟩:=List.mem_iff_getElem.1 hm
     refine hr2 j hj (by omega) rfl ?_
     rw[h4]
     exact⟨by simpa using h3,by simpa using h2⟩
   have hstep:∀q,tru (L++[r]) q↔q<i+1∧a.Live q:=by
    intro q
    by_cases e:q=i
    ·subst e
     rw[← hfin]
     simp[tru,← hLl]
    ·have h1:tru (L++[r]) q↔tru L q:=by
      simp only[tru,List.getD_eq_getElem?_getD]
      by_cases h2:q<L.length
      ·rw[List.getElem?_append_left h2]
      ·rw[List.getElem?_eq_none (by simp; omega),List.getElem?_eq_none (by omega)]
     rw[h1,hL]
     constructor
     ·rintro⟨h2,h3⟩; exact⟨by omega,h3⟩
     ·rintro⟨h2,h3⟩; exact⟨by omega,h3⟩
   have hcase:(¬k<Q.length)∨(k<Q.length∧r=true):=by
    by_cases hkl:k<Q.length
    ·exact .inr ⟨hkl,by cases r with | true=>rfl | false=>exact absurd ⟨hkl,rfl⟩ hx⟩
    ·exact .inl hkl
   have H:=H.drop
   rcases hcase with hkl | ⟨hkl,rfl⟩
   ·simp -implicitDefEqProofs (disch:=first|omega|(simp only[LnZ];omega))[wrap64,hkl]
    refine H.app1 r rfl rfl rfl trivial rfl rfl (by omega) (by omega) fun o' h7 H=>?_
    simp -implicitDefEqProofs (disch:=first|omega|(simp only[LnZ];omega))[wrap64]
    exact hJ _ _ hin ⟨o',_,by simp,H,by simp[hLl],hstep⟩
   ·simp -implicitDefEqProofs (disch:=first|omega|(simp only[LnZ];omega))[wrap64,hkl]
    refine H.app1 true rfl rfl rfl trivial rfl rfl (by omega) (by omega) fun o' h7 H=>?_
    simp -implicitDefEqProofs (disch:=first|omega|(simp only[LnZ];omega))[wrap64]
    exact hJ _ _ hin ⟨o',_,by simp,H,by simp[hLl],hstep⟩
 ·simp -implicitDefEqProofs (disch:=first|omega|(simp only[LnZ];omega))[wrap64]
  have hia:i=a.acc.length:=by omega
  exact RetK.keep (hk _ _ ⟨L,H.sw1.drop,by omega,fun q=>by rw[hL,hia]⟩)
end Go.Proofs.YtbanccfdojgocaaGreat

namespace Go.Proofs.YtbanccfdojgocaaGreat
open Go
def gd (l:List Int):Nat→Int:=fun x=>l.getD x 0
theorem gd_get {l:List Int}{i:Nat}(hi:i<l.length):gd l i=l[i]:=by simp[gd,hi]
theorem gd_set {l:List Int}{i:Nat}{v:Int}(hi:i<l.length):gd (l.set i v)=fput (gd l) i v:=by
 funext x
 simp only[gd,fput,List.getD_eq_getElem?_getD,List.getElem?_set]
 by_cases h:i=x
 ·subst h; simp[hi]
 ·simp[h,Ne.symm h]
theorem ite_min {a b:Int}:(if b<a then b else a)=min a b:=by
 split <;> omega
def unv (n:Nat) (f:Nat→Int):Nat:=((List.range n).filter fun x=>decide (x<n∧f x=0)).length
theorem unv_lt {n:Nat}{f f':Nat→Int}{a:Nat}(ha:a<n) (h0:f a=0) (h1:f' a≠0) (h:∀x,x<n→f x≠0→f' x≠0):unv n f'<unv n f:=by
 refine filter_lt_of ?_ ⟨a,by simpa using ha,by simp[h1],by simp[h0,ha]⟩
 intro x hx2
 simp at hx2 ⊢
 exact⟨hx2.1,Classical.byContradiction fun hn=>h x hx2.1 hn hx2.2⟩
@[reducible] def FB (bN bL bQ bG bV:Nat) (vn vl vq w fv:Value) (h:Heap):Prop:=hload h (some (.pointer (some ⟨bN,0,none⟩))) none=some vn∧hload h (some (.pointer (some ⟨bL,0,none⟩))) none=some vl∧hload h (some (.pointer (some ⟨bQ,0,none⟩))) none=some vq ∧
 hload h (some (.pointer (some ⟨bG,0,none⟩))) none=some w∧hload h (some (.pointer (some ⟨bV,0,none⟩))) none=some fv
theorem FB.on {bN bL bQ bG bV:Nat}{vn vl vq w fv:Value}{g h:Heap}{Γ:List HP}(F:FB bN bL bQ bG bV vn vl vq w fv g) (H:HS g Γ h):FB bN bL bQ bG bV vn vl vq w fv h:=
 ⟨hload_le H.base F.1,hload_le H.base F.2.1,hload_le H.base F.2.2.1,hload_le H.base F.2.2.2.1,hload_le H.base F.2.2.2.2⟩
@[reducible] def CHs (vn vl vq:Value) (bS bC bP:Nat) (vs:Value) (N L Q:List Int) (s:TS):List HP:=
 [ow vn N,ow vl L,ow vq Q,ow vs (s.stk.map Int.ofNat),bx bS [vs],bx bC [.int .i64 s.cnt],bx bP [.int .i64 s.prt]]
structure CHl (n:Nat) (N L Q:List Int) (s:TS):Prop where
 hN:N.length=n
 hL:L.length=n
 hQ:Q.length=n
 num:s.num=gd N
 low:s.low=gd L
 part:s.part=gd Q
 cnt:s.cnt+unv n s.num≤n
def CH (g:Heap) (vn vl vq:Value) (bS bC bP n:Nat) (s:TS) (h:Heap):Prop:=∃(N L Q:List Int) (vs:Value),CHl n N L Q s∧HS g (CHs vn vl vq bS bC bP vs N L Q s) h
theorem TL.mono {n:Nat}{E:Nat→Nat→Prop}{gr sc sc':Nat→Prop}{s s1:TS}{a:Nat}(h:TL n E gr s a sc s1) (hs:∀y,sc' y→sc y):TL n E gr s a sc' s1:=
 ⟨h.inv,h.num,h.part,h.stk,h.na,h.cnt,h.fresh,h.black,h.lowa,h.low,h.min,fun y hy=>h.proc y (hs y hy)⟩
def topv (C:List Nat) (m:Nat):Int:=if h:m<C.length then (C[m]:Int) else -1
set_option maxHeartbeats 4000000 in
theorem c_visit {g:Heap}{bN bL bQ bG bV bS bC bP n:Nat}{vn vl vq w fv:Value}{G:List (List Int)}{E:Nat→Nat→Prop}(F:FB bN bL bQ bG bV vn vl vq w fv g) (Rw:Rep g w G) (hG:Adj E G) (hn:G.length=n) (hnl:n≤1048576)
  (hfv:fnOf fv=some (fn_impl_components_1,[],[.pointer (some ⟨bC,0,none⟩),.pointer (some ⟨bN,0,none⟩),.pointer (some ⟨bL,0,none⟩),.pointer (some ⟨bS,0,none⟩),.pointer (some ⟨bG,0,none⟩),.pointer (some ⟨bV,0,none⟩),.pointer (some ⟨bQ,0,none⟩),.pointer (some ⟨bP,0,none⟩)])) :
  ∀(m:Nat) (gr:Nat→Prop) (s:TS) (a:Nat) (h:Heap),unv n s.num=m→CH g vn vl vq bS bC bP n s h→TI n E gr s→a<n→s.num a=0→(∀g,gr g→g∈s.stk→Rch E g a)→(∀g,gr g→g<n∧s.num g≠0) →
  CallE Tryz.prog fn_impl_components_1 [.int .i64 a,.pointer (some ⟨bC,0,none⟩),.pointer (some ⟨bN,0,none⟩),.pointer (some ⟨bL,0,none⟩),.pointer (some ⟨bS,0,none⟩),.pointer (some ⟨bG,0,none⟩),.pointer (some ⟨bV,0,none⟩),.pointer (some ⟨bQ,0,none⟩),.pointer (some ⟨bP,0,none⟩)] h
   (fun u h'=>∃s',CH g vn vl vq bS bC bP n s' h'∧TV n E gr s a s'):=by
 intro m
 induction m using Nat.strongRecOn with
 | ind m ih=>
 rintro gr s a h hm ⟨N,L,Q,vs,hl,H⟩ hI han ha0 hg1 hg2
 have hE:∀x y,E x y→x<n∧y<n:=fun x y hxy=>hn ▸ hG.lt x y hxy
 have hc:=hI.cnt
 have hcn:=hl.cnt
 have hNl:=hl.hN
 have hLl:=hl.hL
 have hQl:=hl.hQ
 have haG:a<G.length:=by omega
 obtain⟨u,hu0,Ru⟩:=Rw.ldL haG
 have hul:=Ru.lt
 refine CallE.gen fun k hk=>EN_impl_components_1 rfl ?_
 simp -implicitDefEqProofs (disch:=first|omega|(simp only[LnZ];omega))[wrap64,H.sw5.bxld0]
 refine H.sw5.bxst (u:=.int .i64 (s.cnt+1)) rfl rfl rfl rfl (by simp) fun h1 H=>?_
 simp only[setC,cells_int,List.take_zero,List.nil_append] at H
 have H:HS g (bx bC [.int .i64 (s.cnt+1)]::ow vn N::ow vl L::ow vq Q::ow vs (s.stk.map Int.ofNat)::bx bS [vs]::[bx bP [.int .i64 s.prt]]) h1:=H
 have H:=H.bk5
 simp -implicitDefEqProofs (disch:=first|omega|(simp only[LnZ];omega))[wrap64,F.on H,H.sw5.bxld0,H.rep.I]
 refine H.storeF (s.cnt+1) (i:=a) (by omega) rfl rfl ⟨by omega,by omega⟩ rfl fun h2 H=>?_
 have H:=H.sw1
 simp -implicitDefEqProofs (disch:=first|omega|(simp only[LnZ];omega))[wrap64,F.on H,H.sw5.bxld0,H.rep.I]
 refine H.storeF (s.cnt+1) (i:=a) (by omega) rfl rfl ⟨by omega,by omega⟩ rfl fun h3 H=>?_
 have H:=H.sw1
 simp -implicitDefEqProofs (disch:=first|omega|(simp only[LnZ];omega))[wrap64,F.on H,H.sw4.bxld0]
 refine H.sw3.app1 (a:Int) rfl rfl rfl ⟨by omega,by omega⟩ rfl rfl (by simp; omega) (by simp; omega) fun vs1 h4 H=>?_
 have H:=H.bk3
 simp -implicitDefEqProofs (disch:=first|omega|(simp only[LnZ];omega))[wrap64,F.on H]
 refine H.sw4.bxst (u:=vs1) rfl rfl (by rw[H.sw3.rep.cells]; rfl) (by rw[H.sw3.rep.cells]; simp[H.sw3.rep.one]) (by simp[H.sw3.rep.cells]) fun h5 H=>?_
 have H:HS g [ow vn (N.set a (s.cnt+1)),ow vl (L.set a (s.cnt+1)),ow vq Q,ow vs1 ((s.push a).stk.map Int.ofNat),bx bS [vs1],bx bC [.int .i64 (s.cnt+1)],bx bP [.int .i64 s.prt]] h5:=by
  simpa[setC,H.sw4.rep.cells,TS.push] using H.bk4
 have hl1:CHl n (N.set a (s.cnt+1)) (L.set a (s.cnt+1)) Q (s.push a):=by
  refine⟨by simpa using hNl,by simpa using hLl,hQl,by rw[gd_set (by omega),← hl.num]; rfl,by rw[gd_set (by omega),← hl.low]; rfl,hl.part,?_⟩
  have h1:unv n (s.push a).num<unv n s.num:=by
   refine unv_lt han ha0 (by simp[TS.push]; omega) fun x hx hx0=>?_
   by_cases e:x=a
   ·exact absurd ha0 (e ▸ hx0)
   ·simp only[TS.push,fput_ne e]; exact hx0
  show s.cnt+1+(unv n (s.push a).num:Int)≤n
  omega
 have hT:=TL.start hE hI han ha0 hg1
 simp -implicitDefEqProofs (disch:=first|omega|(simp only[LnZ];omega))[wrap64,F.on H,(Rw.on H).X (n:=1) rfl,hload_le H.base hu0,Ru.len]
 refine wp_count G[a].length (fun j e h'=>e=[some (.int .i64 a),none,some (.pointer (some ⟨bN,0,none⟩)),some (.pointer (some ⟨bL,0,none⟩)),some (.pointer (some ⟨bS,0,none⟩)),none,some (.pointer (some ⟨bV,0,none⟩)),some (.pointer (some ⟨bQ,0,none⟩)),some (.pointer (some ⟨bP,0,none⟩)),none,none,some u,some (.int .i64 G[a].length),some (.int .i64 j)] ∧
  ∃s1,CH g vn vl vq bS bC bP n s1 h'∧TL n E gr s a (fun y=>∃(j':Nat) (hj':j'<G[a].length),j'<j∧G[a][j']=y) s1) ⟨by simp,_,⟨_,_,_,_,hl1,H⟩,hT.mono fun y ⟨_,_,h0,_⟩=>absurd h0 (Nat.not_lt_zero _)⟩ ?_
 clear hl1 hT H hl
 rintro J j _ h6 hJ hj ⟨rfl,s1,⟨N,L,Q,vs,hl,H⟩,hT⟩
 have hNl:=hl.hN
 have hLl:=hl.hL
 have hQl:=hl.hQ
 simp -implicitDefEqProofs (disch:=first|omega|(simp only[LnZ];omega))[wrap64]
 refine IteW.mk (fun hlt=>?_) (fun hge=>?_)
 ·have hjl:j<G[a].length:=by omega
  obtain⟨y,hy,hxy,hyG⟩:=hG.get haG hjl
  have hyn:y<n:=by omega
  have hsc:∀z:Nat,(∃(j':Nat) (hj':j'<G[a].length),j'<j+1∧G[a][j']=z)→(∃(j':Nat) (hj':j'<G[a].length),j'<j∧G[a][j']=z)∨z=y:=by
   rintro z ⟨j',hj',h1,h2⟩
   by_cases e:j'=j
   ·subst e; exact .inr (by omega)
   ·exact .inl ⟨j',hj',by omega,h2⟩
  have hNy:s1.num y=N[y]'(by omega):=by rw[hl.num,gd_get]
  have hQy:s1.part y=Q[y]'(by omega):=by rw[hl.part,gd_get]
  have hLa:s1.low a=L[a]'(by omega):=by rw[hl.low,gd_get]
  by_cases hy0:N[y]'(by omega)=0
  ·have hy0':s1.num y=0:=by rw[hNy,hy0]
   have hgray:=hT.gray hxy hI hg2 han
   have hlt2:unv n s1.num<m:=by
    rw[← hm]
    refine unv_lt han ha0 (by rw[hT.na]; omega) fun x hx hx0=>?_
    rw[(hT.num x hx hx0).1]; exact hx0
   simp -implicitDefEqProofs (disch:=first|omega|(simp only[LnZ];omega))[wrap64,(Ru.on H).I,hy,F.on H,H.rep.I,hy0,hfv]
   refine (ih (unv n s1.num) hlt2 _ s1 y _ rfl ⟨N,L,Q,vs,hl,H⟩ hT.inv hyn hy0' hgray.1 hgray.2.1).go ?_
   clear H hl hNy hQy hLa
   rintro u' h7 ⟨s2,⟨N2,L2,Q2,vs2,hl,H⟩,hV⟩
   have hLl2:=hl.hL
   have hLa:L2[a]'(by omega)=s2.low a:=by rw[hl.low,gd_get]
   have hLy:L2[y]'(by omega)=s2.low y:=by rw[hl.low,gd_get]
   have H:=H.sw1
   have hla:=H.rep.okI (i:=a) (by omega)
   have hly:=H.rep.okI (i:=y) (by omega)
   simp -implicitDefEqProofs (disch:=first|omega|(simp only[LnZ];omega))[wrap64,F.on H,H.rep.I,ite_min]
   refine H.storeF (min (L2[a]'(by omega)) (L2[y]'(by omega))) (i:=a) (by omega) rfl rfl ⟨by omega,by omega⟩ rfl fun h8 H=>?_
   simp -implicitDefEqProofs (disch:=first|omega|(simp only[LnZ];omega))[wrap64]
   refine hJ _ _ hjl ⟨rfl,s2.lower a (s2.low y),⟨N2,L2.set a (min (L2[a]'(by omega)) (L2[y]'(by omega))),Q2,vs2,⟨hl.hN,by simpa using hLl2,hl.hQ,hl.num,?_,hl.part,hl.cnt⟩,H.sw1⟩,(hT.visit hxy hE ha0 hI hy0' hV).mono hsc⟩
   rw[gd_set (by omega),← hl.low,hLa,hLy]
   rfl
  ·have hy0':s1.num y≠0:=by rw[hNy]; exact hy0
   by_cases hp:Q[y]'(by omega)<0
   ·have hl2:(L[a]'(by omega))=s1.low a:=hLa.symm
    have H1:=H.sw1
    have hla:=H1.rep.okI (i:=a) (by omega)
    have hny:=H.rep.okI (i:=y) (by omega)
    simp -implicitDefEqProofs (disch:=first|omega|(simp only[LnZ];omega))[wrap64,(Ru.on H).I,hy,F.on H,H.rep.I,hy0,H.sw2.rep.I,hp,H.sw1.rep.I,ite_min]
    refine H1.storeF (min (L[a]'(by omega)) (N[y]'(by omega))) (i:=a) (by omega) rfl rfl ⟨by omega,by omega⟩ rfl fun h8 H=>?_
    simp -implicitDefEqProofs (disch:=first|omega|(simp only[LnZ];omega))[wrap64]
    refine hJ _ _ hjl ⟨rfl,s1.lower a (s1.num y),⟨N,L.set a (min (L[a]'(by omega)) (N[y]'(by omega))),Q,vs,⟨hl.hN,by simpa using hLl,hl.hQ,hl.num,?_,hl.part,hl.cnt⟩,H.sw1⟩,(hT.seen hxy hE ha0 hI hy0' (by rw[hQy]; exact hp)).mono hsc⟩
    rw[gd_set (by omega),← hl.low,hl2,← hNy]
    rfl
   ·simp -implicitDefEqProofs (disch:=first|omega|(simp only[LnZ];omega))[wrap64,(Ru.on H).I,hy,F.on H,H.rep.I,hy0,H.sw2.rep.I,hp]
    exact hJ _ _ hjl ⟨rfl,s1,⟨N,L,Q,vs,hl,H⟩,(hT.skip hI hyn hy0' (by rw[hQy]; omega)).mono hsc⟩
 have hall:∀y,E a y→∃(j':Nat) (hj':j'<G[a].length),j'<j∧G[a][j']=y:=by
  intro y hxy
  obtain⟨_,j',hj',h1⟩:=hG.of hxy
  exact⟨j',hj',by omega,h1⟩
 have hLa:s1.low a=L[a]'(by omega):=by rw[hl.low,gd_get]
 have hNa:s1.num a=N[a]'(by omega):=by rw[hl.num,gd_get]
 have hc1:=hT.inv.cnt
 by_cases he:L[a]'(by omega)=N[a]'(by omega)
 case neg=>
  simp -implicitDefEqProofs (disch:=first|omega|(simp only[LnZ];omega))[wrap64,F.on H,H.rep.I,H.sw1.rep.I,he]
  exact RetK.keep (hk _ _ ⟨s1,⟨N,L,Q,vs,hl,H⟩,hT.end1 hall han ha0 hI (by rw[hLa,hNa]; exact he)⟩)
 obtain⟨wl,hw,hw2⟩:=hT.stk
 have hlen:s1.stk.length=s.stk.length+(a::wl).length:=by rw[hw]; simp
 have hcl:s1.cnt≤n:=by have:=hl.cnt; omega
 have hpr:∀x∈a::wl,x<n:=fun x hx=>hT.inv.stk_lt (by rw[hw]; exact List.mem_append_right _ hx)
 simp -implicitDefEqProofs (disch:=first|omega|(simp only[LnZ];omega))[wrap64,F.on H,H.rep.I,H.sw1.rep.I,he]
 refine wp_while (σ:=Nat) (fun m e h'=>m≤(a::wl).length∧e=[some (.int .i64 a),none,none,none,some (.pointer (some ⟨bS,0,none⟩)),none,none,some (.pointer (some ⟨bQ,0,none⟩)),some (.pointer (some ⟨bP,0,none⟩)),none,some (.int .i64 (topv (a::wl) m)),none,none,none] ∧
   ∃Q' vs',Q'.length=n∧gd Q'=(fun x=>if x∈(a::wl).drop m then s1.prt else s1.part x)∧HS g [ow vn N,ow vl L,ow vq Q',ow vs' ((s.stk++(a::wl).take m).map Int.ofNat),bx bS [vs'],bx bC [.int .i64 s1.cnt],bx bP [.int .i64 s1.prt]] h')
  (fun m=>m) (a::wl).length ⟨Nat.le_refl _,by simp[topv],Q,vs,hQl,by rw[List.drop_length]; simp[hl.part],by rw[List.take_length,← hw]; exact H⟩ ?_
 rintro J2 m _ h7 hJ2 ⟨hml,rfl,Q',vs',hQl',hQ',H⟩
 cases m with
 | zero=>
  have ht:topv (a::wl) 0=a:=by simp[topv]
  simp -implicitDefEqProofs (disch:=first|omega|(simp only[LnZ];omega))[wrap64,ht,H.sw6.bxld0]
  refine H.sw6.bxst (u:=.int .i64 (s1.prt+1)) rfl rfl rfl rfl (by simp) fun h8 H=>?_
  have H:HS g (bx bP [.int .i64 (s1.prt+1)]::ow vn N::ow vl L::ow vq Q'::ow vs' (s.stk.map Int.ofNat)::bx bS [vs']::[bx bC [.int .i64 s1.cnt]]) h8:=by
   simpa[setC] using H
  have H:=H.bk6
  simp -implicitDefEqProofs (disch:=first|omega|(simp only[LnZ];omega))[wrap64]
  exact RetK.keep (hk _ _ ⟨s1.pop s.stk (a::wl),⟨N,L,Q',vs',⟨hl.hN,hl.hL,hQl',hl.num,hl.low,by rw[hQ']; rfl,hl.cnt⟩,H⟩,hT.end2 hE hall han ha0 hI hg2 (by rw[hLa,hNa]; exact he) hw⟩)
 | succ m=>
  have hmC:m<(a::wl).length:=by omega
  obtain⟨c,hc'⟩:∃c,(a::wl)[m]=c:=⟨_,rfl⟩
  have hcn:c<n:=hpr c (hc' ▸ List.getElem_mem hmC)
  have ht:¬(topv (a::wl) (m+1)=a):=by
   unfold topv
   split
   ·rename_i hlt2
    simp only[List.getElem_cons_succ]
    have hm2:m<wl.length:=by simpa using hlt2
    have:=(hw2 _ (List.getElem_mem hm2)).2
    omega
   ·omega
  have htm:topv (a::wl) m=c:=by simp only[topv,hmC,dif_pos,hc']
  obtain⟨W,hW⟩:∃W,W=(s.stk++(a::wl).take m).map Int.ofNat:=⟨_,rfl⟩
  have hst:(s.stk++(a::wl).take (m+1)).map Int.ofNat=W++[(c:Int)]:=by
   rw[hW,List.take_add_one,List.getElem?_eq_getElem hmC,hc']
   simp
  have hWl:W.length=s.stk.length+m:=by
   rw[hW]
   simp at hml ⊢
   omega
  rw[hst] at H
  obtain⟨v',hv',H'⟩:=H.sw3.cut (n:=W.length) (esz:=1) (k:=.i64) (by simp)
  rw[List.take_left' rfl] at H'
  have hlen1:(W++[(c:Int)]).length=W.length+1:=by simp
  have hi1:IntKind.i64.wrap ((W.length:Int)+1-1)=W.length:=by rw[wrap64 (by omega) (by omega)]; omega
  have H':=H'.bk3
  simp -implicitDefEqProofs (disch:=first|omega|(simp only[LnZ];omega))[wrap64,ht,H.sw4.bxld0,H.sw3.rep.I,hlen1,hi1,hv']
  refine H'.sw4.bxst (u:=v') rfl rfl (by rw[H'.sw3.rep.cells]; rfl) (by rw[H'.sw3.rep.cells]; simp[H'.sw3.rep.one]) (by simp[H'.sw3.rep.cells]) fun h8 H=>?_
  have H:HS g [ow vn N,ow vl L,ow vq Q',ow v' W,bx bS [v'],bx bC [.int .i64 s1.cnt],bx bP [.int .i64 s1.prt]] h8:=by
   simpa[setC,H'.sw3.rep.cells] using H.bk4
  have hQb:=hT.inv.bnd a han
  simp -implicitDefEqProofs (disch:=first|omega|(simp only[LnZ];omega))[wrap64,F.on H,H.sw6.bxld0,H.sw2.rep.I]
  refine H.sw2.storeF s1.prt (i:=c) (by omega) rfl rfl ⟨by omega,by omega⟩ rfl fun h9 H=>?_
  have H:=H.bk2
  simp -implicitDefEqProofs (disch:=first|omega|(simp only[LnZ];omega))[wrap64]
  refine hJ2 m _ _ (by omega) ⟨by omega,by rw[htm],Q'.set c s1.prt,v',by simpa using hQl',?_,by rw[← hW]; exact H⟩
  rw[gd_set (by omega),hQ']
  funext x
  rw[List.drop_eq_getElem_cons hmC,hc']
  by_cases e:x=c
  ·subst e; simp
  ·simp only[fput_ne e,List.mem_cons,e,false_or]
end Go.Proofs.YtbanccfdojgocaaGreat

namespace Go.Proofs.YtbanccfdojgocaaGreat
open Go
theorem HS.only {g h:Heap}{Γ:List HP}{p:HP}(H:HS g (p::Γ) h):HS g [p] h:=by
 obtain⟨g',r,e,d,hp,H⟩:=H
 exact⟨g',r,e,d,hp,H.base⟩
structure NmI (n:Nat) (f:Nat→Int) (i:Nat) (l:List (Int×Int)) (Q:List Int):Prop where
 len:Q.length=n
 le:l.length≤i
 done:∀x,x<i→mlk l (f x)=some (gd Q x)
 rest:∀x,i≤x→x<n→gd Q x=f x
 bnd:∀a y,mlk l a=some y→0≤y∧y<l.length
 inj:∀a b y,mlk l a=some y→mlk l b=some y→a=b
theorem NmI.old {n:Nat}{f:Nat→Int}{i:Nat}{l:List (Int×Int)}{Q:List Int}{y:Int}(h:NmI n f i l Q) (hi:i<n) (hy:mlk l (f i)=some y):NmI n f (i+1) l (Q.set i y):=by
 have hl:=h.len
 refine⟨by simpa using hl,by have:=h.le; omega,?_,?_,h.bnd,h.inj⟩
 ·intro x hx
  rw[gd_set (by omega)]
  by_cases e:x=i
  ·subst e; simp[hy]
  ·rw[fput_ne e]; exact h.done x (by omega)
 ·intro x hx hxn
  rw[gd_set (by omega),fput_ne (by omega)]
  exact h.rest x (by omega) hxn
theorem NmI.new {n:Nat}{f:Nat→Int}{i:Nat}{l:List (Int×Int)}{Q:List Int}(h:NmI n f i l Q) (hi:i<n) (hy:mlk l (f i)=none):NmI n f (i+1) (l++[(f i,(l.length:Int))]) (Q.set i (l.length:Int))∧mlk (l++[(f i,(l.length:Int))]) (f i)=some (l.length:Int):=by
 have hl:=h.len
 have hs:=fun b=>mlk_snoc (y:=(l.length:Int)) (b:=b) hy
 refine⟨⟨by simpa using hl,by have:=h.le; simp; omega,?_,?_,?_,?_⟩,by rw[hs,if_pos rfl]⟩
 ·intro x hx
  rw[gd_set (by omega),hs]
  by_cases e:x=i
  ·subst e; simp
  ·rw[fput_ne e]
   have h1:=h.done x (by omega)
   rw[if_neg]
   ·exact h1
   ·intro e2; rw[← e2,hy] at h1; simp at h1
 ·intro x hx hxn
  rw[gd_set (by omega),fput_ne (by omega)]
  exact h.rest x (by omega) hxn
 ·intro a y ha
  rw[hs] at ha
  split at ha
  ·simp at ha; subst ha; simp; omega
  ·have:=h.bnd a y ha; simp; omega
 ·intro a b y ha hb
  rw[hs] at ha hb
  split at ha
  ·simp at ha
   split at hb
   ·rename_i e1 e2; rw[← e1,← e2]
   ·have:=h.bnd b y hb; omega
  ·split at hb
   ·simp at hb
    have:=h.bnd a y ha; omega
   ·exact h.inj a b y ha hb
theorem NmI.result {n:Nat}{f:Nat→Int}{l:List (Int×Int)}{Q:List Int}(h:NmI n f n l Q):(∀x,x<n→0≤gd Q x∧gd Q x<n)∧∀x y,x<n→y<n→(gd Q x=gd Q y↔f x=f y):=by
 refine⟨fun x hx=>?_,fun x y hx hy=>⟨fun e=>?_,fun e=>?_⟩⟩
 ·have:=h.bnd _ _ (h.done x hx)
  have:=h.le
  omega
 ·have h1:=h.done x hx
  have h2:=h.done y hy
  rw[e] at h1
  exact h.inj _ _ _ h1 h2
 ·have h1:=h.done x hx
  have h2:=h.done y hy
  rw[e,h2] at h1
  simpa using h1.symm
set_option maxHeartbeats 4000000 in
theorem c_components {h:Heap}{w:Value}{G:List (List Int)}{E:Nat→Nat→Prop}(Rw:Rep h w G) (hG:Adj E G) (hnl:G.length≤1048576) :
  CallE Tryz.prog fn_impl_components [w] h (fun u h'=>∃Q:List Int,HS h [ow u Q] h'∧Q.length=G.length∧(∀x,x<G.length→0≤gd Q x∧gd Q x<G.length)∧∀x y,x<G.length→y<G.length→(gd Q x=gd Q y↔Scc E x y)):=by
 refine CallE.gen fun k hk=>EN_impl_components rfl ?_
 simp -implicitDefEqProofs (disch:=first|omega|(simp only[LnZ];omega))[wrap64]
 refine HS.init.alloc rfl fun bG h1 H=>?_
 have H:HS h [bx bG [w]] h1:=by simpa[Rw.cells] using H
 simp -implicitDefEqProofs (disch:=first|omega|(simp only[LnZ];omega))[wrap64,H.bxld0,Rw.len]
 refine H.mks (α:=Int) (z:=0) rfl rfl (own_zero (by decide) (by decide)) (Nat.le_refl _) (by omega) (by omega) fun vn h2 H=>?_
 simp -implicitDefEqProofs (disch:=first|omega|(simp only[LnZ];omega))[wrap64]
 refine H.mks (α:=Int) (z:=0) rfl rfl (own_zero (by decide) (by decide)) (Nat.le_refl _) (by omega) (by omega) fun vl h3 H=>?_
 simp -implicitDefEqProofs (disch:=first|omega|(simp only[LnZ];omega))[wrap64]
 refine H.mks (α:=Int) (z:=0) rfl rfl (own_zero (by decide) (by decide)) (Nat.le_refl _) (by omega) (by omega) fun vq h4 H=>?_
 simp -implicitDefEqProofs (disch:=first|omega|(simp only[LnZ];omega))[wrap64]
 refine H.alloc rfl fun bN h5 H=>?_
 simp -implicitDefEqProofs (disch:=first|omega|(simp only[LnZ];omega))[wrap64]
 refine H.alloc rfl fun bL h6 H=>?_
 simp -implicitDefEqProofs (disch:=first|omega|(simp only[LnZ];omega))[wrap64]
 refine H.alloc rfl fun bQ h7 H=>?_
 simp -implicitDefEqProofs (disch:=first|omega|(simp only[LnZ];omega))[wrap64]
 have R0:=H.sw3.rep
 have R1:=H.sw4.rep
 have R2:=H.sw5.rep
 refine H.sw2.bxst (u:=vn) rfl rfl (by rw[R2.cells]; rfl) (by rw[R2.cells]; simp[R2.one]) (by simp[R2.cells]) fun h8 H=>?_
 simp -implicitDefEqProofs (disch:=first|omega|(simp only[LnZ];omega))[wrap64]
 refine H.sw2.bxst (u:=vl) rfl rfl (by rw[R1.cells]; rfl) (by rw[R1.cells]; simp[R1.one]) (by simp[R1.cells]) fun h9 H=>?_
 simp -implicitDefEqProofs (disch:=first|omega|(simp only[LnZ];omega))[wrap64]
 refine H.sw2.bxst (u:=vq) rfl rfl (by rw[R0.cells]; rfl) (by rw[R0.cells]; simp[R0.one]) (by simp[R0.cells]) fun h10 H=>?_
 have H:HS h [bx bQ [vq],bx bL [vl],bx bN [vn],ow vq (List.replicate G.length (0:Int)),ow vl (List.replicate G.length (0:Int)),ow vn (List.replicate G.length (0:Int)),bx bG [w]] h10:=by
  simpa[setC,R0.cells,R1.cells,R2.cells] using H
 have H:=H.sw3
 simp -implicitDefEqProofs (disch:=first|omega|(simp only[LnZ];omega))[wrap64,H.sw1.bxld0,H.rep.len]
 refine wp_count G.length (fun i e h'=>e=[none,some (.pointer (some ⟨bG,0,none⟩)),none,some (.int .i64 G.length),some (.pointer (some ⟨bN,0,none⟩)),some (.pointer (some ⟨bL,0,none⟩)),some (.pointer (some ⟨bQ,0,none⟩)),none,none,none,none,none,none,none,none,none,none,some (.int .i64 G.length),some (.int .i64 i),none,none,none,none,none] ∧
  ∃Q:List Int,HS h [ow vq Q,bx bQ [vq],bx bL [vl],bx bN [vn],ow vl (List.replicate G.length (0:Int)),ow vn (List.replicate G.length (0:Int)),bx bG [w]] h'∧Q.length=G.length∧∀x,x<i→gd Q x = -1) ⟨by simp,_,H,by simp,fun x hx=>absurd hx (Nat.not_lt_zero x)⟩ ?_
 clear H
 rintro J i _ h11 hJ hi ⟨rfl,Q,H,hQl,hQ⟩
 simp -implicitDefEqProofs (disch:=first|omega|(simp only[LnZ];omega))[wrap64]
 refine IteW.mk (fun hlt=>?_) (fun hge=>?_)
 ·have hin:i<G.length:=by omega
  simp -implicitDefEqProofs (disch:=first|omega|(simp only[LnZ];omega))[wrap64,H.sw1.bxld0,H.rep.I]
  refine H.storeF (-1) (i:=i) (by omega) rfl rfl ⟨by decide,by decide⟩ rfl fun h12 H=>?_
  simp -implicitDefEqProofs (disch:=first|omega|(simp only[LnZ];omega))[wrap64]
  refine hJ _ _ hin ⟨rfl,_,H,by simpa using hQl,fun x hx=>?_⟩
  rw[gd_set (by omega)]
  by_cases e:x=i
  ·subst e; simp
  ·rw[fput_ne e]; exact hQ x (by omega)
 have hin:i=G.length:=by omega
 subst hin
 simp -implicitDefEqProofs (disch:=first|omega|(simp only[LnZ];omega))[wrap64]
 refine H.alloc rfl fun bS h12 H=>?_
 simp -implicitDefEqProofs (disch:=first|omega|(simp only[LnZ];omega))[wrap64]
 refine H.alloc rfl fun bC h13 H=>?_
 simp -implicitDefEqProofs (disch:=first|omega|(simp only[LnZ];omega))[wrap64]
 refine H.alloc rfl fun bP h14 H=>?_
 simp -implicitDefEqProofs (disch:=first|omega|(simp only[LnZ];omega))[wrap64]
 refine H.sw1.bxst (u:=.int .i64 0) rfl rfl rfl rfl (by simp) fun h15 H=>?_
 simp -implicitDefEqProofs (disch:=first|omega|(simp only[LnZ];omega))[wrap64]
 refine H.sw1.bxst (u:=.int .i64 0) rfl rfl rfl rfl (by simp) fun h16 H=>?_
 simp -implicitDefEqProofs (disch:=first|omega|(simp only[LnZ];omega))[wrap64]
 refine H.alloc rfl fun bV h17 H=>?_
 simp -implicitDefEqProofs (disch:=first|omega|(simp only[LnZ];omega))[wrap64]
 obtain⟨fv,hfv⟩:∃fv,fv=Value.func (.func fn_impl_components_1) #[] #[.pointer (some ⟨bC,0,none⟩),.pointer (some ⟨bN,0,none⟩),.pointer (some ⟨bL,0,none⟩),.pointer (some ⟨bS,0,none⟩),.pointer (some ⟨bG,0,none⟩),.pointer (some ⟨bV,0,none⟩),.pointer (some ⟨bQ,0,none⟩),.pointer (some ⟨bP,0,none⟩)]:=⟨_,rfl⟩
 have hfn:fnOf fv=some (fn_impl_components_1,[],[.pointer (some ⟨bC,0,none⟩),.pointer (some ⟨bN,0,none⟩),.pointer (some ⟨bL,0,none⟩),.pointer (some ⟨bS,0,none⟩),.pointer (some ⟨bG,0,none⟩),.pointer (some ⟨bV,0,none⟩),.pointer (some ⟨bQ,0,none⟩),.pointer (some ⟨bP,0,none⟩)]):=by subst hfv; rfl
 have hfc:fv.cells = #[fv]:=by subst hfv; rfl
 have hf1:fv.oneCell'=true:=by subst hfv; rfl
 rw[← hfv]
 refine H.bxst (u:=fv) rfl rfl (by rw[hfc]; rfl) (by rw[hfc]; simp[hf1]) (by simp) fun h18 H=>?_
 have H:HS h [bx bV [fv],bx bP [.int .i64 0],bx bC [.int .i64 0],bx bS [.slice none 0 0],ow vq Q,bx bQ [vq],bx bL [vl],bx bN [vn],ow vl (List.replicate G.length (0:Int)),ow vn (List.replicate G.length (0:Int)),bx bG [w]] h18:=by
  simpa[setC,hfc] using H
 have H:=H.nil_ow (α:=Int)
 have H:=H.sw1.sw11.sw7.sw8.sw9.sw6.sw7.sw8.sw8.sw9.sw10.sw11
 obtain⟨g1,H0,H⟩:=HS.rebase (Δ:=[ow vn (List.replicate G.length (0:Int)),ow vl (List.replicate G.length (0:Int)),ow vq Q,ow (.slice none 0 0) ([]:List Int),bx bS [.slice none 0 0],bx bC [.int .i64 0],bx bP [.int .i64 0]]) (Γ:=[bx bN [vn],bx bL [vl],bx bQ [vq],bx bG [w],bx bV [fv]]) H
 have F:FB bN bL bQ bG bV vn vl vq w fv g1:=⟨H0.bxld0,H0.sw1.bxld0,H0.sw2.bxld0,H0.sw3.bxld0,H0.sw4.bxld0⟩
 have Rw1:=Rw.on H0
 have hg0:∀x,gd (List.replicate G.length (0:Int)) x=0:=by
  intro x
  simp only[gd,List.getD_eq_getElem?_getD,List.getElem?_replicate]
  split <;> rfl
 have hE:=hG.lt
 have hC0:∃s,CH g1 vn vl vq bS bC bP G.length s h18∧TI G.length E (fun _=>False) s∧∀x,x<0→s.num x≠0:=by
  refine⟨⟨gd (List.replicate G.length (0:Int)),gd (List.replicate G.length (0:Int)),gd Q,[],0,0⟩,⟨_,_,Q,.slice none 0 0,⟨by simp,by simp,hQl,rfl,rfl,rfl,?_⟩,H⟩,TI.start (fun x _=>hg0 x) (fun x hx=>hQ x hx) rfl rfl rfl,fun x hx=>absurd hx (Nat.not_lt_zero x)⟩
  have:=List.length_filter_le (fun x=>decide (x<G.length∧gd (List.replicate G.length (0:Int)) x=0)) (List.range G.length)
  simp only[List.length_range] at this
  show (0:Int)+((unv G.length (gd (List.replicate G.length (0:Int))):Nat):Int)≤_
  unfold unv
  omega
 simp -implicitDefEqProofs (disch:=first|omega|(simp only[LnZ];omega))[wrap64]
 refine wp_count G.length (fun i e h'=>e=[none,none,none,none,some (.pointer (some ⟨bN,0,none⟩)),none,some (.pointer (some ⟨bQ,0,none⟩)),none,none,none,none,some (.pointer (some ⟨bV,0,none⟩)),none,none,none,none,none,none,none,some (.int .i64 G.length),some (.int .i64 i),none,none,none] ∧
  ∃s,CH g1 vn vl vq bS bC bP G.length s h'∧TI G.length E (fun _=>False) s∧∀x,x<i→s.num x≠0) ⟨by simp,hC0⟩ ?_
 clear H hC0 hQ hQl hJ
 rintro J2 i _ h19 hJ2 hi2 ⟨rfl,s,⟨N,L,Q,vs,hl,H⟩,hI,hv⟩
 have hNl:=hl.hN
 simp -implicitDefEqProofs (disch:=first|omega|(simp only[LnZ];omega))[wrap64]
 refine IteW.mk (fun hlt2=>?_) (fun hge2=>?_)
 ·have hin:i<G.length:=by omega
  have hNi:s.num i=N[i]'(by omega):=by rw[hl.num,gd_get]
  by_cases h0:N[i]'(by omega)=0
  ·simp -implicitDefEqProofs (disch:=first|omega|(simp only[LnZ];omega))[wrap64,F.on H,H.rep.I,h0,hfn]
   refine (c_visit F Rw1 hG rfl hnl hfn _ (fun _=>False) s i _ rfl ⟨N,L,Q,vs,hl,H⟩ hI hin (by rw[hNi,h0]) (fun _ h=>h.elim) (fun _ h=>h.elim)).go ?_
   rintro u h20 ⟨s2,hC2,hV⟩
   simp -implicitDefEqProofs (disch:=first|omega|(simp only[LnZ];omega))[wrap64]
   refine hJ2 _ _ hin ⟨rfl,s2,hC2,hV.inv,fun x hx=>?_⟩
   by_cases e:x=i
   ·subst e; exact hV.vis
   ·have h1:=hv x (by omega)
    rw[(hV.num x (by omega) h1).1]; exact h1
  ·simp -implicitDefEqProofs (disch:=first|omega|(simp only[LnZ];omega))[wrap64,F.on H,H.rep.I,h0]
   refine hJ2 _ _ hin ⟨rfl,s,⟨N,L,Q,vs,hl,H⟩,hI,fun x hx=>?_⟩
   by_cases e:x=i
   ·subst e; rw[hNi]; exact h0
   ·exact hv x (by omega)
 have hin:i=G.length:=by omega
 subst hin
 obtain⟨hr1,hr2⟩:=hI.result hv
 have hQl:=hl.hQ
 have H:=H.sw2.only
 simp -implicitDefEqProofs (disch:=first|omega|(simp only[LnZ];omega))[wrap64]
 refine H.mkm (fun n:Int=>.int .i64 n) (fun n:Int=>.int .i64 n) fun bm h20 H=>?_
 have H:=H.sw1
 simp -implicitDefEqProofs (disch:=first|omega|(simp only[LnZ];omega))[wrap64,F.on H,H.rep.len]
 refine wp_count G.length (fun i e h'=>e=[none,none,none,none,none,none,some (.pointer (some ⟨bQ,0,none⟩)),none,none,none,none,none,none,some (.map (some bm)),none,none,none,none,none,none,none,some vq,some (.int .i64 G.length),some (.int .i64 i)] ∧
  ∃(l:List (Int×Int)) (Q:List Int),HS g1 [ow vq Q,mpo (fun n:Int=>.int .i64 n) (fun n:Int=>.int .i64 n) bm l] h'∧NmI G.length s.part i l Q) ⟨by simp[hQl],[],Q,H,hQl,by simp,fun x hx=>absurd hx (Nat.not_lt_zero x),fun x _ _=>by rw[hl.part],fun a y h=>by simp[mlk_nil] at h,fun a b y h=>by simp[mlk_nil] at h⟩ ?_
 clear H hQl hl
 rintro J3 i _ h21 hJ3 hi3 ⟨rfl,l,Q,H,hM⟩
 have hQl:=hM.len
 have hle:=hM.le
 simp -implicitDefEqProofs (disch:=first|omega|(simp only[LnZ];omega))[wrap64]
 refine IteW.mk (fun hlt3=>?_) (fun hge3=>?_)
 ·have hin:i<G.length:=by omega
  have hQi:Q[i]'(by omega)=s.part i:=by rw[← gd_get,hM.rest i (Nat.le_refl _) hin]
  simp -implicitDefEqProofs (disch:=first|omega|(simp only[LnZ];omega))[wrap64,H.rep.I,hQi]
  refine H.sw1.mget (a:=s.part i) rfl rfl keyEq_int ?_
  cases hlk:mlk l (s.part i) with
  | some y=>
   have hyb:=hM.bnd _ _ hlk
   simp -implicitDefEqProofs (disch:=first|omega|(simp only[LnZ];omega))[wrap64,F.on H]
   refine H.sw1.mget (a:=s.part i) rfl rfl keyEq_int ?_
   rw[hlk]
   simp -implicitDefEqProofs (disch:=first|omega|(simp only[LnZ];omega))[wrap64,F.on H,H.rep.I]
   refine H.storeF y (i:=i) (by omega) rfl rfl ⟨by omega,by omega⟩ rfl fun h22 H=>?_
   simp -implicitDefEqProofs (disch:=first|omega|(simp only[LnZ];omega))[wrap64]
   exact hJ3 _ _ hin ⟨rfl,l,_,H,hM.old hin hlk⟩
  | none=>
   obtain⟨hn1,hn2⟩:=hM.new hin hlk
   simp -implicitDefEqProofs (disch:=first|omega|(simp only[LnZ];omega))[wrap64]
   refine H.sw1.mlen rfl ?_
   simp -implicitDefEqProofs (disch:=first|omega|(simp only[LnZ];omega))[wrap64]
   refine H.sw1.mput (a:=s.part i) (v:=(l.length:Int)) rfl rfl rfl keyEq_int hlk fun h22 H=>?_
   simp -implicitDefEqProofs (disch:=first|omega|(simp only[LnZ];omega))[wrap64,F.on H]
   refine H.mget (a:=s.part i) rfl rfl keyEq_int ?_
   rw[hn2]
   have H:=H.sw1
   simp -implicitDefEqProofs (disch:=first|omega|(simp only[LnZ];omega))[wrap64,F.on H,H.rep.I]
   refine H.storeF (l.length:Int) (i:=i) (by omega) rfl rfl ⟨by omega,by omega⟩ rfl fun h23 H=>?_
   simp -implicitDefEqProofs (disch:=first|omega|(simp only[LnZ];omega))[wrap64]
   exact hJ3 _ _ hin ⟨rfl,_,_,H,hn1⟩
 have hin:i=G.length:=by omega
 subst hin
 simp -implicitDefEqProofs (disch:=first|omega|(simp only[LnZ];omega))[wrap64,F.on H]
 obtain⟨hb,hc⟩:=hM.result
 have Hf:=(H.app H0).only
 exact RetK.keep (hk _ _ ⟨Q,Hf,hQl,hb,fun x y hx hy=>by rw[hc x y hx hy,hr2 x y hx hy]⟩)
end Go.Proofs.YtbanccfdojgocaaGreat

namespace Go.Proofs.YtbanccfdojgocaaGreat
open Go
def cntP (Q:List Int) (i:Nat) (p:Int):Nat:=((List.range i).filter fun y=>decide (gd Q y=p)).length
theorem cntP_succ {Q:List Int}{i:Nat}{p:Int}:cntP Q (i+1) p=cntP Q i p+if gd Q i=p then 1 else 0:=by
 simp only[cntP,List.range_succ,List.filter_append,List.length_append,List.filter_cons,List.filter_nil]
 by_cases h:gd Q i=p <;> simp[h]
theorem cntP_le {Q:List Int}{i:Nat}{p:Int}:cntP Q i p≤i:=by
 have:=List.length_filter_le (fun y=>decide (gd Q y=p)) (List.range i)
 simpa[cntP] using this
theorem c_cyclic {h:Heap}{w:Value}{G:List (List Int)}{E:Nat→Nat→Prop}(Rw:Rep h w G) (hG:Adj E G) (hnl:G.length≤1048576) :
  CallE Tryz.prog fn_impl_cyclic [w] h (fun u h'=>∃C:List Bool,HS h [ow u C] h'∧C.length=G.length∧∀x,x<G.length→(tru C x↔Cyc E x)):=by
 refine CallE.gen fun k hk=>EN_impl_cyclic rfl ?_
 simp -implicitDefEqProofs (disch:=first|omega|(simp only[LnZ];omega))[wrap64]
 refine (c_components Rw hG hnl).go ?_
 rintro p h1 ⟨Q,H,hQl,hQb,hQ⟩
 simp -implicitDefEqProofs (disch:=first|omega|(simp only[LnZ];omega))[wrap64,(Rw.on H).len]
 refine H.mks (α:=Int) (z:=0) rfl rfl (own_zero (by decide) (by decide)) (Nat.le_refl _) (by omega) (by omega) fun z h2 H=>?_
 simp -implicitDefEqProofs (disch:=first|omega|(simp only[LnZ];omega))[wrap64,H.sw1.rep.len]
 refine wp_count G.length (fun i e h'=>e=[some w,none,some p,some z,none,none,none,some p,some (.int .i64 G.length),some (.int .i64 i),none,none]∧∃Z:List Int,HS h [ow z Z,ow p Q] h'∧Z.length=G.length∧∀x,x<G.length→gd Z x=cntP Q i x) ⟨by simp[hQl],_,H,by simp,fun x hx=>by rw[gd_get (by simpa using hx)]; simp[cntP]⟩ ?_
 clear H
 rintro J i _ h3 hJ hi ⟨rfl,Z,H,hZl,hZ⟩
 simp -implicitDefEqProofs (disch:=first|omega|(simp only[LnZ];omega))[wrap64]
 refine IteW.mk (fun hlt=>?_) (fun hge=>?_)
 ·have hin:i<G.length:=by omega
  have hq:=hQb i hin
  obtain⟨q,hqi⟩:∃q:Nat,Q[i]'(by omega)=q:=⟨(Q[i]'(by omega)).toNat,by rw[← gd_get]; omega⟩
  have hqn:q<G.length:=by rw[gd_get (by omega),hqi] at hq; omega
  have hzq:Z[q]'(by omega)=cntP Q i q:=by rw[← gd_get,hZ q hqn]
  have hcl:=cntP_le (Q:=Q) (i:=i) (p:=q)
  simp -implicitDefEqProofs (disch:=first|omega|(simp only[LnZ];omega))[wrap64,H.sw1.rep.I,hqi,H.rep.I,hzq]
  refine H.storeF ((cntP Q i q:Int)+1) (i:=q) (by omega) rfl rfl ⟨by omega,by omega⟩ rfl fun h4 H=>?_
  simp -implicitDefEqProofs (disch:=first|omega|(simp only[LnZ];omega))[wrap64]
  refine hJ _ _ hin ⟨rfl,_,H,by simpa using hZl,fun x hx=>?_⟩
  rw[gd_set (by omega),cntP_succ,gd_get (by omega),hqi]
  by_cases e:x=q
  ·subst e; simp
  ·rw[fput_ne e,hZ x hx,if_neg (by omega)]; simp
 have hin:i=G.length:=by omega
 subst hin
 simp -implicitDefEqProofs (disch:=first|omega|(simp only[LnZ];omega))[wrap64,(Rw.on H).len]
 refine H.mks (α:=Bool) (z:=false) rfl rfl own_false (Nat.le_refl _) (by omega) (by omega) fun c h4 H=>?_
 simp -implicitDefEqProofs (disch:=first|omega|(simp only[LnZ];omega))[wrap64,(Rw.on H).len]
 refine wp_count G.length (fun i e h'=>e=[some w,none,some p,some z,none,some c,none,none,none,none,some (.int .i64 G.length),some (.int .i64 i)]∧∃C:List Bool,HS h [ow c C,ow z Z,ow p Q] h'∧C.length=G.length∧∀x,x<i→(tru C x↔Cyc E x)) ⟨by simp,_,H,by simp,fun x hx=>absurd hx (Nat.not_lt_zero x)⟩ ?_
 clear H hJ
 rintro J i _ h5 hJ hi ⟨rfl,C,H,hCl,hC⟩
 simp -implicitDefEqProofs (disch:=first|omega|(simp only[LnZ];omega))[wrap64]
 refine IteW.mk (fun hlt2=>?_) (fun hge2=>?_)
 ·have hin:i<G.length:=by omega
  have hq:=hQb i hin
  obtain⟨q,hqi⟩:∃q:Nat,Q[i]'(by omega)=q:=⟨(Q[i]'(by omega)).toNat,by rw[← gd_get]; omega⟩
  have hqn:q<G.length:=by rw[gd_get (by omega),hqi] at hq; omega
  have hzq:Z[q]'(by omega)=cntP Q G.length q:=by rw[← gd_get,hZ q hqn]
  have hpc:=part_cycle hQ hG.lt hin
  have hcnt:((List.range G.length).filter fun y=>decide (gd Q y=gd Q i)).length=cntP Q G.length q:=by
   rw[gd_get (by omega),hqi]; rfl
  rw[hcnt] at hpc
  have hstep:∀b:Bool,(b=true↔Cyc E i)→∀x,x<i+1→(tru (C.set i b) x↔Cyc E x):=by
   intro b hb x hx
   have h1:tru (C.set i b) x↔if x=i then b=true else tru C x:=by
    simp only[tru,List.getD_eq_getElem?_getD,List.getElem?_set]
    by_cases e:i=x
    ·subst e; simp[show i<C.length by omega]
    ·simp[e,Ne.symm e]
   rw[h1]
   split
   ·rename_i e; subst e; exact hb
   ·exact hC x (by omega)
  by_cases h1:(1:Int)<cntP Q G.length q
  ·simp -implicitDefEqProofs (disch:=first|omega|(simp only[LnZ];omega))[wrap64,H.sw2.rep.I,hqi,H.sw1.rep.I,hzq,h1,H.rep.B]
   refine H.storeF true (i:=i) (by omega) rfl rfl trivial rfl fun h6 H=>?_
   simp -implicitDefEqProofs (disch:=first|omega|(simp only[LnZ];omega))[wrap64]
   exact hJ _ _ hin ⟨rfl,_,H,by simpa using hCl,hstep true (by rw[hpc]; simp; omega)⟩
  ·obtain⟨u,hu0,Ru⟩:=Rw.ldL hin
   simp -implicitDefEqProofs (disch:=first|omega|(simp only[LnZ];omega))[wrap64,H.sw2.rep.I,hqi,H.sw1.rep.I,hzq,h1,H.rep.B,(Rw.on H).X (n:=1) rfl,hload_le H.base hu0]
   refine (c_Contains_int (Ru.on H)).go ?_
   rintro _ _ ⟨rfl,rfl⟩
   simp -implicitDefEqProofs (disch:=first|omega|(simp only[LnZ];omega))[wrap64,H.rep.B]
   refine H.storeF (decide ((i:Int)∈G[i])) (i:=i) (by omega) rfl rfl trivial rfl fun h6 H=>?_
   simp -implicitDefEqProofs (disch:=first|omega|(simp only[LnZ];omega))[wrap64]
   refine hJ _ _ hin ⟨rfl,_,H,by simpa using hCl,hstep _ ?_⟩
   rw[hpc,decide_eq_true_iff,hG.mem i hin]
   constructor
   ·rintro⟨y,h2,h3⟩
    obtain rfl:i=y:=by omega
    exact .inr h3
   ·rintro (h2 | h2)
    ·omega
    ·exact⟨i,rfl,h2⟩
 have hin:i=G.length:=by omega
 subst hin
 simp -implicitDefEqProofs (disch:=first|omega|(simp only[LnZ];omega))[wrap64]
 exact RetK.keep (hk _ _ ⟨C,H.only,hCl,hC⟩)
theorem c_live {h:Heap}{v:Value}{a:Aut}(Ra:Rep h v a) (ha:a.Ok):CallE Tryz.prog fn_impl_Automaton_live [v] h (fun u h'=>∃L:List Bool,HS h [ow u L] h'∧L.length=a.acc.length∧∀q,tru L q↔q<a.acc.length∧a.Live q):=by
 obtain⟨v1,v2,v3,rfl,R1,R2,R3⟩:=Rep_Aut.1 Ra
 have hn:=ha.n
 refine CallE.gen fun k hk=>EN_impl_Automaton_live rfl ?_
 simp -implicitDefEqProofs (disch:=first|omega|(simp only[LnZ];omega))[wrap64]
 refine (c_next Ra ha).go ?_
 rintro w h1 ⟨G,H,hG,hGl⟩
 simp -implicitDefEqProofs (disch:=first|omega|(simp only[LnZ];omega))[wrap64]
 refine (c_cyclic H.rep hG (by omega)).go ?_
 rintro c h2 ⟨C,H2,hCl,hC⟩
 have H:=H2.app H
 simp -implicitDefEqProofs (disch:=first|omega|(simp only[LnZ];omega))[wrap64,H.sw1.rep.len]
 refine H.mks (α:=Bool) (z:=false) rfl rfl own_false (Nat.le_refl _) (by omega) (by omega) fun o h3 H=>?_
 simp -implicitDefEqProofs (disch:=first|omega|(simp only[LnZ];omega))[wrap64,H.sw2.rep.len]
 refine wp_count G.length (fun i e h'=>e=[none,some (.agg #[v1,v2,v3]),none,some w,some c,some o,none,none,none,some (.int .i64 G.length),some (.int .i64 i),none,none,none]∧∃L:List Bool,HS h [ow o L,ow c C,ow w G] h'∧L.length=G.length∧∀q,tru L q↔q<i∧a.Live q) ⟨by simp,_,H,by simp,fun q=>by simp[tru_replicate]⟩ ?_
 clear H
 rintro J i _ h4 hJ hi ⟨rfl,L,H,hLl,hL⟩
 simp -implicitDefEqProofs (disch:=first|omega|(simp only[LnZ];omega))[wrap64]
 refine IteW.mk (fun hlt=>?_) (fun hge=>?_)
 ·have hin:i<G.length:=by omega
  simp -implicitDefEqProofs (disch:=first|omega|(simp only[LnZ];omega))[wrap64]
  refine H.bls (α:=Int) [(i:Int)] (by rfl) rfl (ok_one (by omega)) (by decide) fun s h4 H=>?_
  simp -implicitDefEqProofs (disch:=first|omega|(simp only[LnZ];omega))[wrap64]
  have hS1:∀z∈[(i:Int)],0≤z∧z<(G.length:Int):=by
   intro z hz
   have hxi:z=i:=by simpa using hz
   omega
  refine (c_reachable (S:=[(i:Int)]) H.sw3.rep H.rep hG hS1 (by simp) (by omega)).go ?_
  rintro r h5 ⟨B,H5,hBl,hB⟩
  have H:=H5.app H.drop
  simp -implicitDefEqProofs (disch:=first|omega|(simp only[LnZ];omega))[wrap64,H.rep.len]
  refine wp_count G.length (fun k e h'=>e=[none,some (.agg #[v1,v2,v3]),none,some w,some c,some o,some (.int .i64 i),none,none,some (.int .i64 G.length),some (.int .i64 i),some r,some (.int .i64 G.length),some (.int .i64 k)]∧∃(L':List Bool),HS h [ow r B,ow o L',ow c C,ow w G] h'∧L'.length=G.length∧(∀q,q≠i→(tru L' q↔q<i∧a.Live q))∧(tru L' i↔∃t,t<k∧tru B t∧tru C t∧tru a.acc t)) ⟨by simp[hBl],L,H,hLl,fun q _=>hL q,by rw[hL]; simp⟩ ?_
  rintro J2 k _ h6 hJ2 hk2 ⟨rfl,L',H,hLl',hL1,hL2⟩
  simp -implicitDefEqProofs (disch:=first|omega|(simp only[LnZ];omega))[wrap64]
  refine IteW.mk (fun hlt2=>?_) (fun hge2=>?_)
  ·have hkn:k<G.length:=by omega
   have H:=H.sw1
   have hold:tru L' i↔L'[i]'(by omega)=true:=tru_get (by omega)
   have hstep:∀b:Bool,(b=true↔tru L' i∨(tru B k∧tru C k∧tru a.acc k))→(∀q,q≠i→(tru (L'.set i b) q↔q<i∧a.Live q))∧(tru (L'.set i b) i↔∃t,t<k+1∧tru B t∧tru C t∧tru a.acc t):=by
    intro b hb
    have h1:∀x,tru (L'.set i b) x↔if x=i then b=true else tru L' x:=by
     intro x
     simp only[tru,List.getD_eq_getElem?_getD,List.getElem?_set]
     by_cases e:i=x
     ·subst e; simp[show i<L'.length by omega]
     ·simp[e,Ne.symm e]
    refine⟨fun q hq=>by rw[h1,if_neg hq]; exact hL1 q hq,?_⟩
    rw[h1,if_pos rfl,hb,hL2]
    constructor
    ·rintro (⟨t,h2,h3⟩ | h3)
     ·exact⟨t,by omega,h3⟩
     ·exact⟨k,by omega,h3⟩
    ·rintro⟨t,h2,h3⟩
     by_cases e:t=k
     ·subst e; exact .inr h3
     ·exact .inl ⟨t,by omega,h3⟩
   have hgB:=tru_get (B:=B) (i:=k) (by omega)
   have hgC:=tru_get (B:=C) (i:=k) (by omega)
   have hgA:=tru_get (B:=a.acc) (i:=k) (by omega)
   have hfin:∀b:Bool,(b=true↔tru L' i∨(tru B k∧tru C k∧tru a.acc k))→∀h8,HS h [ow o (L'.set i b),ow r B,ow c C,ow w G] h8→J2 [none,some (.agg #[v1,v2,v3]),none,some w,some c,some o,some (.int .i64 i),none,none,some (.int .i64 G.length),some (.int .i64 i),some r,some (.int .i64 G.length),some (.int .i64 ((k+1:Nat):Int))] h8:=
    fun b hb h8 H=>hJ2 _ _ hkn ⟨rfl,_,H.sw1,by simpa using hLl',hstep b hb⟩
   by_cases e0:L'[i]'(by omega)=true
   ·simp -implicitDefEqProofs (disch:=first|omega|(simp only[LnZ];omega))[wrap64,H.sw1.rep.B,H.rep.B,e0]
    refine H.storeF true (i:=i) (by omega) rfl rfl trivial rfl fun h7 H=>?_
    simp -implicitDefEqProofs (disch:=first|omega|(simp only[LnZ];omega))[wrap64]
    exact hfin true (by simp[hold,e0]) _ H
   by_cases e1:B[k]'(by omega)=true
   case neg=>
    simp -implicitDefEqProofs (disch:=first|omega|(simp only[LnZ];omega))[wrap64,H.sw1.rep.B,H.rep.B,e0,e1]
    refine H.storeF false (i:=i) (by omega) rfl rfl trivial rfl fun h7 H=>?_
    simp -implicitDefEqProofs (disch:=first|omega|(simp only[LnZ];omega))[wrap64]
    exact hfin false (by simp[hold,e0,hgB,e1]) _ H
   by_cases e2:C[k]'(by omega)=true
   case neg=>
    simp -implicitDefEqProofs (disch:=first|omega|(simp only[LnZ];omega))[wrap64,H.sw1.rep.B,H.sw2.rep.B,H.rep.B,e0,e1,e2]
    refine H.storeF false (i:=i) (by omega) rfl rfl trivial rfl fun h7 H=>?_
    simp -implicitDefEqProofs (disch:=first|omega|(simp only[LnZ];omega))[wrap64]
    exact hfin false (by simp[hold,e0,hgC,e2]) _ H
   by_cases e3:a.acc[k]'(by omega)=true
   ·simp -implicitDefEqProofs (disch:=first|omega|(simp only[LnZ];omega))[wrap64,H.sw1.rep.B,H.sw2.rep.B,H.rep.B,(R2.on H).B,e0,e1,e2,e3]
    refine H.storeF true (i:=i) (by omega) rfl rfl trivial rfl fun h7 H=>?_
    simp -implicitDefEqProofs (disch:=first|omega|(simp only[LnZ];omega))[wrap64]
    exact hfin true (by simp[hgB,hgC,hgA,e1,e2,e3]) _ H
   ·simp -implicitDefEqProofs (disch:=first|omega|(simp only[LnZ];omega))[wrap64,H.sw1.rep.B,H.sw2.rep.B,H.rep.B,(R2.on H).B,e0,e1,e2,e3]
    refine H.storeF false (i:=i) (by omega) rfl rfl trivial rfl fun h7 H=>?_
    simp -implicitDefEqProofs (disch:=first|omega|(simp only[LnZ];omega))[wrap64]
    exact hfin false (by simp[hold,e0,hgA,e3]) _ H
  ·simp -implicitDefEqProofs (disch:=first|omega|(simp only[LnZ];omega))[wrap64]
   refine hJ _ _ hin ⟨rfl,L',H.drop,hLl',fun q=>?_⟩
   by_cases e:q=i
   ·subst e
    rw[hL2]
    constructor
    ·rintro⟨t,h1,h2,h3,h4⟩
     obtain⟨z,h5,h6⟩:=(hB t).1 h2
     obtain rfl:z=q:=by simpa[Int.ofNat_inj] using h5
     exact⟨by omega,t,h6,(hC t (by rw[← hBl]; exact tru_lt h2)).1 h3,h4⟩
    ·rintro⟨_,t,h1,h2,h3⟩
     have htn:t<G.length:=by rw[hGl]; exact tru_lt h3
     exact⟨t,by omega,(hB t).2 ⟨q,by simp,h1⟩,(hC t htn).2 h2,h3⟩
   ·rw[hL1 q e]
    constructor
    ·rintro⟨h1,h2⟩; exact⟨by omega,h2⟩
    ·rintro⟨h1,h2⟩; exact⟨by omega,h2⟩
 have hin:i=G.length:=by omega
 subst hin
 simp -implicitDefEqProofs (disch:=first|omega|(simp only[LnZ];omega))[wrap64]
 exact RetK.keep (hk _ _ ⟨L,H.only,by omega,by rw[← hGl]; exact hL⟩)
end Go.Proofs.YtbanccfdojgocaaGreat

namespace Go.Proofs.YtbanccfdojgocaaGreat
open Go
namespace Bf
end Bf
end Go.Proofs.YtbanccfdojgocaaGreat

namespace Go.Proofs.YtbanccfdojgocaaGreat
open Go
namespace Bf
section
variable {S:List Int}{D:Int→Int→Prop}
theorem Pth.last {x:Int}{l:List Int}(h:Pth S D x l):∃l0,l=l0++[x]:=by
 cases h with
 | one h=>exact⟨[],rfl⟩
 | snoc h e=>exact⟨_,rfl⟩
theorem Pth.head {x:Int}{l:List Int}(h:Pth S D x l):∃s∈S,∃t,l=s::t:=by
 induction h with
 | one h=>exact⟨_,h,[],rfl⟩
 | snoc h e ih=>
  obtain⟨s,hs,t,rfl⟩:=ih
  exact⟨s,hs,t++[_],rfl⟩
def Joined (D:Int→Int→Prop):List Int→Prop
 | x::y::l=>D x y∧Joined D (y::l)
 | _=>True
theorem Joined.snoc {x y:Int}:∀{l:List Int},Joined D (l++[x])→D x y→Joined D (l++[x]++[y])
 | [],_,h=>⟨h,trivial⟩
 | [z],h,h'=>⟨h.1,h',trivial⟩
 | z::z2::l,h,h'=>⟨h.1,Joined.snoc (l:=z2::l) h.2 h'⟩
theorem Pth.joined {x:Int}{l:List Int}(h:Pth S D x l):Joined D l:=by
 induction h with
 | one h=>trivial
 | snoc h e ih=>
  obtain⟨l0,rfl⟩:=h.last
  exact ih.snoc e
theorem Joined.at {D:Int→Int→Prop}:∀{l:List Int},Joined D l→∀(i:Nat) (hi:i+1<l.length),D l[i] l[i+1]
 | [],_,i,hi=>absurd hi (by simp)
 | [x],_,i,hi=>absurd hi (by simp)
 | x::y::l,h,0,_=>h.1
 | x::y::l,h,i+1,hi=>Joined.at (l:=y::l) h.2 i (by simpa using hi)
end
noncomputable def hitL (G:List (List Int)) (S:List Int) (g:Int→Bool):List Int:=match (fin G S).2.find? g with
 | some t=>path G S t
 | none=>[]
def back (G:List (List Int)) (t:Int):Int→Bool:=fun m=>decide (m≠t)&&decide (t∈G.getD m.toNat [])
noncomputable def arn (G:List (List Int)) (t:Int):List Int:=if t∈G.getD t.toNat [] then [t] else hitL G [t] (back G t)
theorem Rch.last {E:Nat→Nat→Prop}{x y z:Nat}(h:E x y) (k:Rch E y z):∃m,Rch E x m∧E m z:=by
 induction k generalizing x with
 | refl=>exact⟨x,.refl _,h⟩
 | step e _ ih=>
  obtain⟨m,h1,h2⟩:=ih e
  exact⟨m,.step h h1,h2⟩
theorem incr_one {n:Int}{t:Int}(h0:0≤t) (h1:t<n):incr n (-1) [t]:=⟨by omega,h1,trivial⟩
theorem arn_ok {G:List (List Int)}(hn:NOk G) {E:Nat→Nat→Prop}(hE:∀x y:Nat,E x y↔x<G.length∧(y:Int)∈G.getD x []) {t:Nat}(ht:t<G.length) (hc:Cyc E t) :
  ∃m:Int,Pth [(t:Int)] (Ed G) m (arn G t)∧Ed G m t∧(arn G t).length≤G.length:=by
 unfold arn
 by_cases hs:(t:Int)∈G.getD (t:Int).toNat []
 ·rw[if_pos hs]
  exact⟨t,.one (by simp),⟨by omega,by omega,hs⟩,by simp; omega⟩
 ·rw[if_neg hs]
  have hS:incr G.length (-1) [(t:Int)]:=incr_one (by omega) (by omega)
  obtain⟨y,h1,h2⟩:=hc
  obtain⟨m,h3,h4⟩:=Rch.last h1 h2
  have hm:(m:Int)∈(fin G [(t:Int)]).2:=(fin_mem hn hS hE).2 ⟨t,by simp,h3⟩
  have hmE:=(hE m t).1 h4
  have hb:back G t m=true:=by
   unfold back
   simp only[Int.toNat_natCast,Bool.and_eq_true,decide_eq_true_eq]
   refine⟨fun e=>hs ?_,hmE.2⟩
   have:m=t:=by omega
   subst this
   rw[Int.toNat_natCast]
   exact hmE.2
  cases hf:(fin G [(t:Int)]).2.find? (back G t) with
  | none=>
   rw[List.find?_eq_none] at hf
   exact absurd hb (by simpa using hf m hm)
  | some q=>
   have hq:=List.mem_of_find?_eq_some hf
   have hqb:=List.find?_some hf
   have hp:=path_ok hn hS hq
   have hin:=(sN_inv hn hS G.length).1.inq q hq
   unfold back at hqb
   simp only[Bool.and_eq_true,decide_eq_true_eq] at hqb
   refine⟨q,?_,⟨hin.1,hin.2.1,hqb.2⟩,?_⟩
   ·unfold hitL; rw[hf]; exact hp.2.2
   ·unfold hitL; rw[hf]; exact hp.2.1
noncomputable def gA (a:Aut):Int→Bool:=fun t=>a.acc.getD t.toNat false && @decide (Cyc a.E t.toNat) (Classical.propDecidable _)
theorem gA_iff {a:Aut}{t:Int}:gA a t=true↔tru a.acc t.toNat∧Cyc a.E t.toNat:=by simp[gA,tru]
noncomputable def fw (a:Aut):Option Las:=match (fin (nx a) a.init).2.find? (gA a) with
 | some t=>some ⟨vals a (path (nx a) a.init t),vals a (arn (nx a) t++[t])⟩
 | none=>none
section
variable {a:Aut}
theorem LP_of (ha:a.Ok) {S:List Int}{x:Int}{l:List Int}(h:Pth S (Ed (nx a)) x l) (hS:∀s∈S,0≤s):∃s∈S,0≤x∧LP a.edges s.toNat (vals a l) x.toNat∧∀y∈vals a l,0≤y∧y≤7:=by
 induction h with
 | one h=>exact⟨_,h,hS _ h,.nil _,by simp[vals]⟩
 | snoc h e ih=>
  rename_i x y l
  obtain⟨s,hs,h0,h1,h2⟩:=ih
  obtain⟨l0,rfl⟩:=h.last
  rw[vals_snoc]
  obtain⟨f,hf,k1,k2,k3,k4,k5,k6⟩:=ev_ok ha ((nx_Ed ha).1 e)
  obtain⟨p,q,m1,m2,_,_⟩:=ha.tr hf
  refine⟨s,hs,by omega,h1.append (.cons ⟨f,hf,by omega,by omega,k4⟩ (.nil _)),fun z hz=>?_⟩
  rcases List.mem_append.1 hz with hz | hz
  ·exact h2 z hz
  ·obtain rfl:z=ev a x y:=by simpa using hz
   exact⟨k5,k6⟩
theorem fw_some (ha:a.Ok) {l:Las}(h:fw a=some l):(∃(s x:Nat),(s:Int)∈a.init∧LP a.edges s l.stem x∧LP a.edges x l.loop x∧tru a.acc x)∧(∀y∈l.stem,0≤y∧y≤7)∧(∀y∈l.loop,0≤y∧y≤7)∧l.stem.length≤63∧1≤l.loop.length∧l.loop.length≤64:=by
 have hn:=nx_ok ha
 have hlen:=nx_len (a:=a)
 have hS:incr (nx a).length (-1) a.init:=by rw[hlen]; exact ha.i
 have h64:=ha.n.2
 unfold fw at h
 split at h
 ·rename_i t hf
  simp only[Option.some.injEq] at h
  subst h
  have ht:=List.mem_of_find?_eq_some hf
  have htg:=gA_iff.1 (List.find?_some hf)
  have hp:=path_ok hn hS ht
  have hin:=(sN_inv hn hS (nx a).length).1.inq t ht
  obtain⟨q,rfl⟩:∃q:Nat,t=q:=⟨t.toNat,by omega⟩
  rw[Int.toNat_natCast] at htg
  obtain⟨m,c1,c2,c3⟩:=arn_ok hn (nx_E ha) (t:=q) (by omega) htg.2
  have c4:=c1.snoc c2
  obtain⟨s,hs,_,p1,p2⟩:=LP_of ha hp.2.2 (fun s hs=>by have:=incr_mem ha.i s hs; omega)
  obtain⟨s',hs',_,p3,p4⟩:=LP_of ha c4 (fun s hs=>by have:s=q:=by simpa using hs
                                                    omega)
  obtain rfl:s'=q:=by simpa using hs'
  rw[Int.toNat_natCast] at p1 p3
  have hs0:=incr_mem ha.i s hs
  have l1:=vals_len (a:=a) (l:=path (nx a) a.init q)
  have l2:=vals_len (a:=a) (l:=arn (nx a) q++[(q:Int)])
  have hne:1≤(arn (nx a) q).length:=by
   obtain⟨_,_,t,e⟩:=c1.head
   rw[e]; simp
  rw[List.length_append,List.length_singleton] at l2
  have l3:=hp.2.1
  refine⟨⟨s.toNat,q,by rw[Int.toNat_of_nonneg (by omega)]; exact hs,p1,p3,htg.1⟩,p2,p4,?_,?_,?_⟩
  ·simp only; omega
  ·simp only; omega
  ·simp only; omega
 ·simp at h
theorem fw_none (ha:a.Ok) (h:fw a=none) {s:Nat}(hs:(s:Int)∈a.init):¬a.Live s:=by
 have hn:=nx_ok ha
 have hS:incr (nx a).length (-1) a.init:=by rw[nx_len]; exact ha.i
 unfold fw at h
 split at h
 ·simp at h
 ·rename_i hf
  rintro⟨t,h1,h2,h3⟩
  rw[List.find?_eq_none] at hf
  have hm:(t:Int)∈(fin (nx a) a.init).2:=(fin_mem hn hS (nx_E ha)).2 ⟨s,hs,h1⟩
  exact hf t hm (gA_iff.2 ⟨by rw[Int.toNat_natCast]; exact h3,by rw[Int.toNat_natCast]; exact h2⟩)
end
end Bf
end Go.Proofs.YtbanccfdojgocaaGreat

namespace Go.Proofs.YtbanccfdojgocaaGreat
open Go
end Go.Proofs.YtbanccfdojgocaaGreat

namespace Go.Proofs.YtbanccfdojgocaaGreat
open Go
def H_impl_letters:Hint:=⟨[(0,false),(2,false)],[]⟩
def K124_1:Pl:=.x 4 (.un .not (.v 3)) <|
 .m 1 4 .done
@[simp] def W124_1 := Pl.w K124_1.eq_1
def K124_2:C:=.seq (.pl <| .e 2 3 <|
 .m 2 0 <|
 .c 3 (.call fn_slices_ContainsFunc_S_int_int [.v 2,.c (.func (.func 178) #[] #[])]) K124_1) (.ret)
@[simp] def W124_2 := C.w K124_2.eq_1
def B_impl_letters:C:=.seq (.pl <| .e 2 0 <|
 .x 1 (.mv (.c (.bool false))) .done) K124_2
@[simp] def WB_impl_letters := C.w B_impl_letters.eq_1
def R_impl_letters:FIR:=⟨B_impl_letters,2,[(1,none)]⟩
theorem IR_impl_letters:cfun Tryz.prog H_impl_letters Tryz.f124=some R_impl_letters:=by kernel_rfl
theorem EN_impl_letters:ENT Tryz.prog B_impl_letters [(1,none)] 1 2 fn_impl_letters:=fun hargs hw=>enter Tryz.func124 rfl IR_impl_letters hargs hw
def H_impl_letters_1:Hint:=⟨[(0,false),(2,false)],[]⟩
def K178_1:Pl:=.x 4 (.un .not (.v 3)) <|
 .m 1 4 .done
@[simp] def W178_1 := Pl.w K178_1.eq_1
def K178_2:C:=.seq (.pl <| .e 2 3 <|
 .m 2 0 <|
 .c 3 (.call fn_impl_in [.v 2,.c (.int .i64 0),.c (.int .i64 7)]) K178_1) (.ret)
@[simp] def W178_2 := C.w K178_2.eq_1
def B_impl_letters_1:C:=.seq (.pl <| .e 2 0 <|
 .x 1 (.mv (.c (.bool false))) .done) K178_2
@[simp] def WB_impl_letters_1 := C.w B_impl_letters_1.eq_1
def R_impl_letters_1:FIR:=⟨B_impl_letters_1,2,[(1,none)]⟩
theorem IR_impl_letters_1:cfun Tryz.prog H_impl_letters_1 Tryz.f178=some R_impl_letters_1:=by kernel_rfl
theorem EN_impl_letters_1:ENT Tryz.prog B_impl_letters_1 [(1,none)] 1 2 fn_impl_letters_1:=fun hargs hw=>enter Tryz.func178 rfl IR_impl_letters_1 hargs hw
def H_slices_ContainsFunc_S_int_int:Hint:=⟨[(0,false),(1,false),(4,false)],[]⟩
def K177_1:Pl:=.x 6 (.bin .geq (.v 5) (.c (.int .i64 0))) <|
 .m 2 6 .done
@[simp] def W177_1 := Pl.w K177_1.eq_1
def K177_2:C:=.seq (.pl <| .e 3 4 <|
 .m 3 0 <|
 .m 4 1 <|
 .c 5 (.call fn_slices_IndexFunc_S_int_int [.v 3,.v 4]) K177_1) (.ret)
@[simp] def W177_2 := C.w K177_2.eq_1
def B_slices_ContainsFunc_S_int_int:C:=.seq (.pl <| .e 3 0 <|
 .x 2 (.mv (.c (.bool false))) .done) K177_2
@[simp] def WB_slices_ContainsFunc_S_int_int := C.w B_slices_ContainsFunc_S_int_int.eq_1
def R_slices_ContainsFunc_S_int_int:FIR:=⟨B_slices_ContainsFunc_S_int_int,3,[(2,none)]⟩
theorem IR_slices_ContainsFunc_S_int_int:cfun Tryz.prog H_slices_ContainsFunc_S_int_int Tryz.f177=some R_slices_ContainsFunc_S_int_int:=by kernel_rfl
theorem EN_slices_ContainsFunc_S_int_int:ENT Tryz.prog B_slices_ContainsFunc_S_int_int [(2,none)] 2 3 fn_slices_ContainsFunc_S_int_int:=fun hargs hw=>enter Tryz.func177 rfl IR_slices_ContainsFunc_S_int_int hargs hw
def H_slices_IndexFunc_S_int_int:Hint:=⟨[(0,false),(1,false),(4,false),(5,false),(7,false),(8,false)],[[2,3]]⟩
def K197_1:C:=.seq (.pl <| .e 6 0 <|
 .x 2 (.mv (.c (.int .i64 (-1)))) .done) (.ret)
@[simp] def W197_1 := C.w K197_1.eq_1
def K197_2:C:=.pl <| .e 6 1 <|
 .x 6 (.bin .add (.v 5) (.c (.int .i64 1))) <|
 .m 5 6 .done
@[simp] def W197_2 := C.w K197_2.eq_1
def K197_3:C:=.seq (.pl <| .e 6 1 <|
 .m 6 3 <|
 .m 2 6 .done) (.ret)
@[simp] def W197_3 := C.w K197_3.eq_1
def K197_4:C:=.cond 6 (.v 11) K197_3 (.skip)
@[simp] def W197_4 := C.w K197_4.eq_1
def K197_5:C:=.seq (.pl <| .e 6 6 <|
 .m 6 1 <|
 .m 7 0 <|
 .m 8 3 <|
 .x 9 (.ia 1 (.v 7) (.v 8)) <|
 .l 10 9 <|
 .c 11 (.callv (.v 6) [.v 10]) .done) K197_4
@[simp] def W197_5 := C.w K197_5.eq_1
def K197_6:C:=.seq (.block 1 (.seq (.pl <| .e 6 1 <|
 .m 6 5 <|
 .m 3 6 .done) K197_5)) K197_2
@[simp] def W197_6 := C.w K197_6.eq_1
def K197_7:C:=.seq (.cond 6 (.v 6) (.skip) (.exit 0)) K197_6
@[simp] def W197_7 := C.w K197_7.eq_1
def K197_8:C:=.seq (.pl <| .e 6 1 <|
 .x 6 (.bin .lss (.v 5) (.v 4)) .done) K197_7
@[simp] def W197_8 := C.w K197_8.eq_1
def K197_9:C:=.block 0 (.loop 6 [2,3] K197_8)
@[simp] def W197_9 := C.w K197_9.eq_1
def K197_10:C:=.seq (.seq (.pl <| .e 6 1 <|
 .m 6 0 <|
 .x 4 (.lenV (.v 6)) <|
 .x 5 (.mv (.c (.int .i64 0))) .done) K197_9) K197_1
@[simp] def W197_10 := C.w K197_10.eq_1
def B_slices_IndexFunc_S_int_int:C:=.seq (.pl <| .e 6 0 <|
 .x 2 (.mv (.c (.int .i64 0))) .done) K197_10
@[simp] def WB_slices_IndexFunc_S_int_int := C.w B_slices_IndexFunc_S_int_int.eq_1
def R_slices_IndexFunc_S_int_int:FIR:=⟨B_slices_IndexFunc_S_int_int,6,[(2,none)]⟩
theorem IR_slices_IndexFunc_S_int_int:cfun Tryz.prog H_slices_IndexFunc_S_int_int Tryz.f197=some R_slices_IndexFunc_S_int_int:=by kernel_rfl
theorem EN_slices_IndexFunc_S_int_int:ENT Tryz.prog B_slices_IndexFunc_S_int_int [(2,none)] 2 6 fn_slices_IndexFunc_S_int_int:=fun hargs hw=>enter Tryz.func197 rfl IR_slices_IndexFunc_S_int_int hargs hw
end Go.Proofs.YtbanccfdojgocaaGreat

namespace Go.Proofs.YtbanccfdojgocaaGreat
open Go
end Go.Proofs.YtbanccfdojgocaaGreat

namespace Go.Proofs.YtbanccfdojgocaaGreat
open Go
def okR (f:Aut→Aut) (h:Heap) (a:Aut) (u:Value) (h':Heap):Prop:=∃v,u=.tuple #[v,.bool (decide a.Ok)]∧HS h [ow v (if a.Ok then f a else Aut.empty)] h'
theorem okR.no {f:Aut→Aut}{h h':Heap}{a:Aut}(hn:¬a.Ok) (H:HS h [] h'):okR f h a (.tuple #[.agg #[.slice none 0 0,.slice none 0 0,.slice none 0 0],.bool false]) h':=
 ⟨_,by rw[decide_eq_false hn],by rw[if_neg hn]; exact empty_ow H⟩
theorem okR.yes {f:Aut→Aut}{h h':Heap}{a:Aut}{v:Value}(hn:a.Ok) (H:HS h [ow v (f a)] h'):okR f h a (.tuple #[v,.bool true]) h':=
 ⟨_,by rw[decide_eq_true hn],by rw[if_pos hn]; exact H⟩
end Go.Proofs.YtbanccfdojgocaaGreat

namespace Go.Proofs.YtbanccfdojgocaaGreat
open Go
end Go.Proofs.YtbanccfdojgocaaGreat

namespace Go.Proofs.YtbanccfdojgocaaGreat
open Go
theorem c_IndexFunc_int {h:Heap}{a fv:Value}{x:List Int}(Ra:Rep h a x) {f:FuncId}{c1 c2:List Value}(hf:fnOf fv=some (f,c1,c2)) (p:Int→Bool)
  (hp:∀h1,h.le h1→∀(i:Nat) (hi:i<x.length) (u:Value),Rep h1 u x[i]→CallE Tryz.prog f (c1++u::c2) h1 (fun v h'=>h1.le h'∧v=.bool (p x[i]))) :
  CallE Tryz.prog fn_slices_IndexFunc_S_int_int [a,fv] h (fun v h'=>h.le h'∧v=.int .i64 (match x.findIdx? p with | some i=>(i:Int) | none=>-1)):=by
 refine CallE.gen fun k hk=>EN_slices_IndexFunc_S_int_int rfl ?_
 have hL:=Ra.lt
 simp -implicitDefEqProofs (disch:=first|omega|(simp only[LnZ];omega))[wrap64,Ra.len]
 refine wp_count x.length (fun i e h'=>e=[some a,some fv,none,none,some (.int .i64 x.length),some (.int .i64 i)]∧h.le h'∧∀(j:Nat) (hj:j<x.length),j<i→p x[j]=false) ⟨rfl,Heap.le.refl h,fun j _ hj=>absurd hj (Nat.not_lt_zero j)⟩ ?_
 rintro J i _ h1 hJ hi ⟨rfl,hl,hn⟩
 simp -implicitDefEqProofs (disch:=first|omega|(simp only[LnZ];omega))[wrap64]
 refine IteW.mk (fun hlt=>?_) (fun hge=>?_)
 ·have hlx:i<x.length:=by omega
  obtain⟨u,hu,Ru⟩:=(Ra.le hl).ld hlx
  change hload _ (some (elp 1 a i)) none=some u at hu
  simp -implicitDefEqProofs (disch:=first|omega|(simp only[LnZ];omega))[wrap64,(Ra.le hl).X (n:=1) rfl,hu,hf]
  refine (hp h1 hl i hlx u Ru).go ?_
  rintro _ h2 ⟨hl2,rfl⟩
  simp -implicitDefEqProofs (disch:=first|omega|(simp only[LnZ];omega))[wrap64]
  refine IteW.mk (fun hq=>?_) (fun hq=>?_)
  ·simp -implicitDefEqProofs (disch:=first|omega|(simp only[LnZ];omega))[wrap64]
   refine RetK.keep (hk _ _ ⟨hl.trans hl2,?_⟩)
   have h3:x.findIdx? p=some i:=by
    rw[List.findIdx?_eq_some_iff_getElem]
    exact⟨hlx,hq,fun j hj=>by rw[hn j (by omega) hj]; simp⟩
   rw[h3]
  ·simp -implicitDefEqProofs (disch:=first|omega|(simp only[LnZ];omega))[wrap64]
   refine hJ _ _ hlx ⟨rfl,hl.trans hl2,fun j hj hji=>?_⟩
   by_cases hji2:j=i
   ·subst hji2; simpa using hq
   ·exact hn j hj (by omega)
 ·simp -implicitDefEqProofs (disch:=first|omega|(simp only[LnZ];omega))[wrap64]
  refine RetK.keep (hk _ _ ⟨hl,?_⟩)
  have h3:x.findIdx? p=none:=by
   rw[List.findIdx?_eq_none_iff]
   intro y hy
   obtain⟨j,hj,rfl⟩:=List.mem_iff_getElem.1 hy
   exact hn j hj (by omega)
  rw[h3]
theorem c_ContainsFunc_int {h:Heap}{a fv:Value}{x:List Int}(Ra:Rep h a x) {f:FuncId}{c1 c2:List Value}(hf:fnOf fv=some (f,c1,c2)) (p:Int→Bool)
  (hp:∀h1,h.le h1→∀(i:Nat) (hi:i<x.length) (u:Value),Rep h1 u x[i]→CallE Tryz.prog f (c1++u::c2) h1 (fun v h'=>h1.le h'∧v=.bool (p x[i]))) :
  CallE Tryz.prog fn_slices_ContainsFunc_S_int_int [a,fv] h (fun v h'=>h.le h'∧v=.bool (x.any p)):=by
 refine CallE.gen fun k hk=>EN_slices_ContainsFunc_S_int_int rfl ?_
 simp -implicitDefEqProofs (disch:=first|omega|(simp only[LnZ];omega))[wrap64]
 refine (c_IndexFunc_int Ra hf p hp).go ?_
 rintro _ h1 ⟨hl,rfl⟩
 simp -implicitDefEqProofs (disch:=first|omega|(simp only[LnZ];omega))[wrap64]
 refine RetK.keep (hk _ _ ⟨hl,?_⟩)
 congr 1
 rw[← List.findIdx?_isSome]
 cases x.findIdx? p <;> simp
end Go.Proofs.YtbanccfdojgocaaGreat

namespace Go.Proofs.YtbanccfdojgocaaGreat
open Go
theorem c_takes {h:Heap}{v:Value}{t:Tr}(Rt:Rep h v t) {n:Int}:CallE Tryz.prog fn_impl_Transition_takes [v,.int .i64 n] h (fun u h'=>h'=h∧u=.bool (t.on n)):=by
 rw[(Rep_Tr.1 Rt).1]
 refine CallE.gen fun k hk=>EN_impl_Transition_takes rfl ?_
 simp -implicitDefEqProofs (disch:=first|omega|(simp only[LnZ];omega))[wrap64,Tr.v]
 exact RetK.keep (hk _ _ ⟨rfl,rfl⟩)
theorem c_l7On {h:Heap}{v:Value}{t:Tr}(Rt:Rep h v t) {n:Int}:CallE Tryz.prog fn_spec_l7On [v,.int .i64 n] h (fun u h'=>h'=h∧u=.bool (t.on n)):=by
 rw[(Rep_Tr.1 Rt).1]
 refine CallE.gen fun k hk=>EN_spec_l7On rfl ?_
 simp -implicitDefEqProofs (disch:=first|omega|(simp only[LnZ];omega))[wrap64,Tr.v]
 exact RetK.keep (hk _ _ ⟨rfl,rfl⟩)
end Go.Proofs.YtbanccfdojgocaaGreat

namespace Go.Proofs.YtbanccfdojgocaaGreat
open Go
theorem tru_set2 {B:List Bool}{i:Nat}(hi:i<B.length) {b:Bool}{x:Nat}:tru (B.set i b) x↔if x=i then b=true else tru B x:=by
 simp only[tru,List.getD_eq_getElem?_getD,List.getElem?_set]
 by_cases e:i=x
 ·subst e; simp[hi]
 ·simp[e,Ne.symm e]
theorem c_begin {h:Heap}{v l:Value}{a:Aut}{L:List Bool}(Ra:Rep h v a) (Rl:Rep h l L) (ha:a.Ok) (hLl:L.length=a.acc.length) (hL:∀q,tru L q↔q<a.acc.length∧a.Live q) :
  CallE Tryz.prog fn_impl_Automaton_begin [v,l] h (fun u h'=>∃B:List Bool,HS h [ow u B] h'∧B.length=a.acc.length∧∀q,tru B q↔a.beg q):=by
 obtain⟨v1,v2,v3,rfl,R1,R2,R3⟩:=Rep_Aut.1 Ra
 have hn:=ha.n
 have hil:=ha.il
 refine CallE.gen fun k hk=>EN_impl_Automaton_begin rfl ?_
 simp -implicitDefEqProofs (disch:=first|omega|(simp only[LnZ];omega))[wrap64,Rl.len]
 refine HS.init.mks (α:=Bool) (z:=false) rfl rfl own_false (Nat.le_refl _) (by omega) (by omega) fun b h1 H=>?_
 simp -implicitDefEqProofs (disch:=first|omega|(simp only[LnZ];omega))[wrap64,(R1.on H).len]
 refine wp_count a.init.length (fun i e h'=>e=[none,some l,none,none,some b,none,some v1,some (.int .i64 a.init.length),some (.int .i64 i)]∧∃B:List Bool,HS h [ow b B] h'∧B.length=a.acc.length∧∀q:Nat,tru B q↔(q:Int)∈a.init.take i∧a.Live q) ⟨by simp,_,H,by simp[hLl],fun q=>by simp[tru_replicate]⟩ ?_
 clear H
 rintro J i _ h2 hJ hi ⟨rfl,B,H,hBl,hB⟩
 simp -implicitDefEqProofs (disch:=first|omega|(simp only[LnZ];omega))[wrap64]
 refine IteW.mk (fun hlt=>?_) (fun hge=>?_)
 ·have hix:i<a.init.length:=by omega
  have hx:=ha.im hix
  obtain⟨q,hq⟩:∃q:Nat,a.init[i]=q:=⟨a.init[i].toNat,by omega⟩
  have hqn:q<a.acc.length:=by omega
  simp -implicitDefEqProofs (disch:=first|omega|(simp only[LnZ];omega))[wrap64,(R1.on H).I,hq,(Rl.on H).B,H.rep.B]
  refine H.storeF (L[q]'(by omega)) (i:=q) (by omega) rfl rfl trivial rfl fun h3 H=>?_
  simp -implicitDefEqProofs (disch:=first|omega|(simp only[LnZ];omega))[wrap64]
  refine hJ _ _ hix ⟨rfl,_,H,by simpa using hBl,fun x=>?_⟩
  rw[tru_set2 (by omega),take_mem_succ hix,hq]
  have hLq:=hL q
  rw[tru_get (by omega)] at hLq
  split
  ·rename_i e
   subst e
   rw[hLq]
   simp[hqn]
  ·rename_i e
   rw[hB]
   have e2:¬((x:Int)=q):=by omega
   simp[e2]
 simp -implicitDefEqProofs (disch:=first|omega|(simp only[LnZ];omega))[wrap64]
 rw[List.take_of_length_le (by omega)] at hB
 exact RetK.keep (hk _ _ ⟨B,H,hBl,hB⟩)
theorem c_after {h:Heap}{v l s:Value}{a:Aut}{L S:List Bool}{letter:Int}(Ra:Rep h v a) (Rl:Rep h l L) (Rs:Rep h s S) (ha:a.Ok) (hLl:L.length=a.acc.length) (hSl:S.length=a.acc.length) (hL:∀q,tru L q↔q<a.acc.length∧a.Live q) :
  CallE Tryz.prog fn_impl_Automaton_after [v,l,s,.int .i64 letter] h (fun u h'=>∃B:List Bool,HS h [ow u B] h'∧B.length=a.acc.length∧∀q,tru B q↔a.aft (tru S) letter q):=by
 obtain⟨v1,v2,v3,rfl,R1,R2,R3⟩:=Rep_Aut.1 Ra
 have hn:=ha.n
 have he:=ha.e
 refine CallE.gen fun k hk=>EN_impl_Automaton_after rfl ?_
 simp -implicitDefEqProofs (disch:=first|omega|(simp only[LnZ];omega))[wrap64,Rl.len]
 refine HS.init.mks (α:=Bool) (z:=false) rfl rfl own_false (Nat.le_refl _) (by omega) (by omega) fun b h1 H=>?_
 simp -implicitDefEqProofs (disch:=first|omega|(simp only[LnZ];omega))[wrap64,(R3.on H).len]
 refine wp_count a.edges.length (fun i e h'=>e=[none,some l,some s,some (.int .i64 letter),none,none,some b,none,some v3,some (.int .i64 a.edges.length),some (.int .i64 i)]∧∃B:List Bool,HS h [ow b B] h'∧B.length=a.acc.length∧∀q:Nat,tru B q↔a.Live q∧∃e∈a.edges.take i,tru S e.frm.toNat∧e.to=q∧e.on letter=true) ⟨by simp,_,H,by simp[hLl],fun q=>by simp[tru_replicate]⟩ ?_
 clear H
 rintro J i _ h2 hJ hi ⟨rfl,B,H,hBl,hB⟩
 simp -implicitDefEqProofs (disch:=first|omega|(simp only[LnZ];omega))[wrap64]
 refine IteW.mk (fun hlt=>?_) (fun hge=>?_)
 ·have hix:i<a.edges.length:=by omega
  have hx:=ha.t hix
  have hv:=R3.okTr hix
  unfold Tr.Ok at hx
  obtain⟨f,hf⟩:∃f:Nat,a.edges[i].frm=f:=⟨a.edges[i].frm.toNat,by omega⟩
  obtain⟨t,ht⟩:∃t:Nat,a.edges[i].to=t:=⟨a.edges[i].to.toNat,by omega⟩
  have hLt:=hL t
  rw[tru_get (by omega)] at hLt
  have hSf:=tru_get (B:=S) (i:=f) (by omega)
  have hstep:∀B':List Bool,(∀q:Nat,tru B' q↔tru B q∨(q=t∧a.Live q∧tru S f∧a.edges[i].on letter=true))→∀q:Nat,tru B' q↔a.Live q∧∃e∈a.edges.take (i+1),tru S e.frm.toNat∧e.to=q∧e.on letter=true:=by
   intro B' hB' q
   rw[hB',hB]
   constructor
   ·rintro (⟨h1,e,h2,h3⟩ | ⟨rfl,h1,h2,h3⟩)
    ·exact⟨h1,e,(take_mem_succ hix).2 (.inl h2),h3⟩
    ·exact⟨h1,_,(take_mem_succ hix).2 (.inr rfl),by rw[hf]; simpa using h2,ht,h3⟩
   ·rintro⟨h1,e,h2,h3,h4,h5⟩
    rcases (take_mem_succ hix).1 h2 with h2 | rfl
    ·exact .inl ⟨h1,e,h2,h3,h4,h5⟩
    ·rw[hf] at h3
     exact .inr ⟨by omega,h1,by simpa using h3,h5⟩
  have hkeep:¬(a.Live t∧tru S f∧a.edges[i].on letter=true)→∀h3,HS h [ow b B] h3→J [none,some l,some s,some (.int .i64 letter),none,none,some b,none,some v3,some (.int .i64 a.edges.length),some (.int .i64 ((i+1:Nat):Int))] h3:=
   fun hno h3 H=>hJ _ _ hix ⟨by simp,B,H,hBl,hstep B fun q=>⟨.inl,fun hh=>hh.elim id fun ⟨e,h1,h2⟩=>absurd (e ▸ ⟨h1,h2⟩) hno⟩⟩
  by_cases e1:S[f]'(by omega)=true
  case neg=>
   simp -implicitDefEqProofs (disch:=first|omega|(simp only[LnZ];omega))[wrap64,(R3.on H).xTr,Tr.v,setC,hf,(Rs.on H).B,e1]
   exact hkeep (fun hh=>e1 (hSf.1 hh.2.1)) _ H
  by_cases e2:L[t]'(by omega)=true
  case neg=>
   simp -implicitDefEqProofs (disch:=first|omega|(simp only[LnZ];omega))[wrap64,(R3.on H).xTr,Tr.v,setC,hf,ht,(Rs.on H).B,(Rl.on H).B,e1,e2]
   exact hkeep (fun hh=>e2 (hLt.2 ⟨by omega,hh.1⟩)) _ H
  simp -implicitDefEqProofs (disch:=first|omega|(simp only[LnZ];omega))[wrap64,(R3.on H).xTr,Tr.v,setC,hf,ht,(Rs.on H).B,(Rl.on H).B,e1,e2]
  refine (c_takes (t:=a.edges[i]) (Rep_Tr.2 ⟨by simp[Tr.v,hf,ht],hv⟩)).go ?_
  rintro _ _ ⟨rfl,rfl⟩
  by_cases e3:a.edges[i].on letter=true
  case neg=>
   simp -implicitDefEqProofs (disch:=first|omega|(simp only[LnZ];omega))[wrap64,e3]
   exact hkeep (fun hh=>e3 hh.2.2) _ H
  simp -implicitDefEqProofs (disch:=first|omega|(simp only[LnZ];omega))[wrap64,e3,H.rep.B]
  refine H.storeF true (i:=t) (by omega) rfl rfl trivial rfl fun h3 H=>?_
  simp -implicitDefEqProofs (disch:=first|omega|(simp only[LnZ];omega))[wrap64]
  refine hJ _ _ hix ⟨by simp,_,H,by simpa using hBl,hstep _ fun q=>?_⟩
  rw[tru_set (by omega)]
  constructor
  ·rintro (h1 | rfl)
   ·exact .inl h1
   ·exact .inr ⟨rfl,(hLt.1 e2).2,hSf.2 e1,e3⟩
  ·rintro (h1 | h1)
   ·exact .inl h1
   ·exact .inr h1.1
 simp -implicitDefEqProofs (disch:=first|omega|(simp only[LnZ];omega))[wrap64]
 rw[List.take_of_length_le (by omega)] at hB
 exact RetK.keep (hk _ _ ⟨B,H,hBl,hB⟩)
theorem c_letters_1 {h:Heap}{n:Int}:CallE Tryz.prog fn_impl_letters_1 [.int .i64 n] h (fun u h'=>h'=h∧u=.bool (!decide (0≤n∧n≤7))):=by
 refine CallE.gen fun k hk=>EN_impl_letters_1 rfl ?_
 simp -implicitDefEqProofs (disch:=first|omega|(simp only[LnZ];omega))[wrap64]
 refine c_in.go ?_
 rintro _ _ ⟨rfl,rfl⟩
 simp -implicitDefEqProofs (disch:=first|omega|(simp only[LnZ];omega))[wrap64]
 exact RetK.keep (hk _ _ ⟨rfl,by simp⟩)
theorem c_letters {h:Heap}{w:Value}{W:List Int}(Rw:Rep h w W):CallE Tryz.prog fn_impl_letters [w] h (fun u h'=>h.le h'∧u=.bool (decide (∀x∈W,0≤x∧x≤7))):=by
 refine CallE.gen fun k hk=>EN_impl_letters rfl ?_
 simp -implicitDefEqProofs (disch:=first|omega|(simp only[LnZ];omega))[wrap64]
 refine (c_ContainsFunc_int Rw (c1:=[]) (c2:=[]) (f:=fn_impl_letters_1) rfl (fun n=>!decide (0≤n∧n≤7)) ?_).go ?_
 ·intro h3 hl j hj u Ru
  obtain⟨rfl,_⟩:=Rep_int.1 Ru
  exact (c_letters_1 (n:=W[j])).to fun _ _ ⟨h4,h5⟩=>⟨h4 ▸ Heap.le.refl _,h5⟩
 ·rintro _ h3 ⟨hl,rfl⟩
  simp -implicitDefEqProofs (disch:=first|omega|(simp only[LnZ];omega))[wrap64]
  refine RetK.keep (hk _ _ ⟨hl,?_⟩)
  congr 1
  rw[Bool.eq_iff_iff]
  simp
theorem c_wordOk {h:Heap}{w:Value}{W:List Int}(Rw:Rep h w W):CallE Tryz.prog fn_impl_wordOk [w] h (fun u h'=>h.le h'∧u=.bool (decide (Wok W))):=by
 have hL:=Rw.lt
 refine CallE.gen fun k hk=>EN_impl_wordOk rfl ?_
 simp -implicitDefEqProofs (disch:=first|omega|(simp only[LnZ];omega))[wrap64,Rw.len]
 by_cases h1:(W.length:Int)≤200
 ·simp -implicitDefEqProofs (disch:=first|omega|(simp only[LnZ];omega))[wrap64,h1]
  refine (c_letters Rw).go ?_
  rintro _ h2 ⟨hl,rfl⟩
  simp -implicitDefEqProofs (disch:=first|omega|(simp only[LnZ];omega))[wrap64]
  refine RetK.keep (hk _ _ ⟨hl,?_⟩)
  congr 1
  rw[Bool.eq_iff_iff]
  have:W.length≤200:=by omega
  simp[Wok,this]
 ·simp -implicitDefEqProofs (disch:=first|omega|(simp only[LnZ];omega))[wrap64,h1]
  refine RetK.keep (hk _ _ ⟨Heap.le.refl _,?_⟩)
  congr 1
  rw[eq_comm,decide_eq_false_iff_not]
  intro hh
  have:=hh.1
  omega
end Go.Proofs.YtbanccfdojgocaaGreat

namespace Go.Proofs.YtbanccfdojgocaaGreat
open Go
section
variable {P:Program}{k:Env→Heap→Prop}{e:Env}{g h:Heap}{Γ:List HP}{v:Value}{α:Type}
theorem bls_two [Ty α] {u1 u2:Value}{y1 y2:α}(R1:Rep h u1 y1) (R2:Rep h u2 y2) {esz:Nat}{zero:List Value}{parts:List (Nat×Nat×O)}{dst:Nat}(hf:fillP e (reps 2 zero) parts=some (u1.cells.toList++u2.cells.toList))
  (K:∀v' h',h.le h'→Rep h' v' [y1,y2]→k (eset e dst (some v')) h'):(A.ex (some dst) (.bls esz 2 zero parts)).wp P k e h:=by
 obtain⟨c1,rfl,r1⟩:=R1
 obtain⟨c2,rfl,r2⟩:=R2
 rw[rep_cells r1,rep_cells r2] at hf
 have l1:=Ty.len r1
 have l2:=Ty.len r2
 refine⟨_,hf,fun b el hb=>Fgt.keep ?_⟩
 rw[set_new hb]
 have hd:Dj h (Heap.one b (.cells (c1++c2).toArray el (0,0))):=Dj_one.2 hb
 have hbb:(h.add (Heap.one b (.cells (c1++c2).toArray el (0,0)))) b=some (.cells (c1++c2).toArray el (0,0)):=by simp[Heap.add,Heap.one,hb]
 refine K _ _ (le_add hd) (Rep_list.2 ⟨some ⟨b,0,none⟩,2,rfl,⟨Nat.le_refl _,by simp⟩,trivial,fun i hi=>?_⟩)
 refine⟨b,0,((c1++c2).drop (0+i*Ty.sz α)).take (Ty.sz α),rfl,?_,?_⟩
 ·rw[hcells_mk hbb (by simp at hi ⊢; rcases (by omega:i=0∨i=1) with rfl | rfl <;> simp <;> omega)]
 ·simp only[List.length_cons,List.length_nil] at hi
  rcases (by omega:i=0∨i=1) with rfl | rfl
  ·have e1:((c1++c2).drop (0+0*Ty.sz α)).take (Ty.sz α)=c1:=by simp[← l1]
   rw[e1]
   exact Ty.mono (le_add hd) r1
  ·have e1:((c1++c2).drop (0+1*Ty.sz α)).take (Ty.sz α)=c2:=by
    rw[show 0+1*Ty.sz α=c1.length by omega,List.drop_left,List.take_of_length_le (by omega)]
   rw[e1]
   exact Ty.mono (le_add hd) r2
end
end Go.Proofs.YtbanccfdojgocaaGreat

namespace Go.Proofs.YtbanccfdojgocaaGreat
open Go
structure GI (N B:Nat) (E:Nat→Nat→Prop) (G:List (List Int)):Prop where
 len:G.length=N
 mem:∀x (hx:x<G.length) z,z∈G[x]↔∃y:Nat,z=y∧E x y
 row:∀x (hx:x<G.length),G[x].length≤B
theorem GI.zero {N:Nat}:GI N 0 (fun _ _=>False) (List.replicate N []):=⟨by simp,by simp,by simp⟩
theorem GI.add {N B:Nat}{E:Nat→Nat→Prop}{G:List (List Int)}(h:GI N B E G) {f t:Nat}(hf:f<G.length):GI N (B+1) (fun x y=>E x y∨(x=f∧y=t)) (G.set f (G[f]++[(t:Int)])):=by
 refine⟨by simp[h.len],fun x hx z=>?_,fun x hx=>?_⟩
 ·simp only[List.length_set] at hx
  rw[List.getElem_set]
  split
  ·rename_i e
   subst e
   rw[List.mem_append,h.mem f hf z,List.mem_singleton]
   constructor
   ·rintro (⟨y,h1,h2⟩ | h1)
    ·exact⟨y,h1,.inl h2⟩
    ·exact⟨t,h1,.inr ⟨rfl,rfl⟩⟩
   ·rintro⟨y,h1,h2 | ⟨_,h2⟩⟩
    ·exact .inl ⟨y,h1,h2⟩
    ·subst h2; exact .inr h1
  ·rename_i e
   rw[h.mem x hx z]
   constructor
   ·rintro⟨y,h1,h2⟩; exact⟨y,h1,.inl h2⟩
   ·rintro⟨y,h1,h2 | ⟨h2,_⟩⟩
    ·exact⟨y,h1,h2⟩
    ·exact absurd h2.symm e
 ·simp only[List.length_set] at hx
  rw[List.getElem_set]
  have h1:=h.row f hf
  have h2:=h.row x hx
  split
  ·simp; omega
  ·omega
theorem GI.congr {N B B':Nat}{E E':Nat→Nat→Prop}{G:List (List Int)}(h:GI N B E G) (hB:B≤B') (he:∀x y,E x y↔E' x y):GI N B' E' G:=
 ⟨h.len,fun x hx z=>by rw[h.mem x hx z]; exact⟨fun ⟨y,h1,h2⟩=>⟨y,h1,(he x y).1 h2⟩,fun ⟨y,h1,h2⟩=>⟨y,h1,(he x y).2 h2⟩⟩,fun x hx=>Nat.le_trans (h.row x hx) hB⟩
end Go.Proofs.YtbanccfdojgocaaGreat

namespace Go.Proofs.YtbanccfdojgocaaGreat
open Go
end Go.Proofs.YtbanccfdojgocaaGreat

namespace Go.Proofs.YtbanccfdojgocaaGreat
open Go
end Go.Proofs.YtbanccfdojgocaaGreat

namespace Go.Proofs.YtbanccfdojgocaaGreat
open Go
theorem c_l10Sorted {g h:Heap}{Γ:List HP}{v:Value}{l:List Int}{n y:Int}(H:HS g (ow v l::Γ) h) (hl:incr n (-1) l) (hy:-1<y∧y<n) (hn:n≤1048576):CallE Tryz.prog fn_spec_l10Sorted [v,.int .i64 y] h (fun u h'=>∃l',HS g (ow u l'::Γ) h'∧incr n (-1) l'∧∀x,x∈l'↔x∈l∨x=y):=by
 have hll:=incr_len hl (by omega)
 have hp:=(incr_iff.1 hl).1
 refine CallE.gen fun k hk=>EN_spec_l10Sorted rfl ?_
 simp -implicitDefEqProofs (disch:=first|omega|(simp only[LnZ];omega))[wrap64]
 refine H.bls0 Int fun o h1 H=>?_
 simp -implicitDefEqProofs (disch:=first|omega|(simp only[LnZ];omega))[wrap64]
 refine wp_count l.length (fun i e h'=>∃o dn,e=[some v,some (.int .i64 y),none,some o,some (.bool dn),some (.int .i64 i)]∧∃O:List Int,HS g (ow o O::ow v l::Γ) h'∧InsI l y i dn O) ⟨o,false,by simp,[],H,InsI.zero⟩ ?_
 clear H
 rintro J i _ h2 hJ hi ⟨o,dn,rfl,O,H,hI⟩
 have hol:=hI.len
 simp -implicitDefEqProofs (disch:=first|omega|(simp only[LnZ];omega))[wrap64,H.sw1.rep.len]
 refine IteW.mk (fun hlt=>?_) (fun hge=>?_)
 ·have hix:i<l.length:=by omega
  have hxb:=H.sw1.rep.okI hix
  by_cases h1:l[i]=y
  ·simp -implicitDefEqProofs (disch:=first|omega|(simp only[LnZ];omega))[wrap64,H.sw1.rep.I,h1]
   refine RetK.keep (hk _ _ ⟨l,H.drop,hl,fun x=>⟨.inl,fun hh=>hh.elim id fun e=>?_⟩⟩)
   rw[e,← h1]; exact List.getElem_mem hix
  by_cases h2:y<l[i]
  ·cases dn with
   | false=>
    simp -implicitDefEqProofs (disch:=first|omega|(simp only[LnZ];omega))[wrap64,H.sw1.rep.I,h1,h2]
    refine H.app1 y rfl rfl rfl ⟨by omega,by omega⟩ rfl rfl (by omega) (by omega) fun o1 h3 H=>?_
    simp -implicitDefEqProofs (disch:=first|omega|(simp only[LnZ];omega))[wrap64,H.sw1.rep.I]
    refine H.app1 l[i] rfl rfl rfl hxb rfl rfl (by simp; omega) (by simp; omega) fun o2 h4 H=>?_
    simp -implicitDefEqProofs (disch:=first|omega|(simp only[LnZ];omega))[wrap64]
    exact hJ _ _ hix ⟨o2,true,rfl,_,H,hI.big hp hix h2⟩
   | true=>
    simp -implicitDefEqProofs (disch:=first|omega|(simp only[LnZ];omega))[wrap64,H.sw1.rep.I,h1,h2]
    refine H.app1 l[i] rfl rfl rfl hxb rfl rfl (by omega) (by omega) fun o2 h4 H=>?_
    simp -implicitDefEqProofs (disch:=first|omega|(simp only[LnZ];omega))[wrap64]
    exact hJ _ _ hix ⟨o2,true,rfl,_,H,hI.more hix h1⟩
  ·simp -implicitDefEqProofs (disch:=first|omega|(simp only[LnZ];omega))[wrap64,H.sw1.rep.I,h1,h2]
   refine H.app1 l[i] rfl rfl rfl hxb rfl rfl (by omega) (by omega) fun o2 h4 H=>?_
   simp -implicitDefEqProofs (disch:=first|omega|(simp only[LnZ];omega))[wrap64]
   refine hJ _ _ hix ⟨o2,dn,rfl,_,H,?_⟩
   cases dn with
   | false=>exact hI.small hix (by omega)
   | true=>exact hI.more hix h1
 ·obtain⟨r1,r2⟩:=hI.result hl hy (by omega)
  cases dn with
  | false=>
   simp -implicitDefEqProofs (disch:=first|omega|(simp only[LnZ];omega))[wrap64]
   refine H.app1 y rfl rfl rfl ⟨by omega,by omega⟩ rfl rfl (by omega) (by omega) fun o1 h3 H=>?_
   simp -implicitDefEqProofs (disch:=first|omega|(simp only[LnZ];omega))[wrap64]
   exact RetK.keep (hk _ _ ⟨_,H.sw1.drop,r1,r2⟩)
  | true=>
   simp -implicitDefEqProofs (disch:=first|omega|(simp only[LnZ];omega))[wrap64]
   exact RetK.keep (hk _ _ ⟨_,H.sw1.drop,r1,r2⟩)
def R2 {α:Type} [Ty α] (b:Bool) (y:α) (h:Heap) (u:Value) (h':Heap):Prop:=∃v,u=.tuple #[v,.bool b]∧HS h [ow v y] h'
end Go.Proofs.YtbanccfdojgocaaGreat

namespace Go.Proofs.YtbanccfdojgocaaGreat
open Go
theorem c_l6Letters {h:Heap}{w:Value}{W:List Int}(Rw:Rep h w W):CallE Tryz.prog fn_spec_l6Letters [w] h (fun u h'=>h'=h∧u=.bool (decide (∀x∈W,0≤x∧x≤7))):=by
 have hL:=Rw.lt
 refine CallE.gen fun k hk=>EN_spec_l6Letters rfl ?_
 simp -implicitDefEqProofs (disch:=first|omega|(simp only[LnZ];omega))[wrap64]
 refine wp_count W.length (fun i e h'=>e=[some w,none,some (.int .i64 i)]∧h'=h∧∀(j:Nat) (hj:j<W.length),j<i→0≤W[j]∧W[j]≤7) ⟨rfl,rfl,fun j _ hj=>absurd hj (Nat.not_lt_zero j)⟩ ?_
 rintro J i _ h1 hJ hi ⟨rfl,rfl,hn⟩
 simp -implicitDefEqProofs (disch:=first|omega|(simp only[LnZ];omega))[wrap64,Rw.len]
 refine IteW.mk (fun hlt=>?_) (fun hge=>?_)
 ·have hlx:i<W.length:=by omega
  have hno:¬(0≤W[i]∧W[i]≤7)→k (.bool false) h1:=fun hx=>hk _ _ ⟨rfl,by congr 1; rw[eq_comm,decide_eq_false_iff_not]; exact fun hh=>hx (hh _ (List.getElem_mem hlx))⟩
  by_cases h1:W[i]<0
  ·simp -implicitDefEqProofs (disch:=first|omega|(simp only[LnZ];omega))[wrap64,Rw.I,h1]
   exact RetK.keep (hno (by omega))
  by_cases h2:7<W[i]
  ·simp -implicitDefEqProofs (disch:=first|omega|(simp only[LnZ];omega))[wrap64,Rw.I,h1,h2]
   exact RetK.keep (hno (by omega))
  simp -implicitDefEqProofs (disch:=first|omega|(simp only[LnZ];omega))[wrap64,Rw.I,h1,h2]
  refine hJ _ _ hlx ⟨rfl,rfl,fun j hj hji=>?_⟩
  by_cases hji2:j=i
  ·subst hji2; omega
  ·exact hn j hj (by omega)
 ·simp -implicitDefEqProofs (disch:=first|omega|(simp only[LnZ];omega))[wrap64]
  refine RetK.keep (hk _ _ ⟨rfl,?_⟩)
  congr 1
  rw[eq_comm,decide_eq_true_iff]
  intro x hx
  obtain⟨j,hj,rfl⟩:=List.mem_iff_getElem.1 hx
  exact hn j hj (by omega)
theorem c_l12Word {h:Heap}{w:Value}{W:List Int}(Rw:Rep h w W):CallE Tryz.prog fn_spec_l12Word [w] h (fun u h'=>h'=h∧u=.bool (decide (Wok W))):=by
 have hL:=Rw.lt
 refine CallE.gen fun k hk=>EN_spec_l12Word rfl ?_
 simp -implicitDefEqProofs (disch:=first|omega|(simp only[LnZ];omega))[wrap64]
 refine (c_l6Letters Rw).go ?_
 rintro _ _ ⟨rfl,rfl⟩
 by_cases h1:∀x∈W,0≤x∧x≤7
 ·rw[decide_eq_true h1]
  simp -implicitDefEqProofs (disch:=first|omega|(simp only[LnZ];omega))[wrap64,Rw.len]
  refine RetK.keep (hk _ _ ⟨rfl,?_⟩)
  congr 1
  rw[Bool.eq_iff_iff,decide_eq_true_iff,decide_eq_true_iff]
  exact⟨fun h=>⟨by omega,h1⟩,fun h=>by have:=h.1; omega⟩
 ·rw[decide_eq_false h1]
  simp -implicitDefEqProofs (disch:=first|omega|(simp only[LnZ];omega))[wrap64]
  refine RetK.keep (hk _ _ ⟨rfl,?_⟩)
  congr 1
  rw[eq_comm,decide_eq_false_iff_not]
  exact fun hh=>h1 hh.2
theorem c_l12Only {h:Heap}{s l:Value}{S:List Int}{L:List Bool}(Rs:Rep h s S) (Rl:Rep h l L) (hS:∀x∈S,0≤x∧x<L.length) (hSl:S.length≤1048576):CallE Tryz.prog fn_spec_l12Only [s,l] h (fun u h'=>HS h [ow u (S.filter fun x=>L.getD x.toNat false)] h'):=by
 have hll:=Rl.lt
 refine CallE.gen fun k hk=>EN_spec_l12Only rfl ?_
 simp -implicitDefEqProofs (disch:=first|omega|(simp only[LnZ];omega))[wrap64]
 refine HS.init.bls0 Int fun o h1 H=>?_
 simp -implicitDefEqProofs (disch:=first|omega|(simp only[LnZ];omega))[wrap64]
 refine wp_count S.length (fun i e h'=>∃o,e=[some s,some l,none,some o,some (.int .i64 i)]∧HS h [ow o ((S.take i).filter fun x=>L.getD x.toNat false)] h') ⟨o,by simp,by simpa using H⟩ ?_
 clear H
 rintro J i _ h2 hJ hi ⟨o,rfl,H⟩
 have hfl:=List.length_filter_le (fun x:Int=>L.getD x.toNat false) (S.take i)
 simp only[List.length_take] at hfl
 simp -implicitDefEqProofs (disch:=first|omega|(simp only[LnZ];omega))[wrap64,(Rs.on H).len]
 refine IteW.mk (fun hlt=>?_) (fun hge=>?_)
 ·have hix:i<S.length:=by omega
  have hx:=hS _ (List.getElem_mem hix)
  obtain⟨q,hq⟩:∃q:Nat,S[i]=q:=⟨S[i].toNat,by omega⟩
  have hqn:q<L.length:=by omega
  have hgd:L.getD q false=L[q]:=by simp[hqn]
  have hfm:(S.take (i+1)).filter (fun x=>L.getD x.toNat false)=(S.take i).filter (fun x=>L.getD x.toNat false)++if L[q] then [(q:Int)] else []:=by
   rw[List.take_add_one,List.getElem?_eq_getElem hix,List.filter_append]
   congr 1
   simp only[Option.toList_some,List.filter_cons,List.filter_nil,hq,Int.toNat_natCast,hgd]
  cases hb:L[q] with
  | true=>
   simp -implicitDefEqProofs (disch:=first|omega|(simp only[LnZ];omega))[wrap64,(Rs.on H).I,hq,(Rl.on H).B,hb]
   refine H.app1 (q:Int) rfl rfl rfl ⟨by omega,by omega⟩ rfl rfl (by omega) (by omega) fun o' h3 H=>?_
   simp -implicitDefEqProofs (disch:=first|omega|(simp only[LnZ];omega))[wrap64]
   refine hJ _ _ hix ⟨o',rfl,?_⟩
   rw[hfm,hb]; exact H
  | false=>
   simp -implicitDefEqProofs (disch:=first|omega|(simp only[LnZ];omega))[wrap64,(Rs.on H).I,hq,(Rl.on H).B,hb]
   refine hJ _ _ hix ⟨o,rfl,?_⟩
   rw[hfm,hb]; simpa using H
 simp -implicitDefEqProofs (disch:=first|omega|(simp only[LnZ];omega))[wrap64]
 rw[List.take_of_length_le (by omega)] at H
 exact RetK.keep (hk _ _ H)
theorem c_l12Step {h:Heap}{v s:Value}{a:Aut}{S:List Int}{letter:Int}(Ra:Rep h v a) (Rs:Rep h s S) (ha:a.Ok):CallE Tryz.prog fn_spec_l12Step [v,s,.int .i64 letter] h (fun u h'=>∃T,HS h [ow u T] h'∧incr a.acc.length (-1) T∧∀x,x∈T↔∃e∈a.edges,e.frm∈S∧e.on letter=true∧e.to=x):=by
 obtain⟨v1,v2,v3,rfl,R1,R2,R3⟩:=Rep_Aut.1 Ra
 have hn:=ha.n
 have he:=ha.e
 refine CallE.gen fun k hk=>EN_spec_l12Step rfl ?_
 simp -implicitDefEqProofs (disch:=first|omega|(simp only[LnZ];omega))[wrap64]
 refine HS.init.bls0 Int fun o h1 H=>?_
 simp -implicitDefEqProofs (disch:=first|omega|(simp only[LnZ];omega))[wrap64]
 refine wp_count a.edges.length (fun i e h'=>∃o,e=[none,some s,some (.int .i64 letter),some (.agg #[v1,v2,v3]),none,some o,some (.int .i64 i)]∧∃T:List Int,HS h [ow o T] h'∧incr a.acc.length (-1) T∧∀x,x∈T↔∃e∈a.edges.take i,e.frm∈S∧e.on letter=true∧e.to=x) ⟨o,by simp,[],H,trivial,by simp⟩ ?_
 clear H
 rintro J i _ h2 hJ hi ⟨o,rfl,T,H,hT,hTm⟩
 simp -implicitDefEqProofs (disch:=first|omega|(simp only[LnZ];omega))[wrap64,(R3.on H).len]
 refine IteW.mk (fun hlt=>?_) (fun hge=>?_)
 ·have hix:i<a.edges.length:=by omega
  have hx:=ha.t hix
  have hv:=R3.okTr hix
  unfold Tr.Ok at hx
  have hstep:∀T':List Int,(∀x,x∈T'↔x∈T∨(a.edges[i].frm∈S∧a.edges[i].on letter=true∧a.edges[i].to=x))→∀x,x∈T'↔∃e∈a.edges.take (i+1),e.frm∈S∧e.on letter=true∧e.to=x:=by
   intro T' hT' x
   rw[hT',hTm]
   constructor
   ·rintro (⟨e,h1,h2⟩ | h1)
    ·exact⟨e,(take_mem_succ hix).2 (.inl h1),h2⟩
    ·exact⟨_,(take_mem_succ hix).2 (.inr rfl),h1⟩
   ·rintro⟨e,h1,h2⟩
    rcases (take_mem_succ hix).1 h1 with h1 | rfl
    ·exact .inl ⟨e,h1,h2⟩
    ·exact .inr h2
  simp -implicitDefEqProofs (disch:=first|omega|(simp only[LnZ];omega))[wrap64,(R3.on H).xTr,(R3.on H).fTr,Tr.v]
  refine (c_l4In (Rs.on H)).go ?_
  rintro _ _ ⟨rfl,rfl⟩
  by_cases h1:a.edges[i].frm∈S
  case neg=>
   simp -implicitDefEqProofs (disch:=first|omega|(simp only[LnZ];omega))[wrap64,h1]
   exact hJ _ _ hix ⟨o,by simp,T,H,hT,hstep T fun x=>⟨.inl,fun hh=>hh.elim id fun hh=>absurd hh.1 h1⟩⟩
  simp -implicitDefEqProofs (disch:=first|omega|(simp only[LnZ];omega))[wrap64,h1,(R3.on H).xTr,Tr.v]
  refine (c_l7On (t:=a.edges[i]) (Rep_Tr.2 ⟨by simp[Tr.v],hv⟩)).go ?_
  rintro _ _ ⟨rfl,rfl⟩
  by_cases h3:a.edges[i].on letter=true
  case neg=>
   simp -implicitDefEqProofs (disch:=first|omega|(simp only[LnZ];omega))[wrap64,h3]
   exact hJ _ _ hix ⟨o,by simp,T,H,hT,hstep T fun x=>⟨.inl,fun hh=>hh.elim id fun hh=>absurd hh.2.1 h3⟩⟩
  simp -implicitDefEqProofs (disch:=first|omega|(simp only[LnZ];omega))[wrap64,h3,(R3.on H).xTr,(R3.on H).fTr,Tr.v]
  refine (c_l10Sorted H hT (by omega) (by omega)).go ?_
  rintro o' h4 ⟨T',H,hT',hTm'⟩
  simp -implicitDefEqProofs (disch:=first|omega|(simp only[LnZ];omega))[wrap64]
  refine hJ _ _ hix ⟨o',by simp,T',H,hT',hstep T' fun x=>?_⟩
  rw[hTm']
  constructor
  ·rintro (h5 | h5)
   ·exact .inl h5
   ·exact .inr ⟨h1,h3,h5.symm⟩
  ·rintro (h5 | h5)
   ·exact .inl h5
   ·exact .inr h5.2.2.symm
 simp -implicitDefEqProofs (disch:=first|omega|(simp only[LnZ];omega))[wrap64]
 rw[List.take_of_length_le (by omega)] at hTm
 exact RetK.keep (hk _ _ ⟨T,H,hT,hTm⟩)
theorem c_l12States {h:Heap}{v w:Value}{a:Aut}{W:List Int}(Ra:Rep h v a) (Rw:Rep h w W) (ha:a.Ok):CallE Tryz.prog fn_spec_l12States [v,w] h (fun u h'=>HS h [ow u (a.states W)] h'):=by
 obtain⟨v1,v2,v3,rfl,R1,R2,R3⟩:=Rep_Aut.1 Ra
 have hn:=ha.n
 have hil:=ha.il
 have hwl:=Rw.lt
 have hfil:∀{L:List Bool}{S:List Int},L.length=a.acc.length→(∀q,tru L q↔q<a.acc.length∧a.Live q)→incr a.acc.length (-1) S→incr a.acc.length (-1) (S.filter fun x=>L.getD x.toNat false)∧∀q:Nat,(q:Int)∈(S.filter fun x=>L.getD x.toNat false)↔(q:Int)∈S∧a.Live q:=by
  intro L S hLl hL hS
  refine⟨incr_filter hS,fun q=>?_⟩
  rw[List.mem_filter]
  have:=hL q
  simp only[tru] at this
  simp only[Int.toNat_natCast]
  rw[this]
  constructor
  ·rintro⟨h1,h2⟩; exact⟨h1,h2.2⟩
  ·rintro⟨h1,h2⟩
   have:=incr_mem hS _ h1
   exact⟨h1,by omega,h2⟩
 refine CallE.gen fun k hk=>EN_spec_l12States rfl ?_
 simp -implicitDefEqProofs (disch:=first|omega|(simp only[LnZ];omega))[wrap64]
 refine (c_spec_LiveStates Ra ha).go ?_
 rintro l h1 ⟨L,H,hLl,hL⟩
 simp -implicitDefEqProofs (disch:=first|omega|(simp only[LnZ];omega))[wrap64]
 refine (c_l12Only (R1.on H) H.rep (fun x hx=>by have:=incr_mem ha.i x hx; omega) (by omega)).go ?_
 intro s h2 H2
 have H:=H2.app H
 obtain⟨f1,f2⟩:=hfil hLl hL ha.i
 simp -implicitDefEqProofs (disch:=first|omega|(simp only[LnZ];omega))[wrap64]
 refine wp_count W.length (fun i e h'=>∃s,e=[none,some w,some (.agg #[v1,v2,v3]),none,some l,some s,some (.int .i64 i)]∧∃S:List Int,HS h [ow s S,ow l L] h'∧incr a.acc.length (-1) S∧∀q:Nat,(q:Int)∈S↔a.behind (W.take i) q) ⟨s,by simp,_,H,f1,f2⟩ ?_
 clear H f1 f2
 rintro J i _ h3 hJ hi ⟨s,rfl,S,H,hS,hSm⟩
 have hSl:=incr_len hS (by omega)
 simp -implicitDefEqProofs (disch:=first|omega|(simp only[LnZ];omega))[wrap64,(Rw.on H).len]
 refine IteW.mk (fun hlt=>?_) (fun hge=>?_)
 ·have hix:i<W.length:=by omega
  simp -implicitDefEqProofs (disch:=first|omega|(simp only[LnZ];omega))[wrap64,(Rw.on H).I]
  refine (c_l12Step (Ra.on H) H.rep ha).go ?_
  rintro t h4 ⟨T,H4,hT,hTm⟩
  have H:=H4.app H
  have hTl:=incr_len hT (by omega)
  simp -implicitDefEqProofs (disch:=first|omega|(simp only[LnZ];omega))[wrap64]
  refine (c_l12Only H.rep H.sw2.rep (fun x hx=>by have:=incr_mem hT x hx; omega) (by omega)).go ?_
  intro s' h5 H5
  have H:=((H5.app H).sw1.drop).sw1.drop
  obtain⟨f1,f2⟩:=hfil hLl hL hT
  simp -implicitDefEqProofs (disch:=first|omega|(simp only[LnZ];omega))[wrap64]
  refine hJ _ _ hix ⟨s',by simp,_,H,f1,fun q=>?_⟩
  rw[f2,hTm,Aut.behind,foldl_take hix]
  constructor
  ·rintro⟨⟨e,h6,h7,h8,h9⟩,h10⟩
   have hx:=ha.2.2.2 e h6
   unfold Tr.Ok at hx
   refine⟨h10,e,h6,?_,h9,h8⟩
   show a.behind (W.take i) _
   rw[← hSm,Int.toNat_of_nonneg hx.1]
   exact h7
  ·rintro⟨h10,e,h6,h7,h9,h8⟩
   have hx:=ha.2.2.2 e h6
   unfold Tr.Ok at hx
   have h7:a.behind (W.take i) _:=h7
   rw[← hSm,Int.toNat_of_nonneg hx.1] at h7
   exact⟨⟨e,h6,h7,h8,h9⟩,h10⟩
 simp -implicitDefEqProofs (disch:=first|omega|(simp only[LnZ];omega))[wrap64]
 rw[List.take_of_length_le (by omega)] at hSm
 refine H.appPL (α:=Int) (l2:=S) rfl rfl H.rep rfl rfl (by omega) fun o h4 H=>?_
 simp -implicitDefEqProofs (disch:=first|omega|(simp only[LnZ];omega))[wrap64]
 have he:S=a.states W:=by
  refine Aut.states_eq hS fun q=>?_
  rw[hSm]
  constructor
  ·intro h5
   have:=incr_mem hS q ((hSm q).2 h5)
   exact⟨by omega,h5⟩
  ·exact fun h5=>h5.2
 rw[he] at H
 exact RetK.keep (hk _ _ H.only)
end Go.Proofs.YtbanccfdojgocaaGreat

namespace Go.Proofs.YtbanccfdojgocaaGreat
open Go
end Go.Proofs.YtbanccfdojgocaaGreat

namespace Go.Proofs.YtbanccfdojgocaaGreat
open Go
noncomputable def stA (a:Aut) (w:List Int):Aut:=⟨a.states w,a.acc,a.edges⟩
theorem stA_ok {a:Aut}{w:List Int}(ha:a.Ok):(stA a w).Ok:=⟨ha.1,ha.2.1,(Aut.states_incr:incr a.acc.length (-1) (a.states w)),ha.2.2.2⟩
noncomputable def ext (a:Aut) (w:List Int):Option Las:=
 if a.Ok∧Wok w∧a.states w≠[] then
  match Bf.fw (stA a w) with
  | some l=>if (⟨w++l.stem,l.loop⟩:Las).Ok then some ⟨w++l.stem,l.loop⟩ else none
  | none=>none
 else none
end Go.Proofs.YtbanccfdojgocaaGreat

namespace Go.Proofs.YtbanccfdojgocaaGreat
open Go
theorem fold_LP {a:Aut}(ha:a.Ok):∀{W:List Int}{P:Nat→Prop}{q:Nat},W.foldl a.aft P q→∃s,P s∧LP a.edges s W q
 | [],P,q,h=>⟨q,h,.nil q⟩
 | x::W,P,q,h=>by
  obtain⟨s,⟨_,e,he,h1,h2,h3⟩,h4⟩:=fold_LP ha (W:=W) (P:=a.aft P x) h
  obtain⟨f,g,k1,k2,_,_⟩:=ha.tr he
  rw[k1,Int.toNat_natCast] at h1
  exact⟨f,h1,.cons ⟨e,he,k1,h2,h3⟩ h4⟩
theorem fold_live {a:Aut}:∀{W:List Int}{P:Nat→Prop}{q:Nat},(∀s,P s→a.Live s)→W.foldl a.aft P q→a.Live q
 | [],P,q,hP,h=>hP q h
 | x::W,P,q,hP,h=>fold_live (W:=W) (P:=a.aft P x) (fun s hs=>hs.1) h
theorem states_mem {a:Aut}{W:List Int}{x:Int}:x∈a.states W↔∃q:Nat,x=q∧q<a.acc.length∧a.behind W q:=by
 unfold Aut.states
 rw[memL_mem]
 simp
theorem states_live {a:Aut}{W:List Int}{q:Nat}(h:(q:Int)∈a.states W):q<a.acc.length∧a.Live q∧a.behind W q:=by
 obtain⟨p,h1,h2,h3⟩:=states_mem.1 h
 obtain rfl:q=p:=by omega
 exact⟨h2,fold_live (fun s hs=>hs.2) h3,h3⟩
end Go.Proofs.YtbanccfdojgocaaGreat

namespace Go.Proofs.YtbanccfdojgocaaGreat
open Go
def Lts (w:Nat→Int):Prop:=∀t,0≤w t∧w t≤7
def Pre (W:List Int) (w:Nat→Int):Prop:=∀i (hi:i<W.length),w i=W[i]
theorem Run.next {A:List Bool}{E:List Tr}{w:Nat→Int}{t p:Nat}(h:Run A E w t p):∃q,StE E w t p q∧Run A E w (t+1) q:=by
 obtain⟨C,hC,hG⟩:=h
 obtain⟨u,q,h1,h2,h3,h4⟩:=hG t p hC
 cases h2 with
 | refl=>omega
 | step h k=>exact⟨_,h,Run.before k ⟨C,h4,hG⟩⟩
theorem states_of_lang {a:Aut}(ha:a.Ok) {W:List Int}{w:Nat→Int}(hw:Pre W w) (h:a.Lang w):a.states W≠[]:=by
 obtain⟨s,hs,hr⟩:=h
 have hs':=ha.ini hs
 have key:∀n,n≤W.length→∃p,p<a.acc.length∧Run a.acc a.edges w n p∧a.behind (W.take n) p:=by
  intro n
  induction n with
  | zero=>intro _; exact⟨s,hs',hr,hs,hr.live ha hs'⟩
  | succ n ih=>
   intro hn
   obtain⟨p,h1,h2,h3⟩:=ih (by omega)
   obtain⟨q,h4,h5⟩:=h2.next
   obtain⟨_,hq⟩:=ha.st h4
   obtain⟨e,he,e1,e2,e3⟩:=h4
   refine⟨q,hq,h5,?_⟩
   unfold Aut.behind
   rw[foldl_take (show n<W.length by omega)]
   refine⟨h5.live ha hq,e,he,?_,e2,?_⟩
   ·rw[e1,Int.toNat_natCast]; exact h3
   ·rw[← hw n (by omega)]; exact e3
 obtain⟨p,h1,_,h3⟩:=key W.length (Nat.le_refl _)
 rw[List.take_length] at h3
 intro hno
 have:(p:Int)∈a.states W:=states_mem.2 ⟨p,rfl,h1,h3⟩
 rw[hno] at this
 simp at this
theorem lang_of_states {a:Aut}(ha:a.Ok) {W:List Int}(hW:∀x∈W,0≤x∧x≤7) (h:a.states W≠[]):∃l:Las,1≤l.loop.length∧Lts l.word∧Pre W l.word∧a.Lang l.word:=by
 have hst:=stA_ok (w:=W) ha
 cases hf:Bf.fw (stA a W) with
 | none=>
  exfalso
  cases hs:a.states W with
  | nil=>exact h hs
  | cons x t=>
   have hx:x∈a.states W:=by rw[hs]; simp
   obtain⟨q,rfl,_,_⟩:=states_mem.1 hx
   exact Bf.fw_none hst hf hx (states_live hx).2.1
 | some l0=>
  obtain⟨⟨s,x,h1,h2,h3,h4⟩,k1,k2,_,k4,_⟩:=Bf.fw_some hst hf
  obtain⟨_,_,hb⟩:=states_live (a:=a) (W:=W) h1
  obtain⟨s0,h5,h6⟩:=fold_LP ha (P:=a.beg) hb
  have hl:∀y∈(⟨W++l0.stem,l0.loop⟩:Las).all,0≤y∧y≤7:=by
   intro y hy
   simp only[Las.all,List.mem_append] at hy
   rcases hy with (hy | hy) | hy
   ·exact hW y hy
   ·exact k1 y hy
   ·exact k2 y hy
  refine⟨⟨W++l0.stem,l0.loop⟩,k4,fun t=>?_,fun i hi=>?_,lasso_lang k4 h5.1 (h6.append h2) h3 h4⟩
  ·have h1:=Las.pos_lt (l:=⟨W++l0.stem,l0.loop⟩) k4 t
   unfold Las.word
   rw[List.getD_eq_getElem?_getD,List.getElem?_eq_getElem (by rw[Las.all_len]; exact h1)]
   exact hl _ (List.getElem_mem _)
  ·rw[Las.word_stem (l:=⟨W++l0.stem,l0.loop⟩) (by simp only[List.length_append]; omega)]
   simp only
   rw[List.getElem_append_left hi]
namespace Fm
def ngt (x:Exq):Exq:=if x.kind=3 then x.kids.getD 0 Exq.zero else neg x
theorem sat_ngt {w:Nat→Int}{x:Exq}(h:Ok x) {t:Nat}:sat w (ngt x) t↔¬sat w x t:=by
 unfold ngt
 split
 ·rename_i c
  have h1:=h.1.one (.inl c)
  have hl:0<x.kids.length:=by omega
  rw[sat3 c,sk_at hl,List.getD_eq_getElem?_getD,List.getElem?_eq_getElem hl]
  simp
 ·exact sat_neg
theorem bad_iff {x:Exq}(h:trOk x) (ha:(trA x).Ok) {W:List Int}(hW:∀y∈W,0≤y∧y≤7):(trA x).states W=[]↔∀w,Lts w→Pre W w→¬sat w x 0:=by
 constructor
 ·intro h1 w h2 h3 h4
  exact states_of_lang ha h3 ((trA_lang h h2).2 h4) h1
 ·intro h1
  apply Classical.byContradiction
  intro h2
  obtain⟨l,_,h3,h4,h5⟩:=lang_of_states ha hW h2
  exact h1 _ h3 h4 ((trA_lang h h3).1 h5)
theorem pre_ex {W:List Int}(hW:∀y∈W,0≤y∧y≤7):∃w,Lts w∧Pre W w:=by
 refine⟨fun t=>W.getD t 0,fun t=>?_,fun i hi=>by simp[hi]⟩
 by_cases ht:t<W.length
 ·have:=hW _ (List.getElem_mem ht)
  simpa[ht] using this
 ·simp[show W.length≤t by omega]
theorem not_both {x y:Exq}(hx:trOk x) (hy:trOk y) (ax:(trA x).Ok) (ay:(trA y).Ok) (hn:∀w,sat w y 0↔¬sat w x 0) {W:List Int}(hW:∀y∈W,0≤y∧y≤7):¬((trA x).states W=[]∧(trA y).states W=[]):=by
 rintro⟨h1,h2⟩
 obtain⟨w,h3,h4⟩:=pre_ex hW
 have h5:=(bad_iff hx ax hW).1 h1 w h3 h4
 exact (bad_iff hy ay hW).1 h2 w h3 h4 ((hn w).2 h5)
end Fm
end Go.Proofs.YtbanccfdojgocaaGreat

namespace Go.Proofs.YtbanccfdojgocaaGreat
open Go
namespace Fm
section
variable {l:Las}
end
end Fm
end Go.Proofs.YtbanccfdojgocaaGreat

namespace Go.Proofs.YtbanccfdojgocaaGreat
open Go
namespace Fm
structure FixI (s0:Bool) (N:Nat) (nx:Nat→Nat) (f:Nat→Bool→Bool) (v:Nat→Bool) (O:List Bool):Prop where
 len:O.length=N
 ok:∀i,i<N→O.getD i s0=(!s0)→v i=(!s0)∧f i (O.getD (nx i) s0)=(!s0)
section
variable {s0:Bool}{N:Nat}{nx:Nat→Nat}{f:Nat→Bool→Bool}{v:Nat→Bool}{O:List Bool}
theorem FixI.init:FixI s0 N nx f v (List.replicate N s0):=⟨by simp,fun i hi h=>by simp[hi] at h⟩
theorem FixI.old (H:FixI s0 N nx f v O) {i:Nat}(hi:i<N) (hne:f i (O.getD (nx i) s0)≠O.getD i s0):O.getD i s0=s0∧f i (O.getD (nx i) s0)=(!s0):=by
 cases s0 with
 | false=>
  have h1:O.getD i false=false:=by
   cases hb:O.getD i false with
   | false=>rfl
   | true=>exact absurd ((H.ok i hi hb).2.trans hb.symm) hne
  rw[h1] at hne
  exact⟨h1,by simpa using hne⟩
 | true=>
  have h1:O.getD i true=true:=by
   cases hb:O.getD i true with
   | true=>rfl
   | false=>exact absurd ((H.ok i hi hb).2.trans hb.symm) hne
  rw[h1] at hne
  exact⟨h1,by simpa using hne⟩
theorem fix_any (hm:∀i,f i s0=(!s0)→f i (!s0)=(!s0)) {j:Nat}{c c':Bool}(h:f j c=(!s0)) (hc:c=(!s0)→c'=(!s0)):f j c'=(!s0):=by
 have h3:=hm j
 cases s0 with
 | false=>
  cases c' with
  | true=>
   cases c with
   | true=>exact h
   | false=>exact h3 h
  | false=>
   cases c with
   | false=>exact h
   | true=>exact absurd (hc rfl) (by decide)
 | true=>
  cases c' with
  | false=>
   cases c with
   | false=>exact h
   | true=>exact h3 h
  | true=>
   cases c with
   | true=>exact h
   | false=>exact absurd (hc rfl) (by decide)
theorem FixI.step (hm:∀i,f i s0=(!s0)→f i (!s0)=(!s0)) (hv:∀i,i<N→v i=f i (v (nx i))) (hn:∀i,i<N→nx i<N) (H:FixI s0 N nx f v O) {i:Nat}(hi:i<N) (hne:f i (O.getD (nx i) s0)≠O.getD i s0):FixI s0 N nx f v (O.set i (f i (O.getD (nx i) s0))):=by
 obtain⟨h1,h2⟩:=H.old hi hne
 have ge:∀j,(O.set i (!s0)).getD j s0=if i=j then (!s0) else O.getD j s0:=by
  intro j
  simp only[List.getD_eq_getElem?_getD,List.getElem?_set]
  by_cases e:i=j
  ·subst e
   rw[if_pos rfl,if_pos rfl,if_pos (by rw[H.len]; exact hi)]
   rfl
  ·rw[if_neg e,if_neg e]
 have up:∀j,f j (O.getD (nx j) s0)=(!s0)→f j ((O.set i (!s0)).getD (nx j) s0)=(!s0):=by
  intro j h
  refine fix_any hm h fun hc=>?_
  rw[ge]
  split
  ·rfl
  ·exact hc
 rw[h2]
 refine⟨by simpa using H.len,fun j hj hj2=>?_⟩
 rw[ge] at hj2
 by_cases e:i=j
 ·subst e
  refine⟨?_,up i h2⟩
  rw[hv i hi]
  exact fix_any hm h2 fun hc=>(H.ok _ (hn i hi) hc).1
 ·rw[if_neg e] at hj2
  obtain⟨h3,h4⟩:=H.ok j hj hj2
  exact⟨h3,up j h4⟩
end
end Fm
end Go.Proofs.YtbanccfdojgocaaGreat

namespace Go.Proofs.YtbanccfdojgocaaGreat
open Go
theorem getD_some {α:Type}{l:List α}{i:Nat}{d:α}(hi:i<l.length):l.getD i d=l[i]:=by simp[hi]
end Go.Proofs.YtbanccfdojgocaaGreat

namespace Go.Proofs.YtbanccfdojgocaaGreat
open Go
theorem i64_0:I64 0:=⟨by decide,by decide⟩
end Go.Proofs.YtbanccfdojgocaaGreat
