/-
  Texts of this proof, one behind the other.
-/
import Derived.WalkKit
import Derived.ProofKit
import Derived.OpenShut
import Derived.Carry
import Derived.Deep.Slices
import Derived.SizedLaws
import Derived.Test.YtbanccfdojgocaaRows
import Derived.Test.YtbanccfdojgocaaYF3
set_option linter.all false
set_option linter.unusedVariables false
set_option linter.unusedSimpArgs false
set_option linter.defProp false
set_option maxRecDepth 1000000
namespace Go.Proofs.Ytbanccfdojgocaa
open Go
def H_laws_markFormulaS : Hint := ⟨[(0, false), (1, false), (4, false), (5, false)], [[2]]⟩
def K34_1 : C := .seq (.pl <| .e 4 1 <|
 .m 4 1 <|
 .m 2 4 .done) (.ret)
@[simp] def W34_1 := C.w K34_1.eq_1
def K34_2 : C := .pl <| .e 4 2 <|
 .m 4 3 <|
 .x 5 (.bin .add (.v 4) (.c (.int .i64 1))) <|
 .m 3 5 .done
@[simp] def W34_2 := C.w K34_2.eq_1
def K34_3 : Pl := .m 1 10 .done
@[simp] def W34_3 := Pl.w K34_3.eq_1
def K34_4 : C := .pl <| .e 4 7 <|
 .m 4 0 <|
 .m 5 3 <|
 .x 6 (.ia 3 (.v 4) (.v 5)) <|
 .x 7 (.fa 2 (.v 6)) <|
 .l 8 7 <|
 .m 9 1 <|
 .c 10 (.call fn_laws_markFormulaS [.v 8, .v 9]) K34_3
@[simp] def W34_4 := C.w K34_4.eq_1
def K34_5 : C := .seq (.pl <| .e 4 2 <|
 .m 4 1 <|
 .x 5 (.bin .add (.v 4) (.c (.int .i64 1))) <|
 .m 1 5 .done) K34_4
@[simp] def W34_5 := C.w K34_5.eq_1
def K34_6 : C := .seq (.pl <| .e 4 5 <|
 .m 4 0 <|
 .m 5 3 <|
 .m 6 1 <|
 .x 7 (.ia 3 (.v 4) (.v 5)) <|
 .x 8 (.fa 1 (.v 7)) <|
 .o (.ex none (.store 1 (.v 8) (.v 6))) .done) K34_5
@[simp] def W34_6 := C.w K34_6.eq_1
def K34_7 : C := .seq (.pl <| .e 4 2 <|
 .m 4 1 <|
 .x 5 (.bin .add (.v 4) (.c (.int .i64 1))) <|
 .m 1 5 .done) K34_6
@[simp] def W34_7 := C.w K34_7.eq_1
def K34_8 : C := .seq (.block 1 (.seq (.pl <| .e 4 5 <|
 .m 4 0 <|
 .m 5 3 <|
 .m 6 1 <|
 .x 7 (.ia 3 (.v 4) (.v 5)) <|
 .x 8 (.fa 0 (.v 7)) <|
 .o (.ex none (.store 1 (.v 8) (.v 6))) .done) K34_7)) K34_2
@[simp] def W34_8 := C.w K34_8.eq_1
def K34_9 : C := .cond 4 (.v 7) (.skip) (.exit 0)
@[simp] def W34_9 := C.w K34_9.eq_1
def K34_10 : C := .seq (.seq (.pl <| .e 4 4 <|
 .m 4 3 <|
 .m 5 0 <|
 .x 6 (.lenV (.v 5)) <|
 .x 7 (.bin .lss (.v 4) (.v 6)) .done) K34_9) K34_8
@[simp] def W34_10 := C.w K34_10.eq_1
def K34_11 : C := .block 0 (.loop 4 [2] K34_10)
@[simp] def W34_11 := C.w K34_11.eq_1
def K34_12 : C := .seq (.seq (.pl <| .e 4 0 <|
 .x 3 (.mv (.c (.int .i64 0))) .done) K34_11) K34_1
@[simp] def W34_12 := C.w K34_12.eq_1
def B_laws_markFormulaS : C := .seq (.pl <| .e 4 0 <|
 .x 2 (.mv (.c (.int .i64 0))) .done) K34_12
@[simp] def WB_laws_markFormulaS := C.w B_laws_markFormulaS.eq_1
def R_laws_markFormulaS : FIR := ⟨B_laws_markFormulaS, 4, [(2, none)]⟩
theorem IR_laws_markFormulaS : cfun Try.prog H_laws_markFormulaS Try.f34 = some R_laws_markFormulaS := by kernel_rfl
theorem EN_laws_markFormulaS : ENT Try.prog B_laws_markFormulaS [(2, none)] 2 4 fn_laws_markFormulaS := fun hargs hw => enter Try.func34 rfl IR_laws_markFormulaS hargs hw
def H_laws_markIntS : Hint := ⟨[(0, false), (1, false), (4, false), (5, false)], [[2]]⟩
def K35_1 : C := .seq (.pl <| .e 4 1 <|
 .m 4 1 <|
 .m 2 4 .done) (.ret)
@[simp] def W35_1 := C.w K35_1.eq_1
def K35_2 : C := .pl <| .e 4 2 <|
 .m 4 3 <|
 .x 5 (.bin .add (.v 4) (.c (.int .i64 1))) <|
 .m 3 5 .done
@[simp] def W35_2 := C.w K35_2.eq_1
def K35_3 : C := .pl <| .e 4 2 <|
 .m 4 1 <|
 .x 5 (.bin .add (.v 4) (.c (.int .i64 1))) <|
 .m 1 5 .done
@[simp] def W35_3 := C.w K35_3.eq_1
def K35_4 : C := .seq (.block 1 (.seq (.pl <| .e 4 4 <|
 .m 4 0 <|
 .m 5 3 <|
 .m 6 1 <|
 .x 7 (.ia 1 (.v 4) (.v 5)) <|
 .o (.ex none (.store 1 (.v 7) (.v 6))) .done) K35_3)) K35_2
@[simp] def W35_4 := C.w K35_4.eq_1
def K35_5 : C := .cond 4 (.v 7) (.skip) (.exit 0)
@[simp] def W35_5 := C.w K35_5.eq_1
def K35_6 : C := .seq (.seq (.pl <| .e 4 4 <|
 .m 4 3 <|
 .m 5 0 <|
 .x 6 (.lenV (.v 5)) <|
 .x 7 (.bin .lss (.v 4) (.v 6)) .done) K35_5) K35_4
@[simp] def W35_6 := C.w K35_6.eq_1
def K35_7 : C := .block 0 (.loop 4 [2] K35_6)
@[simp] def W35_7 := C.w K35_7.eq_1
def K35_8 : C := .seq (.seq (.pl <| .e 4 0 <|
 .x 3 (.mv (.c (.int .i64 0))) .done) K35_7) K35_1
@[simp] def W35_8 := C.w K35_8.eq_1
def B_laws_markIntS : C := .seq (.pl <| .e 4 0 <|
 .x 2 (.mv (.c (.int .i64 0))) .done) K35_8
@[simp] def WB_laws_markIntS := C.w B_laws_markIntS.eq_1
def R_laws_markIntS : FIR := ⟨B_laws_markIntS, 4, [(2, none)]⟩
theorem IR_laws_markIntS : cfun Try.prog H_laws_markIntS Try.f35 = some R_laws_markIntS := by kernel_rfl
theorem EN_laws_markIntS : ENT Try.prog B_laws_markIntS [(2, none)] 2 4 fn_laws_markIntS := fun hargs hw => enter Try.func35 rfl IR_laws_markIntS hargs hw
def H_laws_markTransitionS : Hint := ⟨[(0, false), (1, false), (4, false), (5, false)], [[2]]⟩
def K37_1 : C := .seq (.pl <| .e 4 1 <|
 .m 4 1 <|
 .m 2 4 .done) (.ret)
@[simp] def W37_1 := C.w K37_1.eq_1
def K37_2 : C := .pl <| .e 4 2 <|
 .m 4 3 <|
 .x 5 (.bin .add (.v 4) (.c (.int .i64 1))) <|
 .m 3 5 .done
@[simp] def W37_2 := C.w K37_2.eq_1
def K37_3 : C := .pl <| .e 4 2 <|
 .m 4 1 <|
 .x 5 (.bin .add (.v 4) (.c (.int .i64 1))) <|
 .m 1 5 .done
@[simp] def W37_3 := C.w K37_3.eq_1
def K37_4 : C := .seq (.pl <| .e 4 5 <|
 .m 4 0 <|
 .m 5 3 <|
 .m 6 1 <|
 .x 7 (.ia 4 (.v 4) (.v 5)) <|
 .x 8 (.fa 3 (.v 7)) <|
 .o (.ex none (.store 1 (.v 8) (.v 6))) .done) K37_3
@[simp] def W37_4 := C.w K37_4.eq_1
def K37_5 : C := .seq (.pl <| .e 4 2 <|
 .m 4 1 <|
 .x 5 (.bin .add (.v 4) (.c (.int .i64 1))) <|
 .m 1 5 .done) K37_4
@[simp] def W37_5 := C.w K37_5.eq_1
def K37_6 : C := .seq (.pl <| .e 4 5 <|
 .m 4 0 <|
 .m 5 3 <|
 .m 6 1 <|
 .x 7 (.ia 4 (.v 4) (.v 5)) <|
 .x 8 (.fa 2 (.v 7)) <|
 .o (.ex none (.store 1 (.v 8) (.v 6))) .done) K37_5
@[simp] def W37_6 := C.w K37_6.eq_1
def K37_7 : C := .seq (.pl <| .e 4 2 <|
 .m 4 1 <|
 .x 5 (.bin .add (.v 4) (.c (.int .i64 1))) <|
 .m 1 5 .done) K37_6
@[simp] def W37_7 := C.w K37_7.eq_1
def K37_8 : C := .seq (.pl <| .e 4 5 <|
 .m 4 0 <|
 .m 5 3 <|
 .m 6 1 <|
 .x 7 (.ia 4 (.v 4) (.v 5)) <|
 .x 8 (.fa 1 (.v 7)) <|
 .o (.ex none (.store 1 (.v 8) (.v 6))) .done) K37_7
@[simp] def W37_8 := C.w K37_8.eq_1
def K37_9 : C := .seq (.pl <| .e 4 2 <|
 .m 4 1 <|
 .x 5 (.bin .add (.v 4) (.c (.int .i64 1))) <|
 .m 1 5 .done) K37_8
@[simp] def W37_9 := C.w K37_9.eq_1
def K37_10 : C := .seq (.block 1 (.seq (.pl <| .e 4 5 <|
 .m 4 0 <|
 .m 5 3 <|
 .m 6 1 <|
 .x 7 (.ia 4 (.v 4) (.v 5)) <|
 .x 8 (.fa 0 (.v 7)) <|
 .o (.ex none (.store 1 (.v 8) (.v 6))) .done) K37_9)) K37_2
@[simp] def W37_10 := C.w K37_10.eq_1
def K37_11 : C := .cond 4 (.v 7) (.skip) (.exit 0)
@[simp] def W37_11 := C.w K37_11.eq_1
def K37_12 : C := .seq (.seq (.pl <| .e 4 4 <|
 .m 4 3 <|
 .m 5 0 <|
 .x 6 (.lenV (.v 5)) <|
 .x 7 (.bin .lss (.v 4) (.v 6)) .done) K37_11) K37_10
@[simp] def W37_12 := C.w K37_12.eq_1
def K37_13 : C := .block 0 (.loop 4 [2] K37_12)
@[simp] def W37_13 := C.w K37_13.eq_1
def K37_14 : C := .seq (.seq (.pl <| .e 4 0 <|
 .x 3 (.mv (.c (.int .i64 0))) .done) K37_13) K37_1
@[simp] def W37_14 := C.w K37_14.eq_1
def B_laws_markTransitionS : C := .seq (.pl <| .e 4 0 <|
 .x 2 (.mv (.c (.int .i64 0))) .done) K37_14
@[simp] def WB_laws_markTransitionS := C.w B_laws_markTransitionS.eq_1
def R_laws_markTransitionS : FIR := ⟨B_laws_markTransitionS, 4, [(2, none)]⟩
theorem IR_laws_markTransitionS : cfun Try.prog H_laws_markTransitionS Try.f37 = some R_laws_markTransitionS := by kernel_rfl
theorem EN_laws_markTransitionS : ENT Try.prog B_laws_markTransitionS [(2, none)] 2 4 fn_laws_markTransitionS := fun hargs hw => enter Try.func37 rfl IR_laws_markTransitionS hargs hw
def H_laws_szFormula : Hint := ⟨[(0, false), (1, false), (2, true), (4, false)], []⟩
def K4_1 : C := .seq (.pl <| .e 4 1 <|
 .m 4 1 <|
 .m 3 4 .done) (.ret)
@[simp] def W4_1 := C.w K4_1.eq_1
def K4_2 : C := .seq (.pl <| .e 4 0 <|
 .x 3 (.mv (.c (.int .i64 (-1)))) .done) (.ret)
@[simp] def W4_2 := C.w K4_2.eq_1
def K4_3 : C := .cond 4 (.v 5) K4_2 (.skip)
@[simp] def W4_3 := C.w K4_3.eq_1
def K4_4 : C := .seq (.seq (.pl <| .e 4 2 <|
 .m 4 1 <|
 .x 5 (.bin .lss (.v 4) (.c (.int .i64 0))) .done) K4_3) K4_1
@[simp] def W4_4 := C.w K4_4.eq_1
def K4_5 : Pl := .m 1 7 .done
@[simp] def W4_5 := Pl.w K4_5.eq_1
def K4_6 : C := .seq (.pl <| .e 4 4 <|
 .a 4 2 <|
 .g 5 4 2 2 <|
 .m 6 1 <|
 .c 7 (.call fn_laws_szFormulaS [.v 5, .v 6]) K4_5) K4_4
@[simp] def W4_6 := C.w K4_6.eq_1
def B_laws_szFormula : C := .seq (.pl <| .e 4 0 <|
 .o (.pnew 2 (.v 0) []) <|
 .x 3 (.mv (.c (.int .i64 0))) .done) K4_6
@[simp] def WB_laws_szFormula := C.w B_laws_szFormula.eq_1
def R_laws_szFormula : FIR := ⟨B_laws_szFormula, 4, [(3, none)]⟩
theorem IR_laws_szFormula : cfun Try.prog H_laws_szFormula Try.f4 = some R_laws_szFormula := by kernel_rfl
theorem EN_laws_szFormula : ENT Try.prog B_laws_szFormula [(3, none)] 2 4 fn_laws_szFormula := fun hargs hw => enter Try.func4 rfl IR_laws_szFormula hargs hw
def H_laws_szFormulaS : Hint := ⟨[(0, false), (1, false), (4, false), (5, false)], [[2]]⟩
def K13_1 : C := .seq (.pl <| .e 4 1 <|
 .m 4 1 <|
 .m 2 4 .done) (.ret)
@[simp] def W13_1 := C.w K13_1.eq_1
def K13_2 : C := .pl <| .e 4 2 <|
 .m 4 3 <|
 .x 5 (.bin .add (.v 4) (.c (.int .i64 1))) <|
 .m 3 5 .done
@[simp] def W13_2 := C.w K13_2.eq_1
def K13_3 : C := .seq (.pl <| .e 4 0 <|
 .x 2 (.mv (.c (.int .i64 (-1)))) .done) (.ret)
@[simp] def W13_3 := C.w K13_3.eq_1
def K13_4 : C := .cond 4 (.v 5) K13_3 (.skip)
@[simp] def W13_4 := C.w K13_4.eq_1
def K13_5 : C := .seq (.pl <| .e 4 2 <|
 .m 4 1 <|
 .x 5 (.bin .lss (.v 4) (.c (.int .i64 0))) .done) K13_4
@[simp] def W13_5 := C.w K13_5.eq_1
def K13_6 : Pl := .m 1 9 .done
@[simp] def W13_6 := Pl.w K13_6.eq_1
def K13_7 : C := .seq (.block 1 (.seq (.pl <| .e 4 6 <|
 .m 4 0 <|
 .m 5 3 <|
 .x 6 (.ia 3 (.v 4) (.v 5)) <|
 .o (.ld (some 7) (.v 6) (some 3)) <|
 .m 8 1 <|
 .c 9 (.call fn_laws_szFormula [.v 7, .v 8]) K13_6) K13_5)) K13_2
@[simp] def W13_7 := C.w K13_7.eq_1
def K13_8 : C := .cond 4 (.v 7) (.skip) (.exit 0)
@[simp] def W13_8 := C.w K13_8.eq_1
def K13_9 : C := .seq (.seq (.pl <| .e 4 4 <|
 .m 4 3 <|
 .m 5 0 <|
 .x 6 (.lenV (.v 5)) <|
 .x 7 (.bin .lss (.v 4) (.v 6)) .done) K13_8) K13_7
@[simp] def W13_9 := C.w K13_9.eq_1
def K13_10 : C := .block 0 (.loop 4 [2] K13_9)
@[simp] def W13_10 := C.w K13_10.eq_1
def K13_11 : C := .seq (.seq (.pl <| .e 4 0 <|
 .x 3 (.mv (.c (.int .i64 0))) .done) K13_10) K13_1
@[simp] def W13_11 := C.w K13_11.eq_1
def K13_12 : C := .seq (.pl <| .e 4 0 <|
 .x 2 (.mv (.c (.int .i64 (-1)))) .done) (.ret)
@[simp] def W13_12 := C.w K13_12.eq_1
def K13_13 : C := .cond 4 (.v 5) K13_12 (.skip)
@[simp] def W13_13 := C.w K13_13.eq_1
def K13_14 : C := .seq (.seq (.pl <| .e 4 2 <|
 .m 4 1 <|
 .x 5 (.bin .lss (.v 4) (.c (.int .i64 0))) .done) K13_13) K13_11
@[simp] def W13_14 := C.w K13_14.eq_1
def K13_15 : C := .seq (.pl <| .e 4 4 <|
 .m 4 1 <|
 .m 5 0 <|
 .x 6 (.lenV (.v 5)) <|
 .x 7 (.bin .sub (.v 4) (.v 6)) <|
 .m 1 7 .done) K13_14
@[simp] def W13_15 := C.w K13_15.eq_1
def B_laws_szFormulaS : C := .seq (.pl <| .e 4 0 <|
 .x 2 (.mv (.c (.int .i64 0))) .done) K13_15
@[simp] def WB_laws_szFormulaS := C.w B_laws_szFormulaS.eq_1
def R_laws_szFormulaS : FIR := ⟨B_laws_szFormulaS, 4, [(2, none)]⟩
theorem IR_laws_szFormulaS : cfun Try.prog H_laws_szFormulaS Try.f13 = some R_laws_szFormulaS := by kernel_rfl
theorem EN_laws_szFormulaS : ENT Try.prog B_laws_szFormulaS [(2, none)] 2 4 fn_laws_szFormulaS := fun hargs hw => enter Try.func13 rfl IR_laws_szFormulaS hargs hw
def H_laws_toFormula : Hint := ⟨[(0, false), (1, true), (2, true), (3, true)], []⟩
def K6_1 : C := .seq (.pl <| .e 4 1 <|
 .o (.pget (some 4) none 3 0 (some 3)) <|
 .o (.pset none 2 0 3 (.v 4)) .done) (.ret)
@[simp] def W6_1 := C.w K6_1.eq_1
def K6_2 : Pl := .a 7 3 <|
 .o (.pset (some 7) 3 2 1 (.v 6)) .done
@[simp] def W6_2 := Pl.w K6_2.eq_1
def K6_3 : C := .seq (.pl <| .e 4 4 <|
 .a 4 1 <|
 .g 5 4 1 2 <|
 .c 6 (.call fn_laws_toFormulaS [.v 5]) K6_2) K6_1
@[simp] def W6_3 := C.w K6_3.eq_1
def K6_4 : C := .seq (.pl <| .e 4 3 <|
 .a 4 1 <|
 .g 5 4 1 1 <|
 .a 6 3 <|
 .o (.pset (some 6) 3 1 1 (.v 5)) .done) K6_3
@[simp] def W6_4 := C.w K6_4.eq_1
def K6_5 : C := .seq (.pl <| .e 4 3 <|
 .a 4 1 <|
 .g 5 4 1 0 <|
 .a 6 3 <|
 .o (.pset (some 6) 3 0 1 (.v 5)) .done) K6_4
@[simp] def W6_5 := C.w K6_5.eq_1
def K6_6 : C := .seq (.pl <| .e 4 0 <|
 .o (.pnew 3 (.c (.agg #[.int .i64 0, .int .i64 0, .slice none 0 0])) []) .done) K6_5
@[simp] def W6_6 := C.w K6_6.eq_1
def B_laws_toFormula : C := .seq (.pl <| .e 4 0 <|
 .o (.pnew 1 (.v 0) []) <|
 .o (.pnew 2 (.c (.agg #[.int .i64 0, .int .i64 0, .slice none 0 0])) []) .done) K6_6
@[simp] def WB_laws_toFormula := C.w B_laws_toFormula.eq_1
def R_laws_toFormula : FIR := ⟨B_laws_toFormula, 4, [(2, some (some 3))]⟩
theorem IR_laws_toFormula : cfun Try.prog H_laws_toFormula Try.f6 = some R_laws_toFormula := by kernel_rfl
theorem EN_laws_toFormula : ENT Try.prog B_laws_toFormula [(2, some (some 3))] 1 4 fn_laws_toFormula := fun hargs hw => enter Try.func6 rfl IR_laws_toFormula hargs hw
def H_laws_toFormulaS : Hint := ⟨[(0, false), (2, false), (3, false), (4, false)], [[1]]⟩
def K22_1 : C := .seq (.pl <| .e 4 1 <|
 .m 4 2 <|
 .m 1 4 .done) (.ret)
@[simp] def W22_1 := C.w K22_1.eq_1
def K22_2 : C := .pl <| .e 4 2 <|
 .m 4 3 <|
 .x 5 (.bin .add (.v 4) (.c (.int .i64 1))) <|
 .m 3 5 .done
@[simp] def W22_2 := C.w K22_2.eq_1
def K22_3 : Pl := .x 11 (.ia 3 (.v 4) (.v 5)) <|
 .o (.ex none (.store 3 (.v 11) (.v 10))) .done
@[simp] def W22_3 := Pl.w K22_3.eq_1
def K22_4 : C := .seq (.block 1 (.pl <| .e 4 8 <|
 .m 4 2 <|
 .m 5 3 <|
 .m 6 0 <|
 .m 7 3 <|
 .x 8 (.ia 3 (.v 6) (.v 7)) <|
 .o (.ld (some 9) (.v 8) (some 3)) <|
 .c 10 (.call fn_laws_toFormula [.v 9]) K22_3)) K22_2
@[simp] def W22_4 := C.w K22_4.eq_1
def K22_5 : C := .cond 4 (.v 7) (.skip) (.exit 0)
@[simp] def W22_5 := C.w K22_5.eq_1
def K22_6 : C := .seq (.seq (.pl <| .e 4 4 <|
 .m 4 3 <|
 .m 5 0 <|
 .x 6 (.lenV (.v 5)) <|
 .x 7 (.bin .lss (.v 4) (.v 6)) .done) K22_5) K22_4
@[simp] def W22_6 := C.w K22_6.eq_1
def K22_7 : C := .block 0 (.loop 4 [1] K22_6)
@[simp] def W22_7 := C.w K22_7.eq_1
def K22_8 : C := .seq (.seq (.pl <| .e 4 0 <|
 .x 3 (.mv (.c (.int .i64 0))) .done) K22_7) K22_1
@[simp] def W22_8 := C.w K22_8.eq_1
def K22_9 : Pl := .m 2 6 .done
@[simp] def W22_9 := Pl.w K22_9.eq_1
def K22_10 : C := .seq (.pl <| .e 4 3 <|
 .m 4 0 <|
 .x 5 (.lenV (.v 4)) <|
 .c 6 (.mks 40 3 [.int .i64 0, .int .i64 0, .slice none 0 0] (.v 5) (.v 5)) K22_9) K22_8
@[simp] def W22_10 := C.w K22_10.eq_1
def B_laws_toFormulaS : C := .seq (.pl <| .e 4 0 <|
 .x 1 (.mv (.c (.slice none 0 0))) .done) K22_10
@[simp] def WB_laws_toFormulaS := C.w B_laws_toFormulaS.eq_1
def R_laws_toFormulaS : FIR := ⟨B_laws_toFormulaS, 4, [(1, none)]⟩
theorem IR_laws_toFormulaS : cfun Try.prog H_laws_toFormulaS Try.f22 = some R_laws_toFormulaS := by kernel_rfl
theorem EN_laws_toFormulaS : ENT Try.prog B_laws_toFormulaS [(1, none)] 1 4 fn_laws_toFormulaS := fun hargs hw => enter Try.func22 rfl IR_laws_toFormulaS hargs hw
def H_slices_Clip_S_bool_bool : Hint := ⟨[(0, false), (2, false)], []⟩
def K90_1 : C := .seq (.pl <| .e 2 6 <|
 .m 2 0 <|
 .m 3 0 <|
 .x 4 (.lenV (.v 3)) <|
 .m 5 0 <|
 .x 6 (.lenV (.v 5)) <|
 .x 7 (.sliceV 1 (.v 2) none (some (.v 4)) (some (.v 6))) <|
 .m 1 7 .done) (.ret)
@[simp] def W90_1 := C.w K90_1.eq_1
def B_slices_Clip_S_bool_bool : C := .seq (.pl <| .e 2 0 <|
 .x 1 (.mv (.c (.slice none 0 0))) .done) K90_1
@[simp] def WB_slices_Clip_S_bool_bool := C.w B_slices_Clip_S_bool_bool.eq_1
def R_slices_Clip_S_bool_bool : FIR := ⟨B_slices_Clip_S_bool_bool, 2, [(1, none)]⟩
theorem IR_slices_Clip_S_bool_bool : cfun Try.prog H_slices_Clip_S_bool_bool Try.f90 = some R_slices_Clip_S_bool_bool := by kernel_rfl
theorem EN_slices_Clip_S_bool_bool : ENT Try.prog B_slices_Clip_S_bool_bool [(1, none)] 1 2 fn_slices_Clip_S_bool_bool := fun hargs hw => enter Try.func90 rfl IR_slices_Clip_S_bool_bool hargs hw
def H_slices_Clip_S_impl_Formula_impl_Formula : Hint := ⟨[(0, false), (2, false)], []⟩
def K67_1 : C := .seq (.pl <| .e 2 6 <|
 .m 2 0 <|
 .m 3 0 <|
 .x 4 (.lenV (.v 3)) <|
 .m 5 0 <|
 .x 6 (.lenV (.v 5)) <|
 .x 7 (.sliceV 3 (.v 2) none (some (.v 4)) (some (.v 6))) <|
 .m 1 7 .done) (.ret)
@[simp] def W67_1 := C.w K67_1.eq_1
def B_slices_Clip_S_impl_Formula_impl_Formula : C := .seq (.pl <| .e 2 0 <|
 .x 1 (.mv (.c (.slice none 0 0))) .done) K67_1
@[simp] def WB_slices_Clip_S_impl_Formula_impl_Formula := C.w B_slices_Clip_S_impl_Formula_impl_Formula.eq_1
def R_slices_Clip_S_impl_Formula_impl_Formula : FIR := ⟨B_slices_Clip_S_impl_Formula_impl_Formula, 2, [(1, none)]⟩
theorem IR_slices_Clip_S_impl_Formula_impl_Formula : cfun Try.prog H_slices_Clip_S_impl_Formula_impl_Formula Try.f67 = some R_slices_Clip_S_impl_Formula_impl_Formula := by kernel_rfl
theorem EN_slices_Clip_S_impl_Formula_impl_Formula : ENT Try.prog B_slices_Clip_S_impl_Formula_impl_Formula [(1, none)] 1 2 fn_slices_Clip_S_impl_Formula_impl_Formula := fun hargs hw => enter Try.func67 rfl IR_slices_Clip_S_impl_Formula_impl_Formula hargs hw
def H_slices_Clip_S_impl_Transition_impl_Transition : Hint := ⟨[(0, false), (2, false)], []⟩
def K92_1 : C := .seq (.pl <| .e 2 6 <|
 .m 2 0 <|
 .m 3 0 <|
 .x 4 (.lenV (.v 3)) <|
 .m 5 0 <|
 .x 6 (.lenV (.v 5)) <|
 .x 7 (.sliceV 4 (.v 2) none (some (.v 4)) (some (.v 6))) <|
 .m 1 7 .done) (.ret)
@[simp] def W92_1 := C.w K92_1.eq_1
def B_slices_Clip_S_impl_Transition_impl_Transition : C := .seq (.pl <| .e 2 0 <|
 .x 1 (.mv (.c (.slice none 0 0))) .done) K92_1
@[simp] def WB_slices_Clip_S_impl_Transition_impl_Transition := C.w B_slices_Clip_S_impl_Transition_impl_Transition.eq_1
def R_slices_Clip_S_impl_Transition_impl_Transition : FIR := ⟨B_slices_Clip_S_impl_Transition_impl_Transition, 2, [(1, none)]⟩
theorem IR_slices_Clip_S_impl_Transition_impl_Transition : cfun Try.prog H_slices_Clip_S_impl_Transition_impl_Transition Try.f92 = some R_slices_Clip_S_impl_Transition_impl_Transition := by kernel_rfl
theorem EN_slices_Clip_S_impl_Transition_impl_Transition : ENT Try.prog B_slices_Clip_S_impl_Transition_impl_Transition [(1, none)] 1 2 fn_slices_Clip_S_impl_Transition_impl_Transition := fun hargs hw => enter Try.func92 rfl IR_slices_Clip_S_impl_Transition_impl_Transition hargs hw
def H_slices_Clip_S_int_int : Hint := ⟨[(0, false), (2, false)], []⟩
def K88_1 : C := .seq (.pl <| .e 2 6 <|
 .m 2 0 <|
 .m 3 0 <|
 .x 4 (.lenV (.v 3)) <|
 .m 5 0 <|
 .x 6 (.lenV (.v 5)) <|
 .x 7 (.sliceV 1 (.v 2) none (some (.v 4)) (some (.v 6))) <|
 .m 1 7 .done) (.ret)
@[simp] def W88_1 := C.w K88_1.eq_1
def B_slices_Clip_S_int_int : C := .seq (.pl <| .e 2 0 <|
 .x 1 (.mv (.c (.slice none 0 0))) .done) K88_1
@[simp] def WB_slices_Clip_S_int_int := C.w B_slices_Clip_S_int_int.eq_1
def R_slices_Clip_S_int_int : FIR := ⟨B_slices_Clip_S_int_int, 2, [(1, none)]⟩
theorem IR_slices_Clip_S_int_int : cfun Try.prog H_slices_Clip_S_int_int Try.f88 = some R_slices_Clip_S_int_int := by kernel_rfl
theorem EN_slices_Clip_S_int_int : ENT Try.prog B_slices_Clip_S_int_int [(1, none)] 1 2 fn_slices_Clip_S_int_int := fun hargs hw => enter Try.func88 rfl IR_slices_Clip_S_int_int hargs hw
def H_slices_Clone_S_bool_bool : Hint := ⟨[(0, false), (2, false)], []⟩
def K91_1 : Pl := .m 1 4 .done
@[simp] def W91_1 := Pl.w K91_1.eq_1
def K91_2 : C := .seq (.pl <| .e 2 3 <|
 .o (.psl 2 [] []) <|
 .m 3 0 <|
 .c 4 (.app 1 1 [.bool false] (.p 0 2) (.o (.v 3))) K91_1) (.ret)
@[simp] def W91_2 := C.w K91_2.eq_1
def K91_3 : C := .seq (.pl <| .e 2 0 <|
 .x 1 (.mv (.c (.slice none 0 0))) .done) (.ret)
@[simp] def W91_3 := C.w K91_3.eq_1
def K91_4 : C := .cond 2 (.v 3) K91_3 (.skip)
@[simp] def W91_4 := C.w K91_4.eq_1
def K91_5 : C := .seq (.seq (.pl <| .e 2 2 <|
 .m 2 0 <|
 .x 3 (.isNil false (.v 2)) .done) K91_4) K91_2
@[simp] def W91_5 := C.w K91_5.eq_1
def B_slices_Clone_S_bool_bool : C := .seq (.pl <| .e 2 0 <|
 .x 1 (.mv (.c (.slice none 0 0))) .done) K91_5
@[simp] def WB_slices_Clone_S_bool_bool := C.w B_slices_Clone_S_bool_bool.eq_1
def R_slices_Clone_S_bool_bool : FIR := ⟨B_slices_Clone_S_bool_bool, 2, [(1, none)]⟩
theorem IR_slices_Clone_S_bool_bool : cfun Try.prog H_slices_Clone_S_bool_bool Try.f91 = some R_slices_Clone_S_bool_bool := by kernel_rfl
theorem EN_slices_Clone_S_bool_bool : ENT Try.prog B_slices_Clone_S_bool_bool [(1, none)] 1 2 fn_slices_Clone_S_bool_bool := fun hargs hw => enter Try.func91 rfl IR_slices_Clone_S_bool_bool hargs hw
def H_slices_Clone_S_impl_Formula_impl_Formula : Hint := ⟨[(0, false), (2, false)], []⟩
def K94_1 : Pl := .m 1 4 .done
@[simp] def W94_1 := Pl.w K94_1.eq_1
def K94_2 : C := .seq (.pl <| .e 2 3 <|
 .o (.psl 2 [] []) <|
 .m 3 0 <|
 .c 4 (.app 40 3 [.int .i64 0, .int .i64 0, .slice none 0 0] (.p 0 2) (.o (.v 3))) K94_1) (.ret)
@[simp] def W94_2 := C.w K94_2.eq_1
def K94_3 : C := .seq (.pl <| .e 2 0 <|
 .x 1 (.mv (.c (.slice none 0 0))) .done) (.ret)
@[simp] def W94_3 := C.w K94_3.eq_1
def K94_4 : C := .cond 2 (.v 3) K94_3 (.skip)
@[simp] def W94_4 := C.w K94_4.eq_1
def K94_5 : C := .seq (.seq (.pl <| .e 2 2 <|
 .m 2 0 <|
 .x 3 (.isNil false (.v 2)) .done) K94_4) K94_2
@[simp] def W94_5 := C.w K94_5.eq_1
def B_slices_Clone_S_impl_Formula_impl_Formula : C := .seq (.pl <| .e 2 0 <|
 .x 1 (.mv (.c (.slice none 0 0))) .done) K94_5
@[simp] def WB_slices_Clone_S_impl_Formula_impl_Formula := C.w B_slices_Clone_S_impl_Formula_impl_Formula.eq_1
def R_slices_Clone_S_impl_Formula_impl_Formula : FIR := ⟨B_slices_Clone_S_impl_Formula_impl_Formula, 2, [(1, none)]⟩
theorem IR_slices_Clone_S_impl_Formula_impl_Formula : cfun Try.prog H_slices_Clone_S_impl_Formula_impl_Formula Try.f94 = some R_slices_Clone_S_impl_Formula_impl_Formula := by kernel_rfl
theorem EN_slices_Clone_S_impl_Formula_impl_Formula : ENT Try.prog B_slices_Clone_S_impl_Formula_impl_Formula [(1, none)] 1 2 fn_slices_Clone_S_impl_Formula_impl_Formula := fun hargs hw => enter Try.func94 rfl IR_slices_Clone_S_impl_Formula_impl_Formula hargs hw
def H_slices_Clone_S_impl_Transition_impl_Transition : Hint := ⟨[(0, false), (2, false)], []⟩
def K93_1 : Pl := .m 1 4 .done
@[simp] def W93_1 := Pl.w K93_1.eq_1
def K93_2 : C := .seq (.pl <| .e 2 3 <|
 .o (.psl 2 [] []) <|
 .m 3 0 <|
 .c 4 (.app 32 4 [.int .i64 0, .int .i64 0, .int .i64 0, .int .i64 0] (.p 0 2) (.o (.v 3))) K93_1) (.ret)
@[simp] def W93_2 := C.w K93_2.eq_1
def K93_3 : C := .seq (.pl <| .e 2 0 <|
 .x 1 (.mv (.c (.slice none 0 0))) .done) (.ret)
@[simp] def W93_3 := C.w K93_3.eq_1
def K93_4 : C := .cond 2 (.v 3) K93_3 (.skip)
@[simp] def W93_4 := C.w K93_4.eq_1
def K93_5 : C := .seq (.seq (.pl <| .e 2 2 <|
 .m 2 0 <|
 .x 3 (.isNil false (.v 2)) .done) K93_4) K93_2
@[simp] def W93_5 := C.w K93_5.eq_1
def B_slices_Clone_S_impl_Transition_impl_Transition : C := .seq (.pl <| .e 2 0 <|
 .x 1 (.mv (.c (.slice none 0 0))) .done) K93_5
@[simp] def WB_slices_Clone_S_impl_Transition_impl_Transition := C.w B_slices_Clone_S_impl_Transition_impl_Transition.eq_1
def R_slices_Clone_S_impl_Transition_impl_Transition : FIR := ⟨B_slices_Clone_S_impl_Transition_impl_Transition, 2, [(1, none)]⟩
theorem IR_slices_Clone_S_impl_Transition_impl_Transition : cfun Try.prog H_slices_Clone_S_impl_Transition_impl_Transition Try.f93 = some R_slices_Clone_S_impl_Transition_impl_Transition := by kernel_rfl
theorem EN_slices_Clone_S_impl_Transition_impl_Transition : ENT Try.prog B_slices_Clone_S_impl_Transition_impl_Transition [(1, none)] 1 2 fn_slices_Clone_S_impl_Transition_impl_Transition := fun hargs hw => enter Try.func93 rfl IR_slices_Clone_S_impl_Transition_impl_Transition hargs hw
def H_slices_Clone_S_int_int : Hint := ⟨[(0, false), (2, false)], []⟩
def K89_1 : Pl := .m 1 4 .done
@[simp] def W89_1 := Pl.w K89_1.eq_1
def K89_2 : C := .seq (.pl <| .e 2 3 <|
 .o (.psl 2 [] []) <|
 .m 3 0 <|
 .c 4 (.app 8 1 [.int .i64 0] (.p 0 2) (.o (.v 3))) K89_1) (.ret)
@[simp] def W89_2 := C.w K89_2.eq_1
def K89_3 : C := .seq (.pl <| .e 2 0 <|
 .x 1 (.mv (.c (.slice none 0 0))) .done) (.ret)
@[simp] def W89_3 := C.w K89_3.eq_1
def K89_4 : C := .cond 2 (.v 3) K89_3 (.skip)
@[simp] def W89_4 := C.w K89_4.eq_1
def K89_5 : C := .seq (.seq (.pl <| .e 2 2 <|
 .m 2 0 <|
 .x 3 (.isNil false (.v 2)) .done) K89_4) K89_2
@[simp] def W89_5 := C.w K89_5.eq_1
def B_slices_Clone_S_int_int : C := .seq (.pl <| .e 2 0 <|
 .x 1 (.mv (.c (.slice none 0 0))) .done) K89_5
@[simp] def WB_slices_Clone_S_int_int := C.w B_slices_Clone_S_int_int.eq_1
def R_slices_Clone_S_int_int : FIR := ⟨B_slices_Clone_S_int_int, 2, [(1, none)]⟩
theorem IR_slices_Clone_S_int_int : cfun Try.prog H_slices_Clone_S_int_int Try.f89 = some R_slices_Clone_S_int_int := by kernel_rfl
theorem EN_slices_Clone_S_int_int : ENT Try.prog B_slices_Clone_S_int_int [(1, none)] 1 2 fn_slices_Clone_S_int_int := fun hargs hw => enter Try.func89 rfl IR_slices_Clone_S_int_int hargs hw
def H_slices_ContainsFunc_S_impl_Formula_impl_Formula : Hint := ⟨[(0, false), (1, false), (4, false)], []⟩
def K96_1 : Pl := .x 6 (.bin .geq (.v 5) (.c (.int .i64 0))) <|
 .m 2 6 .done
@[simp] def W96_1 := Pl.w K96_1.eq_1
def K96_2 : C := .seq (.pl <| .e 3 4 <|
 .m 3 0 <|
 .m 4 1 <|
 .c 5 (.call fn_slices_IndexFunc_S_impl_Formula_impl_Formula [.v 3, .v 4]) K96_1) (.ret)
@[simp] def W96_2 := C.w K96_2.eq_1
def B_slices_ContainsFunc_S_impl_Formula_impl_Formula : C := .seq (.pl <| .e 3 0 <|
 .x 2 (.mv (.c (.bool false))) .done) K96_2
@[simp] def WB_slices_ContainsFunc_S_impl_Formula_impl_Formula := C.w B_slices_ContainsFunc_S_impl_Formula_impl_Formula.eq_1
def R_slices_ContainsFunc_S_impl_Formula_impl_Formula : FIR := ⟨B_slices_ContainsFunc_S_impl_Formula_impl_Formula, 3, [(2, none)]⟩
theorem IR_slices_ContainsFunc_S_impl_Formula_impl_Formula : cfun Try.prog H_slices_ContainsFunc_S_impl_Formula_impl_Formula Try.f96 = some R_slices_ContainsFunc_S_impl_Formula_impl_Formula := by kernel_rfl
theorem EN_slices_ContainsFunc_S_impl_Formula_impl_Formula : ENT Try.prog B_slices_ContainsFunc_S_impl_Formula_impl_Formula [(2, none)] 2 3 fn_slices_ContainsFunc_S_impl_Formula_impl_Formula := fun hargs hw => enter Try.func96 rfl IR_slices_ContainsFunc_S_impl_Formula_impl_Formula hargs hw
def H_slices_ContainsFunc_S_impl_Transition_impl_Transition : Hint := ⟨[(0, false), (1, false), (4, false)], []⟩
def K76_1 : Pl := .x 6 (.bin .geq (.v 5) (.c (.int .i64 0))) <|
 .m 2 6 .done
@[simp] def W76_1 := Pl.w K76_1.eq_1
def K76_2 : C := .seq (.pl <| .e 3 4 <|
 .m 3 0 <|
 .m 4 1 <|
 .c 5 (.call fn_slices_IndexFunc_S_impl_Transition_impl_Transition [.v 3, .v 4]) K76_1) (.ret)
@[simp] def W76_2 := C.w K76_2.eq_1
def B_slices_ContainsFunc_S_impl_Transition_impl_Transition : C := .seq (.pl <| .e 3 0 <|
 .x 2 (.mv (.c (.bool false))) .done) K76_2
@[simp] def WB_slices_ContainsFunc_S_impl_Transition_impl_Transition := C.w B_slices_ContainsFunc_S_impl_Transition_impl_Transition.eq_1
def R_slices_ContainsFunc_S_impl_Transition_impl_Transition : FIR := ⟨B_slices_ContainsFunc_S_impl_Transition_impl_Transition, 3, [(2, none)]⟩
theorem IR_slices_ContainsFunc_S_impl_Transition_impl_Transition : cfun Try.prog H_slices_ContainsFunc_S_impl_Transition_impl_Transition Try.f76 = some R_slices_ContainsFunc_S_impl_Transition_impl_Transition := by kernel_rfl
theorem EN_slices_ContainsFunc_S_impl_Transition_impl_Transition : ENT Try.prog B_slices_ContainsFunc_S_impl_Transition_impl_Transition [(2, none)] 2 3 fn_slices_ContainsFunc_S_impl_Transition_impl_Transition := fun hargs hw => enter Try.func76 rfl IR_slices_ContainsFunc_S_impl_Transition_impl_Transition hargs hw
def H_slices_EqualFunc_S_impl_Formula_S_impl_Formula_impl_Formula_impl_Formula : Hint := ⟨[(0, false), (1, false), (2, false), (6, false), (7, false), (8, true), (9, true), (15, false), (16, false), (17, false)], [[0, 3, 4, 5, 6]]⟩
def K86_1 : C := .seq (.pl <| .e 10 0 <|
 .x 3 (.mv (.c (.bool true))) .done) (.ret)
@[simp] def W86_1 := C.w K86_1.eq_1
def K86_2 : C := .pl <| .e 10 1 <|
 .x 10 (.bin .add (.v 9) (.c (.int .i64 1))) <|
 .m 9 10 .done
@[simp] def W86_2 := C.w K86_2.eq_1
def K86_3 : C := .seq (.pl <| .e 10 0 <|
 .x 3 (.mv (.c (.bool false))) .done) (.ret)
@[simp] def W86_3 := C.w K86_3.eq_1
def K86_4 : C := .cond 10 (.v 14) K86_3 (.skip)
@[simp] def W86_4 := C.w K86_4.eq_1
def K86_5 : Pl := .x 14 (.un .not (.v 13)) .done
@[simp] def W86_5 := Pl.w K86_5.eq_1
def K86_6 : C := .seq (.pl <| .e 10 5 <|
 .m 10 2 <|
 .o (.pget (some 11) none 5 0 (some 3)) <|
 .o (.pget (some 12) none 6 0 (some 3)) <|
 .c 13 (.callv (.v 10) [.v 11, .v 12]) K86_5) K86_4
@[simp] def W86_6 := C.w K86_6.eq_1
def K86_7 : C := .seq (.pl <| .e 10 4 <|
 .m 10 1 <|
 .m 11 4 <|
 .x 12 (.ia 3 (.v 10) (.v 11)) <|
 .o (.ld (some 13) (.v 12) (some 3)) <|
 .o (.pnew 6 (.c (.agg #[.int .i64 0, .int .i64 0, .slice none 0 0])) []) <|
 .o (.pset none 6 0 3 (.v 13)) .done) K86_6
@[simp] def W86_7 := C.w K86_7.eq_1
def K86_8 : C := .seq (.block 1 (.seq (.pl <| .e 10 3 <|
 .m 10 9 <|
 .x 11 (.ia 3 (.v 7) (.v 9)) <|
 .o (.ld (some 12) (.v 11) (some 3)) <|
 .o (.pnew 5 (.c (.agg #[.int .i64 0, .int .i64 0, .slice none 0 0])) []) <|
 .m 4 10 <|
 .o (.pset none 5 0 3 (.v 12)) .done) K86_7)) K86_2
@[simp] def W86_8 := C.w K86_8.eq_1
def K86_9 : C := .seq (.cond 10 (.v 10) (.skip) (.exit 0)) K86_8
@[simp] def W86_9 := C.w K86_9.eq_1
def K86_10 : C := .seq (.pl <| .e 10 1 <|
 .x 10 (.bin .lss (.v 9) (.v 8)) .done) K86_9
@[simp] def W86_10 := C.w K86_10.eq_1
def K86_11 : C := .block 0 (.loop 10 [0, 3, 4, 5, 6] K86_10)
@[simp] def W86_11 := C.w K86_11.eq_1
def K86_12 : C := .seq (.seq (.pl <| .e 10 0 <|
 .m 7 0 <|
 .x 8 (.lenV (.v 7)) <|
 .x 9 (.mv (.c (.int .i64 0))) .done) K86_11) K86_1
@[simp] def W86_12 := C.w K86_12.eq_1
def K86_13 : C := .seq (.pl <| .e 10 0 <|
 .x 3 (.mv (.c (.bool false))) .done) (.ret)
@[simp] def W86_13 := C.w K86_13.eq_1
def K86_14 : C := .cond 10 (.v 14) K86_13 (.skip)
@[simp] def W86_14 := C.w K86_14.eq_1
def K86_15 : C := .seq (.seq (.pl <| .e 10 5 <|
 .m 10 0 <|
 .x 11 (.lenV (.v 10)) <|
 .m 12 1 <|
 .x 13 (.lenV (.v 12)) <|
 .x 14 (.bin .neq (.v 11) (.v 13)) .done) K86_14) K86_12
@[simp] def W86_15 := C.w K86_15.eq_1
def B_slices_EqualFunc_S_impl_Formula_S_impl_Formula_impl_Formula_impl_Formula : C := .seq (.pl <| .e 10 0 <|
 .x 3 (.mv (.c (.bool false))) .done) K86_15
@[simp] def WB_slices_EqualFunc_S_impl_Formula_S_impl_Formula_impl_Formula_impl_Formula := C.w B_slices_EqualFunc_S_impl_Formula_S_impl_Formula_impl_Formula_impl_Formula.eq_1
def R_slices_EqualFunc_S_impl_Formula_S_impl_Formula_impl_Formula_impl_Formula : FIR := ⟨B_slices_EqualFunc_S_impl_Formula_S_impl_Formula_impl_Formula_impl_Formula, 10, [(3, none)]⟩
theorem IR_slices_EqualFunc_S_impl_Formula_S_impl_Formula_impl_Formula_impl_Formula : cfun Try.prog H_slices_EqualFunc_S_impl_Formula_S_impl_Formula_impl_Formula_impl_Formula Try.f86 = some R_slices_EqualFunc_S_impl_Formula_S_impl_Formula_impl_Formula_impl_Formula := by kernel_rfl
theorem EN_slices_EqualFunc_S_impl_Formula_S_impl_Formula_impl_Formula_impl_Formula : ENT Try.prog B_slices_EqualFunc_S_impl_Formula_S_impl_Formula_impl_Formula_impl_Formula [(3, none)] 3 10 fn_slices_EqualFunc_S_impl_Formula_S_impl_Formula_impl_Formula_impl_Formula := fun hargs hw => enter Try.func86 rfl IR_slices_EqualFunc_S_impl_Formula_S_impl_Formula_impl_Formula_impl_Formula hargs hw
def H_slices_IndexFunc_S_impl_Formula_impl_Formula : Hint := ⟨[(0, false), (1, false), (4, false), (5, false), (7, false), (8, false)], [[2, 3]]⟩
def K72_1 : C := .seq (.pl <| .e 6 0 <|
 .x 2 (.mv (.c (.int .i64 (-1)))) .done) (.ret)
@[simp] def W72_1 := C.w K72_1.eq_1
def K72_2 : C := .pl <| .e 6 1 <|
 .x 6 (.bin .add (.v 5) (.c (.int .i64 1))) <|
 .m 5 6 .done
@[simp] def W72_2 := C.w K72_2.eq_1
def K72_3 : C := .seq (.pl <| .e 6 1 <|
 .m 6 3 <|
 .m 2 6 .done) (.ret)
@[simp] def W72_3 := C.w K72_3.eq_1
def K72_4 : C := .cond 6 (.v 11) K72_3 (.skip)
@[simp] def W72_4 := C.w K72_4.eq_1
def K72_5 : C := .seq (.pl <| .e 6 6 <|
 .m 6 1 <|
 .m 7 0 <|
 .m 8 3 <|
 .x 9 (.ia 3 (.v 7) (.v 8)) <|
 .o (.ld (some 10) (.v 9) (some 3)) <|
 .c 11 (.callv (.v 6) [.v 10]) .done) K72_4
@[simp] def W72_5 := C.w K72_5.eq_1
def K72_6 : C := .seq (.block 1 (.seq (.pl <| .e 6 1 <|
 .m 6 5 <|
 .m 3 6 .done) K72_5)) K72_2
@[simp] def W72_6 := C.w K72_6.eq_1
def K72_7 : C := .seq (.cond 6 (.v 6) (.skip) (.exit 0)) K72_6
@[simp] def W72_7 := C.w K72_7.eq_1
def K72_8 : C := .seq (.pl <| .e 6 1 <|
 .x 6 (.bin .lss (.v 5) (.v 4)) .done) K72_7
@[simp] def W72_8 := C.w K72_8.eq_1
def K72_9 : C := .block 0 (.loop 6 [2, 3] K72_8)
@[simp] def W72_9 := C.w K72_9.eq_1
def K72_10 : C := .seq (.seq (.pl <| .e 6 1 <|
 .m 6 0 <|
 .x 4 (.lenV (.v 6)) <|
 .x 5 (.mv (.c (.int .i64 0))) .done) K72_9) K72_1
@[simp] def W72_10 := C.w K72_10.eq_1
def B_slices_IndexFunc_S_impl_Formula_impl_Formula : C := .seq (.pl <| .e 6 0 <|
 .x 2 (.mv (.c (.int .i64 0))) .done) K72_10
@[simp] def WB_slices_IndexFunc_S_impl_Formula_impl_Formula := C.w B_slices_IndexFunc_S_impl_Formula_impl_Formula.eq_1
def R_slices_IndexFunc_S_impl_Formula_impl_Formula : FIR := ⟨B_slices_IndexFunc_S_impl_Formula_impl_Formula, 6, [(2, none)]⟩
theorem IR_slices_IndexFunc_S_impl_Formula_impl_Formula : cfun Try.prog H_slices_IndexFunc_S_impl_Formula_impl_Formula Try.f72 = some R_slices_IndexFunc_S_impl_Formula_impl_Formula := by kernel_rfl
theorem EN_slices_IndexFunc_S_impl_Formula_impl_Formula : ENT Try.prog B_slices_IndexFunc_S_impl_Formula_impl_Formula [(2, none)] 2 6 fn_slices_IndexFunc_S_impl_Formula_impl_Formula := fun hargs hw => enter Try.func72 rfl IR_slices_IndexFunc_S_impl_Formula_impl_Formula hargs hw
def H_slices_IndexFunc_S_impl_Transition_impl_Transition : Hint := ⟨[(0, false), (1, false), (4, false), (5, false), (7, false), (8, false)], [[2, 3]]⟩
def K87_1 : C := .seq (.pl <| .e 6 0 <|
 .x 2 (.mv (.c (.int .i64 (-1)))) .done) (.ret)
@[simp] def W87_1 := C.w K87_1.eq_1
def K87_2 : C := .pl <| .e 6 1 <|
 .x 6 (.bin .add (.v 5) (.c (.int .i64 1))) <|
 .m 5 6 .done
@[simp] def W87_2 := C.w K87_2.eq_1
def K87_3 : C := .seq (.pl <| .e 6 1 <|
 .m 6 3 <|
 .m 2 6 .done) (.ret)
@[simp] def W87_3 := C.w K87_3.eq_1
def K87_4 : C := .cond 6 (.v 11) K87_3 (.skip)
@[simp] def W87_4 := C.w K87_4.eq_1
def K87_5 : C := .seq (.pl <| .e 6 6 <|
 .m 6 1 <|
 .m 7 0 <|
 .m 8 3 <|
 .x 9 (.ia 4 (.v 7) (.v 8)) <|
 .o (.ld (some 10) (.v 9) (some 4)) <|
 .c 11 (.callv (.v 6) [.v 10]) .done) K87_4
@[simp] def W87_5 := C.w K87_5.eq_1
def K87_6 : C := .seq (.block 1 (.seq (.pl <| .e 6 1 <|
 .m 6 5 <|
 .m 3 6 .done) K87_5)) K87_2
@[simp] def W87_6 := C.w K87_6.eq_1
def K87_7 : C := .seq (.cond 6 (.v 6) (.skip) (.exit 0)) K87_6
@[simp] def W87_7 := C.w K87_7.eq_1
def K87_8 : C := .seq (.pl <| .e 6 1 <|
 .x 6 (.bin .lss (.v 5) (.v 4)) .done) K87_7
@[simp] def W87_8 := C.w K87_8.eq_1
def K87_9 : C := .block 0 (.loop 6 [2, 3] K87_8)
@[simp] def W87_9 := C.w K87_9.eq_1
def K87_10 : C := .seq (.seq (.pl <| .e 6 1 <|
 .m 6 0 <|
 .x 4 (.lenV (.v 6)) <|
 .x 5 (.mv (.c (.int .i64 0))) .done) K87_9) K87_1
@[simp] def W87_10 := C.w K87_10.eq_1
def B_slices_IndexFunc_S_impl_Transition_impl_Transition : C := .seq (.pl <| .e 6 0 <|
 .x 2 (.mv (.c (.int .i64 0))) .done) K87_10
@[simp] def WB_slices_IndexFunc_S_impl_Transition_impl_Transition := C.w B_slices_IndexFunc_S_impl_Transition_impl_Transition.eq_1
def R_slices_IndexFunc_S_impl_Transition_impl_Transition : FIR := ⟨B_slices_IndexFunc_S_impl_Transition_impl_Transition, 6, [(2, none)]⟩
theorem IR_slices_IndexFunc_S_impl_Transition_impl_Transition : cfun Try.prog H_slices_IndexFunc_S_impl_Transition_impl_Transition Try.f87 = some R_slices_IndexFunc_S_impl_Transition_impl_Transition := by kernel_rfl
theorem EN_slices_IndexFunc_S_impl_Transition_impl_Transition : ENT Try.prog B_slices_IndexFunc_S_impl_Transition_impl_Transition [(2, none)] 2 6 fn_slices_IndexFunc_S_impl_Transition_impl_Transition := fun hargs hw => enter Try.func87 rfl IR_slices_IndexFunc_S_impl_Transition_impl_Transition hargs hw
def H_spec_BasicFormulas : Hint := ⟨[(0, false), (1, true), (2, false), (3, false), (4, true), (5, false), (6, false), (7, false), (8, false)], [[0, 1, 2, 3, 4, 5]]⟩
def K14_1 : C := .seq (.pl <| .e 9 1 <|
 .m 9 6 <|
 .m 2 9 <|
 .x 3 (.mv (.c (.bool true))) .done) (.ret)
@[simp] def W14_1 := C.w K14_1.eq_1
def K14_2 : Pl := .m 2 9 <|
 .x 3 (.mv (.c (.bool false))) .done
@[simp] def W14_2 := Pl.w K14_2.eq_1
def K14_3 : C := .seq (.pl <| .e 9 1 <|
 .c 9 (.bls 3 0 [.int .i64 0, .int .i64 0, .slice none 0 0] []) K14_2) (.ret)
@[simp] def W14_3 := C.w K14_3.eq_1
def K14_4 : C := .cond 9 (.v 11) K14_3 (.skip)
@[simp] def W14_4 := C.w K14_4.eq_1
def K14_5 : C := .seq (.seq (.pl <| .e 9 3 <|
 .m 9 6 <|
 .x 10 (.lenV (.v 9)) <|
 .x 11 (.bin .gtr (.v 10) (.c (.int .i64 5))) .done) K14_4) K14_1
@[simp] def W14_5 := C.w K14_5.eq_1
def K14_6 : C := .pl <| .e 9 2 <|
 .m 9 8 <|
 .x 10 (.bin .add (.v 9) (.c (.int .i64 1))) <|
 .m 8 10 .done
@[simp] def W14_6 := C.w K14_6.eq_1
def K14_7 : Pl := .m 6 15 .done
@[simp] def W14_7 := Pl.w K14_7.eq_1
def K14_8 : C := .pl <| .e 9 7 <|
 .m 9 6 <|
 .m 10 7 <|
 .m 11 8 <|
 .x 12 (.ia 3 (.v 10) (.v 11)) <|
 .o (.ld (some 13) (.v 12) (some 3)) <|
 .o (.psl 14 [.int .i64 0, .int .i64 0, .slice none 0 0] [(0, 3, .v 13)]) <|
 .c 15 (.app 40 3 [.int .i64 0, .int .i64 0, .slice none 0 0] (.o (.v 9)) (.p 1 14)) K14_7
@[simp] def W14_8 := C.w K14_8.eq_1
def K14_9 : C := .cond 9 (.v 13) K14_8 (.skip)
@[simp] def W14_9 := C.w K14_9.eq_1
def K14_10 : C := .seq (.block 1 (.seq (.pl <| .e 9 5 <|
 .m 9 7 <|
 .m 10 8 <|
 .x 11 (.ia 3 (.v 9) (.v 10)) <|
 .o (.ld (some 12) (.v 11) (some 3)) <|
 .c 13 (.call fn_spec_l7Basic [.v 12]) .done) K14_9)) K14_6
@[simp] def W14_10 := C.w K14_10.eq_1
def K14_11 : C := .cond 9 (.v 12) (.skip) (.exit 0)
@[simp] def W14_11 := C.w K14_11.eq_1
def K14_12 : C := .seq (.seq (.pl <| .e 9 4 <|
 .m 9 8 <|
 .m 10 7 <|
 .x 11 (.lenV (.v 10)) <|
 .x 12 (.bin .lss (.v 9) (.v 11)) .done) K14_11) K14_10
@[simp] def W14_12 := C.w K14_12.eq_1
def K14_13 : C := .block 0 (.loop 9 [0, 1, 2, 3, 4, 5] K14_12)
@[simp] def W14_13 := C.w K14_13.eq_1
def K14_14 : C := .seq (.seq (.pl <| .e 9 0 <|
 .x 8 (.mv (.c (.int .i64 0))) .done) K14_13) K14_5
@[simp] def W14_14 := C.w K14_14.eq_1
def K14_15 : Pl := .m 7 10 .done
@[simp] def W14_15 := Pl.w K14_15.eq_1
def K14_16 : C := .seq (.pl <| .e 9 2 <|
 .o (.pget (some 9) none 4 0 (some 3)) <|
 .c 10 (.call fn_spec_l5Subs [.c (.slice none 0 0), .v 9]) K14_15) K14_14
@[simp] def W14_16 := C.w K14_16.eq_1
def K14_17 : Pl := .m 6 9 .done
@[simp] def W14_17 := Pl.w K14_17.eq_1
def K14_18 : C := .seq (.pl <| .e 9 1 <|
 .c 9 (.bls 3 0 [.int .i64 0, .int .i64 0, .slice none 0 0] []) K14_17) K14_16
@[simp] def W14_18 := C.w K14_18.eq_1
def K14_19 : Pl := .m 2 9 <|
 .x 3 (.mv (.c (.bool false))) .done
@[simp] def W14_19 := Pl.w K14_19.eq_1
def K14_20 : C := .seq (.pl <| .e 9 1 <|
 .c 9 (.bls 3 0 [.int .i64 0, .int .i64 0, .slice none 0 0] []) K14_19) (.ret)
@[simp] def W14_20 := C.w K14_20.eq_1
def K14_21 : C := .cond 9 (.v 10) K14_20 (.skip)
@[simp] def W14_21 := C.w K14_21.eq_1
def K14_22 : C := .seq (.seq (.pl <| .e 9 2 <|
 .m 9 5 <|
 .x 10 (.un .not (.v 9)) .done) K14_21) K14_18
@[simp] def W14_22 := C.w K14_22.eq_1
def K14_23 : Pl := .m 11 10 <|
 .x 12 (.extract 0 (.v 11)) <|
 .x 13 (.extract 1 (.v 11)) <|
 .o (.pnew 4 (.c (.agg #[.int .i64 0, .int .i64 0, .slice none 0 0])) []) <|
 .o (.pset none 4 0 3 (.v 12)) <|
 .m 5 13 .done
@[simp] def W14_23 := Pl.w K14_23.eq_1
def K14_24 : C := .seq (.pl <| .e 9 5 <|
 .o (.pget (some 9) none 1 0 (some 3)) <|
 .c 10 (.call fn_spec_NormalForm [.v 9]) K14_23) K14_22
@[simp] def W14_24 := C.w K14_24.eq_1
def B_spec_BasicFormulas : C := .seq (.pl <| .e 9 0 <|
 .o (.pnew 1 (.v 0) []) <|
 .x 2 (.mv (.c (.slice none 0 0))) <|
 .x 3 (.mv (.c (.bool false))) .done) K14_24
@[simp] def WB_spec_BasicFormulas := C.w B_spec_BasicFormulas.eq_1
def R_spec_BasicFormulas : FIR := ⟨B_spec_BasicFormulas, 9, [(2, none), (3, none)]⟩
theorem IR_spec_BasicFormulas : cfun Try.prog H_spec_BasicFormulas Try.f14 = some R_spec_BasicFormulas := by kernel_rfl
theorem EN_spec_BasicFormulas : ENT Try.prog B_spec_BasicFormulas [(2, none), (3, none)] 1 9 fn_spec_BasicFormulas := fun hargs hw => enter Try.func14 rfl IR_spec_BasicFormulas hargs hw
def H_spec_FormulaSame : Hint := ⟨[(0, false), (1, false), (2, true), (3, true), (4, false), (5, false)], [[0, 1, 4]]⟩
def K65_1 : C := .seq (.pl <| .e 6 0 <|
 .x 4 (.mv (.c (.bool true))) .done) (.ret)
@[simp] def W65_1 := C.w K65_1.eq_1
def K65_2 : C := .pl <| .e 6 2 <|
 .m 6 5 <|
 .x 7 (.bin .add (.v 6) (.c (.int .i64 1))) <|
 .m 5 7 .done
@[simp] def W65_2 := C.w K65_2.eq_1
def K65_3 : C := .seq (.pl <| .e 6 0 <|
 .x 4 (.mv (.c (.bool false))) .done) (.ret)
@[simp] def W65_3 := C.w K65_3.eq_1
def K65_4 : C := .cond 6 (.v 17) K65_3 (.skip)
@[simp] def W65_4 := C.w K65_4.eq_1
def K65_5 : Pl := .x 17 (.un .not (.v 16)) .done
@[simp] def W65_5 := Pl.w K65_5.eq_1
def K65_6 : C := .seq (.block 1 (.seq (.pl <| .e 6 12 <|
 .a 6 2 <|
 .g 7 6 2 2 <|
 .m 8 5 <|
 .x 9 (.ia 3 (.v 7) (.v 8)) <|
 .o (.ld (some 10) (.v 9) (some 3)) <|
 .a 11 3 <|
 .g 12 11 3 2 <|
 .m 13 5 <|
 .x 14 (.ia 3 (.v 12) (.v 13)) <|
 .o (.ld (some 15) (.v 14) (some 3)) <|
 .c 16 (.call fn_spec_FormulaSame [.v 10, .v 15]) K65_5) K65_4)) K65_2
@[simp] def W65_6 := C.w K65_6.eq_1
def K65_7 : C := .cond 6 (.v 10) (.skip) (.exit 0)
@[simp] def W65_7 := C.w K65_7.eq_1
def K65_8 : C := .seq (.seq (.pl <| .e 6 5 <|
 .m 6 5 <|
 .a 7 2 <|
 .g 8 7 2 2 <|
 .x 9 (.lenV (.v 8)) <|
 .x 10 (.bin .lss (.v 6) (.v 9)) .done) K65_7) K65_6
@[simp] def W65_8 := C.w K65_8.eq_1
def K65_9 : C := .block 0 (.loop 6 [0, 1, 4] K65_8)
@[simp] def W65_9 := C.w K65_9.eq_1
def K65_10 : C := .seq (.seq (.pl <| .e 6 0 <|
 .x 5 (.mv (.c (.int .i64 0))) .done) K65_9) K65_1
@[simp] def W65_10 := C.w K65_10.eq_1
def K65_11 : C := .seq (.pl <| .e 6 0 <|
 .x 4 (.mv (.c (.bool false))) .done) (.ret)
@[simp] def W65_11 := C.w K65_11.eq_1
def K65_12 : C := .cond 6 (.v 26) K65_11 (.skip)
@[simp] def W65_12 := C.w K65_12.eq_1
def K65_13 : C := .seq (.seq (.pl <| .e 6 21 <|
 .a 6 2 <|
 .g 7 6 2 0 <|
 .a 8 3 <|
 .g 9 8 3 0 <|
 .x 10 (.bin .neq (.v 7) (.v 9)) <|
 .m 11 10 <|
 .n 11 (.als 12 none 2) <|
 .n 11 (.pget (some 13) (some 12) 2 1 none) <|
 .n 11 (.als 14 none 3) <|
 .n 11 (.pget (some 15) (some 14) 3 1 none) <|
 .n 11 (.px (some 16) (.bin .neq (.v 13) (.v 15))) <|
 .x 17 (.pick (.v 11) (.c (.bool true)) (.v 16)) <|
 .m 18 17 <|
 .n 18 (.als 19 none 2) <|
 .n 18 (.pget (some 20) (some 19) 2 2 none) <|
 .n 18 (.px (some 21) (.lenV (.v 20))) <|
 .n 18 (.als 22 none 3) <|
 .n 18 (.pget (some 23) (some 22) 3 2 none) <|
 .n 18 (.px (some 24) (.lenV (.v 23))) <|
 .n 18 (.px (some 25) (.bin .neq (.v 21) (.v 24))) <|
 .x 26 (.pick (.v 18) (.c (.bool true)) (.v 25)) .done) K65_12) K65_10
@[simp] def W65_13 := C.w K65_13.eq_1
def B_spec_FormulaSame : C := .seq (.pl <| .e 6 0 <|
 .o (.pnew 2 (.v 0) []) <|
 .o (.pnew 3 (.v 1) []) <|
 .x 4 (.mv (.c (.bool false))) .done) K65_13
@[simp] def WB_spec_FormulaSame := C.w B_spec_FormulaSame.eq_1
def R_spec_FormulaSame : FIR := ⟨B_spec_FormulaSame, 6, [(4, none)]⟩
theorem IR_spec_FormulaSame : cfun Try.prog H_spec_FormulaSame Try.f65 = some R_spec_FormulaSame := by kernel_rfl
theorem EN_spec_FormulaSame : ENT Try.prog B_spec_FormulaSame [(4, none)] 2 6 fn_spec_FormulaSame := fun hargs hw => enter Try.func65 rfl IR_spec_FormulaSame hargs hw
def H_spec_FormulaValid : Hint := ⟨[(0, false), (1, true), (2, false)], []⟩
def K43_1 : Pl := .y 5 (.px (some 8) (.bin .leq (.v 7) (.c (.int .i64 12)))) <|
 .x 9 (.pick (.v 5) (.v 8) (.c (.bool false))) <|
 .m 2 9 .done
@[simp] def W43_1 := Pl.w K43_1.eq_1
def K43_2 : Pl := .m 5 4 <|
 .y 5 (.pget (some 6) none 1 0 (some 3)) <|
 .st (.act (some (.v 5, true)) (.ex (some 7) (.call fn_spec_l5Count [.v 6, .c (.int .i64 6)]))) K43_1
@[simp] def W43_2 := Pl.w K43_2.eq_1
def K43_3 : C := .seq (.pl <| .e 3 7 <|
 .o (.pget (some 3) none 1 0 (some 3)) <|
 .c 4 (.call fn_spec_l5Shape [.v 3, .c (.int .i64 6)]) K43_2) (.ret)
@[simp] def W43_3 := C.w K43_3.eq_1
def B_spec_FormulaValid : C := .seq (.pl <| .e 3 0 <|
 .o (.pnew 1 (.v 0) []) <|
 .x 2 (.mv (.c (.bool false))) .done) K43_3
@[simp] def WB_spec_FormulaValid := C.w B_spec_FormulaValid.eq_1
def R_spec_FormulaValid : FIR := ⟨B_spec_FormulaValid, 3, [(2, none)]⟩
theorem IR_spec_FormulaValid : cfun Try.prog H_spec_FormulaValid Try.f43 = some R_spec_FormulaValid := by kernel_rfl
theorem EN_spec_FormulaValid : ENT Try.prog B_spec_FormulaValid [(2, none)] 1 3 fn_spec_FormulaValid := fun hargs hw => enter Try.func43 rfl IR_spec_FormulaValid hargs hw
def H_spec_NormalForm : Hint := ⟨[(0, false), (1, true), (2, true), (3, false), (4, true)], []⟩
def K15_1 : C := .seq (.pl <| .e 5 1 <|
 .o (.pget (some 5) none 4 0 (some 3)) <|
 .o (.pset none 2 0 3 (.v 5)) <|
 .x 3 (.mv (.c (.bool true))) .done) (.ret)
@[simp] def W15_1 := C.w K15_1.eq_1
def K15_2 : C := .seq (.pl <| .e 5 1 <|
 .x 5 (.build [.int .i64 0, .int .i64 0, .slice none 0 0] []) <|
 .o (.pset none 2 0 3 (.v 5)) <|
 .x 3 (.mv (.c (.bool false))) .done) (.ret)
@[simp] def W15_2 := C.w K15_2.eq_1
def K15_3 : C := .cond 5 (.v 7) K15_2 (.skip)
@[simp] def W15_3 := C.w K15_3.eq_1
def K15_4 : Pl := .x 7 (.un .not (.v 6)) .done
@[simp] def W15_4 := Pl.w K15_4.eq_1
def K15_5 : C := .seq (.seq (.pl <| .e 5 3 <|
 .o (.pget (some 5) none 4 0 (some 3)) <|
 .c 6 (.call fn_spec_FormulaValid [.v 5]) K15_4) K15_3) K15_1
@[simp] def W15_5 := C.w K15_5.eq_1
def K15_6 : Pl := .o (.pnew 4 (.c (.agg #[.int .i64 0, .int .i64 0, .slice none 0 0])) []) <|
 .o (.pset none 4 0 3 (.v 6)) .done
@[simp] def W15_6 := Pl.w K15_6.eq_1
def K15_7 : C := .seq (.pl <| .e 5 2 <|
 .o (.pget (some 5) none 1 0 (some 3)) <|
 .c 6 (.call fn_spec_l5Push [.v 5, .c (.bool false)]) K15_6) K15_5
@[simp] def W15_7 := C.w K15_7.eq_1
def K15_8 : C := .seq (.pl <| .e 5 1 <|
 .x 5 (.build [.int .i64 0, .int .i64 0, .slice none 0 0] []) <|
 .o (.pset none 2 0 3 (.v 5)) <|
 .x 3 (.mv (.c (.bool false))) .done) (.ret)
@[simp] def W15_8 := C.w K15_8.eq_1
def K15_9 : C := .cond 5 (.v 7) K15_8 (.skip)
@[simp] def W15_9 := C.w K15_9.eq_1
def K15_10 : Pl := .x 7 (.un .not (.v 6)) .done
@[simp] def W15_10 := Pl.w K15_10.eq_1
def K15_11 : C := .seq (.seq (.pl <| .e 5 3 <|
 .o (.pget (some 5) none 1 0 (some 3)) <|
 .c 6 (.call fn_spec_FormulaValid [.v 5]) K15_10) K15_9) K15_7
@[simp] def W15_11 := C.w K15_11.eq_1
def B_spec_NormalForm : C := .seq (.pl <| .e 5 0 <|
 .o (.pnew 1 (.v 0) []) <|
 .o (.pnew 2 (.c (.agg #[.int .i64 0, .int .i64 0, .slice none 0 0])) []) <|
 .x 3 (.mv (.c (.bool false))) .done) K15_11
@[simp] def WB_spec_NormalForm := C.w B_spec_NormalForm.eq_1
def R_spec_NormalForm : FIR := ⟨B_spec_NormalForm, 5, [(2, some (some 3)), (3, none)]⟩
theorem IR_spec_NormalForm : cfun Try.prog H_spec_NormalForm Try.f15 = some R_spec_NormalForm := by kernel_rfl
theorem EN_spec_NormalForm : ENT Try.prog B_spec_NormalForm [(2, some (some 3)), (3, none)] 1 5 fn_spec_NormalForm := fun hargs hw => enter Try.func15 rfl IR_spec_NormalForm hargs hw
def H_spec_TranslateFormula : Hint := ⟨[(0, false), (1, true), (2, true), (3, false), (4, false), (5, false), (6, true), (8, false), (9, false), (10, true), (11, false), (12, false), (13, false), (14, false), (15, false), (16, false), (17, false), (18, false), (19, false), (20, false)], [[0, 1, 3, 5, 12, 13, 14, 15, 16, 17, 18, 19], [0, 1, 3, 5, 6, 11, 13, 14, 15, 16, 17, 18, 19], [0, 1, 3, 5, 6, 11, 15, 19]]⟩
def K5_1 : C := .seq (.pl <| .e 20 1 <|
 .o (.pget (some 20) none 9 0 (some 3)) <|
 .o (.pset none 2 0 3 (.v 20)) <|
 .x 3 (.mv (.c (.bool true))) .done) (.ret)
@[simp] def W5_1 := C.w K5_1.eq_1
def K5_2 : Pl := .a 21 9 <|
 .o (.pset (some 21) 9 1 1 (.v 20)) .done
@[simp] def W5_2 := Pl.w K5_2.eq_1
def K5_3 : C := .pl <| .e 20 2 <|
 .c 20 (.bls 1 1 [.bool false] [(0, 1, .c (.bool false))]) K5_2
@[simp] def W5_3 := C.w K5_3.eq_1
def K5_4 : C := .cond 20 (.v 22) K5_3 (.skip)
@[simp] def W5_4 := C.w K5_4.eq_1
def K5_5 : C := .seq (.seq (.pl <| .e 20 3 <|
 .m 20 10 <|
 .x 21 (.lenV (.v 20)) <|
 .x 22 (.bin .eql (.v 21) (.c (.int .i64 0))) .done) K5_4) K5_1
@[simp] def W5_5 := C.w K5_5.eq_1
def K5_6 : C := .pl <| .e 20 2 <|
 .m 20 12 <|
 .x 21 (.bin .add (.v 20) (.c (.int .i64 1))) <|
 .m 12 21 .done
@[simp] def W5_6 := C.w K5_6.eq_1
def K5_7 : C := .pl <| .e 20 2 <|
 .m 20 18 <|
 .x 21 (.bin .add (.v 20) (.c (.int .i64 1))) <|
 .m 18 21 .done
@[simp] def W5_7 := C.w K5_7.eq_1
def K5_8 : Pl := .a 29 9 <|
 .o (.pset (some 29) 9 2 1 (.v 28)) .done
@[simp] def W5_8 := Pl.w K5_8.eq_1
def K5_9 : C := .pl <| .e 20 10 <|
 .a 20 9 <|
 .g 21 20 9 2 <|
 .m 22 12 <|
 .m 23 16 <|
 .m 24 17 <|
 .m 25 19 <|
 .x 26 (.build [.int .i64 0, .int .i64 0, .int .i64 0, .int .i64 0] [(0, 1, .v 22), (1, 1, .v 23), (2, 1, .v 24), (3, 1, .v 25)]) <|
 .o (.psl 27 [.int .i64 0, .int .i64 0, .int .i64 0, .int .i64 0] [(0, 4, .v 26)]) <|
 .c 28 (.app 32 4 [.int .i64 0, .int .i64 0, .int .i64 0, .int .i64 0] (.o (.v 21)) (.p 1 27)) K5_8
@[simp] def W5_9 := C.w K5_9.eq_1
def K5_10 : Pl := .m 25 24 <|
 .x 26 (.extract 0 (.v 25)) <|
 .x 27 (.extract 1 (.v 25)) <|
 .m 10 26 <|
 .m 19 27 .done
@[simp] def W5_10 := Pl.w K5_10.eq_1
def K5_11 : Pl := .c 24 (.call fn_spec_l7Pair [.v 20, .v 23]) K5_10
@[simp] def W5_11 := Pl.w K5_11.eq_1
def K5_12 : C := .seq (.pl <| .e 20 8 <|
 .m 20 10 <|
 .m 21 18 <|
 .m 22 14 <|
 .c 23 (.bls 1 2 [.int .i64 0] [(0, 1, .v 21), (1, 1, .v 22)]) K5_11) K5_9
@[simp] def W5_12 := C.w K5_12.eq_1
def K5_13 : C := .seq (.pl <| .e 20 0 <|
 .x 19 (.mv (.c (.int .i64 0))) .done) K5_12
@[simp] def W5_13 := C.w K5_13.eq_1
def K5_14 : C := .cond 20 (.v 23) K5_13 (.skip)
@[simp] def W5_14 := C.w K5_14.eq_1
def K5_15 : C := .seq (.block 5 (.seq (.pl <| .e 20 4 <|
 .m 20 4 <|
 .m 21 13 <|
 .m 22 18 <|
 .c 23 (.call fn_spec_l7Follows [.v 20, .v 21, .v 22]) .done) K5_14)) K5_7
@[simp] def W5_15 := C.w K5_15.eq_1
def K5_16 : C := .cond 20 (.v 22) (.skip) (.exit 4)
@[simp] def W5_16 := C.w K5_16.eq_1
def K5_17 : C := .seq (.seq (.pl <| .e 20 3 <|
 .m 20 18 <|
 .m 21 7 <|
 .x 22 (.bin .lss (.v 20) (.v 21)) .done) K5_16) K5_15
@[simp] def W5_17 := C.w K5_17.eq_1
def K5_18 : C := .block 4 (.loop 20 [0, 1, 3, 5, 6, 11, 15, 19] K5_17)
@[simp] def W5_18 := C.w K5_18.eq_1
def K5_19 : C := .seq (.pl <| .e 20 0 <|
 .x 18 (.mv (.c (.int .i64 0))) .done) K5_18
@[simp] def W5_19 := C.w K5_19.eq_1
def K5_20 : Pl := .m 23 22 <|
 .x 24 (.extract 0 (.v 23)) <|
 .x 25 (.extract 1 (.v 23)) <|
 .m 16 24 <|
 .m 17 25 .done
@[simp] def W5_20 := Pl.w K5_20.eq_1
def K5_21 : C := .seq (.pl <| .e 20 6 <|
 .m 20 4 <|
 .m 21 13 <|
 .c 22 (.call fn_spec_l7Letter [.v 20, .v 21]) K5_20) K5_19
@[simp] def W5_21 := C.w K5_21.eq_1
def K5_22 : Pl := .a 25 9 <|
 .o (.pset (some 25) 9 1 1 (.v 24)) .done
@[simp] def W5_22 := Pl.w K5_22.eq_1
def K5_23 : C := .seq (.pl <| .e 20 6 <|
 .a 20 9 <|
 .g 21 20 9 1 <|
 .m 22 15 <|
 .o (.psl 23 [.bool false] [(0, 1, .v 22)]) <|
 .c 24 (.app 1 1 [.bool false] (.o (.v 21)) (.p 1 23)) K5_22) K5_21
@[simp] def W5_23 := C.w K5_23.eq_1
def K5_24 : Pl := .m 30 29 <|
 .x 31 (.extract 0 (.v 30)) <|
 .x 32 (.extract 1 (.v 30)) <|
 .m 14 31 <|
 .m 15 32 .done
@[simp] def W5_24 := Pl.w K5_24.eq_1
def K5_25 : C := .seq (.pl <| .e 20 13 <|
 .m 20 4 <|
 .m 21 8 <|
 .m 22 13 <|
 .m 23 10 <|
 .m 24 12 <|
 .x 25 (.ia 1 (.v 23) (.v 24)) <|
 .l 26 25 <|
 .x 27 (.ia 1 (.v 26) (.c (.int .i64 1))) <|
 .l 28 27 <|
 .c 29 (.call fn_spec_l7Phase [.v 20, .v 21, .v 22, .v 28]) K5_24) K5_23
@[simp] def W5_25 := C.w K5_25.eq_1
def K5_26 : C := .seq (.pl <| .e 20 6 <|
 .m 20 10 <|
 .m 21 12 <|
 .x 22 (.ia 1 (.v 20) (.v 21)) <|
 .l 23 22 <|
 .x 24 (.ia 1 (.v 23) (.c (.int .i64 0))) <|
 .l 25 24 <|
 .m 13 25 .done) K5_25
@[simp] def W5_26 := C.w K5_26.eq_1
def K5_27 : C := .seq (.pl <| .e 20 1 <|
 .x 20 (.build [.slice none 0 0, .slice none 0 0, .slice none 0 0] []) <|
 .o (.pset none 2 0 3 (.v 20)) <|
 .x 3 (.mv (.c (.bool false))) .done) (.ret)
@[simp] def W5_27 := C.w K5_27.eq_1
def K5_28 : C := .cond 20 (.v 22) K5_27 (.skip)
@[simp] def W5_28 := C.w K5_28.eq_1
def K5_29 : C := .seq (.block 3 (.seq (.seq (.pl <| .e 20 3 <|
 .m 20 10 <|
 .x 21 (.lenV (.v 20)) <|
 .x 22 (.bin .gtr (.v 21) (.c (.int .i64 64))) .done) K5_28) K5_26)) K5_6
@[simp] def W5_29 := C.w K5_29.eq_1
def K5_30 : C := .cond 20 (.v 23) (.skip) (.exit 2)
@[simp] def W5_30 := C.w K5_30.eq_1
def K5_31 : C := .seq (.seq (.pl <| .e 20 4 <|
 .m 20 12 <|
 .m 21 10 <|
 .x 22 (.lenV (.v 21)) <|
 .x 23 (.bin .lss (.v 20) (.v 22)) .done) K5_30) K5_29
@[simp] def W5_31 := C.w K5_31.eq_1
def K5_32 : C := .block 2 (.loop 20 [0, 1, 3, 5, 6, 11, 13, 14, 15, 16, 17, 18, 19] K5_31)
@[simp] def W5_32 := C.w K5_32.eq_1
def K5_33 : C := .seq (.seq (.pl <| .e 20 0 <|
 .x 12 (.mv (.c (.int .i64 0))) .done) K5_32) K5_5
@[simp] def W5_33 := C.w K5_33.eq_1
def K5_34 : C := .pl <| .e 20 2 <|
 .m 20 11 <|
 .x 21 (.bin .add (.v 20) (.c (.int .i64 1))) <|
 .m 11 21 .done
@[simp] def W5_34 := C.w K5_34.eq_1
def K5_35 : Pl := .m 10 24 .done
@[simp] def W5_35 := Pl.w K5_35.eq_1
def K5_36 : Pl := .o (.psl 23 [.slice none 0 0] [(0, 1, .v 22)]) <|
 .c 24 (.app 24 1 [.slice none 0 0] (.o (.v 20)) (.p 1 23)) K5_35
@[simp] def W5_36 := Pl.w K5_36.eq_1
def K5_37 : C := .pl <| .e 20 5 <|
 .m 20 10 <|
 .m 21 11 <|
 .c 22 (.bls 1 2 [.int .i64 0] [(0, 1, .v 21), (1, 1, .c (.int .i64 0))]) K5_36
@[simp] def W5_37 := C.w K5_37.eq_1
def K5_38 : Pl := .a 26 9 <|
 .o (.pset (some 26) 9 0 1 (.v 25)) .done
@[simp] def W5_38 := Pl.w K5_38.eq_1
def K5_39 : C := .seq (.pl <| .e 20 7 <|
 .a 20 9 <|
 .g 21 20 9 0 <|
 .m 22 10 <|
 .x 23 (.lenV (.v 22)) <|
 .o (.psl 24 [.int .i64 0] [(0, 1, .v 23)]) <|
 .c 25 (.app 8 1 [.int .i64 0] (.o (.v 21)) (.p 1 24)) K5_38) K5_37
@[simp] def W5_39 := C.w K5_39.eq_1
def K5_40 : C := .cond 20 (.v 23) K5_39 (.skip)
@[simp] def W5_40 := C.w K5_40.eq_1
def K5_41 : C := .seq (.block 1 (.seq (.pl <| .e 20 4 <|
 .m 20 4 <|
 .m 21 11 <|
 .o (.pget (some 22) none 6 0 (some 3)) <|
 .c 23 (.call fn_spec_l7Value [.v 20, .v 21, .v 22]) .done) K5_40)) K5_34
@[simp] def W5_41 := C.w K5_41.eq_1
def K5_42 : C := .cond 20 (.v 22) (.skip) (.exit 0)
@[simp] def W5_42 := C.w K5_42.eq_1
def K5_43 : C := .seq (.seq (.pl <| .e 20 3 <|
 .m 20 11 <|
 .m 21 7 <|
 .x 22 (.bin .lss (.v 20) (.v 21)) .done) K5_42) K5_41
@[simp] def W5_43 := C.w K5_43.eq_1
def K5_44 : C := .block 0 (.loop 20 [0, 1, 3, 5, 12, 13, 14, 15, 16, 17, 18, 19] K5_43)
@[simp] def W5_44 := C.w K5_44.eq_1
def K5_45 : C := .seq (.seq (.pl <| .e 20 0 <|
 .x 11 (.mv (.c (.int .i64 0))) .done) K5_44) K5_33
@[simp] def W5_45 := C.w K5_45.eq_1
def K5_46 : Pl := .m 10 20 .done
@[simp] def W5_46 := Pl.w K5_46.eq_1
def K5_47 : C := .seq (.pl <| .e 20 1 <|
 .c 20 (.bls 1 0 [.slice none 0 0] []) K5_46) K5_45
@[simp] def W5_47 := C.w K5_47.eq_1
def K5_48 : C := .seq (.pl <| .e 20 1 <|
 .x 20 (.build [.slice none 0 0, .slice none 0 0, .slice none 0 0] []) <|
 .o (.pnew 9 (.c (.agg #[.slice none 0 0, .slice none 0 0, .slice none 0 0])) []) <|
 .o (.pset none 9 0 3 (.v 20)) .done) K5_47
@[simp] def W5_48 := C.w K5_48.eq_1
def K5_49 : Pl := .m 8 21 .done
@[simp] def W5_49 := Pl.w K5_49.eq_1
def K5_50 : C := .seq (.pl <| .e 20 2 <|
 .m 20 4 <|
 .c 21 (.call fn_spec_l7Untils [.v 20]) K5_49) K5_48
@[simp] def W5_50 := C.w K5_50.eq_1
def K5_51 : C := .seq (.pl <| .e 20 4 <|
 .m 20 4 <|
 .x 21 (.lenV (.v 20)) <|
 .x 22 (.conv .u64 (.v 21)) <|
 .x 23 (.bin .shl (.c (.int .i64 1)) (.v 22)) <|
 .m 7 23 .done) K5_50
@[simp] def W5_51 := C.w K5_51.eq_1
def K5_52 : Pl := .m 22 21 <|
 .x 23 (.extract 0 (.v 22)) <|
 .x 24 (.extract 1 (.v 22)) <|
 .o (.pnew 6 (.c (.agg #[.int .i64 0, .int .i64 0, .slice none 0 0])) []) <|
 .o (.pset none 6 0 3 (.v 23)) <|
 .m 25 24 .done
@[simp] def W5_52 := Pl.w K5_52.eq_1
def K5_53 : C := .seq (.pl <| .e 20 6 <|
 .o (.pget (some 20) none 1 0 (some 3)) <|
 .c 21 (.call fn_spec_NormalForm [.v 20]) K5_52) K5_51
@[simp] def W5_53 := C.w K5_53.eq_1
def K5_54 : C := .seq (.pl <| .e 20 1 <|
 .x 20 (.build [.slice none 0 0, .slice none 0 0, .slice none 0 0] []) <|
 .o (.pset none 2 0 3 (.v 20)) <|
 .x 3 (.mv (.c (.bool false))) .done) (.ret)
@[simp] def W5_54 := C.w K5_54.eq_1
def K5_55 : C := .cond 20 (.v 21) K5_54 (.skip)
@[simp] def W5_55 := C.w K5_55.eq_1
def K5_56 : C := .seq (.seq (.pl <| .e 20 2 <|
 .m 20 5 <|
 .x 21 (.un .not (.v 20)) .done) K5_55) K5_53
@[simp] def W5_56 := C.w K5_56.eq_1
def K5_57 : Pl := .m 22 21 <|
 .x 23 (.extract 0 (.v 22)) <|
 .x 24 (.extract 1 (.v 22)) <|
 .m 4 23 <|
 .m 5 24 .done
@[simp] def W5_57 := Pl.w K5_57.eq_1
def K5_58 : C := .seq (.pl <| .e 20 5 <|
 .o (.pget (some 20) none 1 0 (some 3)) <|
 .c 21 (.call fn_spec_BasicFormulas [.v 20]) K5_57) K5_56
@[simp] def W5_58 := C.w K5_58.eq_1
def B_spec_TranslateFormula : C := .seq (.pl <| .e 20 0 <|
 .o (.pnew 1 (.v 0) []) <|
 .o (.pnew 2 (.c (.agg #[.slice none 0 0, .slice none 0 0, .slice none 0 0])) []) <|
 .x 3 (.mv (.c (.bool false))) .done) K5_58
@[simp] def WB_spec_TranslateFormula := C.w B_spec_TranslateFormula.eq_1
def R_spec_TranslateFormula : FIR := ⟨B_spec_TranslateFormula, 20, [(2, some (some 3)), (3, none)]⟩
theorem IR_spec_TranslateFormula : cfun Try.prog H_spec_TranslateFormula Try.f5 = some R_spec_TranslateFormula := by kernel_rfl
theorem EN_spec_TranslateFormula : ENT Try.prog B_spec_TranslateFormula [(2, some (some 3)), (3, none)] 1 20 fn_spec_TranslateFormula := fun hargs hw => enter Try.func5 rfl IR_spec_TranslateFormula hargs hw
def H_spec_l2Ints : Hint := ⟨[(0, false), (1, false), (4, false), (5, false)], [[2]]⟩
def K48_1 : C := .seq (.pl <| .e 4 0 <|
 .x 2 (.mv (.c (.bool true))) .done) (.ret)
@[simp] def W48_1 := C.w K48_1.eq_1
def K48_2 : C := .pl <| .e 4 2 <|
 .m 4 3 <|
 .x 5 (.bin .add (.v 4) (.c (.int .i64 1))) <|
 .m 3 5 .done
@[simp] def W48_2 := C.w K48_2.eq_1
def K48_3 : C := .seq (.pl <| .e 4 0 <|
 .x 2 (.mv (.c (.bool false))) .done) (.ret)
@[simp] def W48_3 := C.w K48_3.eq_1
def K48_4 : C := .cond 4 (.v 12) K48_3 (.skip)
@[simp] def W48_4 := C.w K48_4.eq_1
def K48_5 : C := .seq (.block 1 (.seq (.pl <| .e 4 9 <|
 .m 4 0 <|
 .m 5 3 <|
 .x 6 (.ia 1 (.v 4) (.v 5)) <|
 .l 7 6 <|
 .m 8 1 <|
 .m 9 3 <|
 .x 10 (.ia 1 (.v 8) (.v 9)) <|
 .l 11 10 <|
 .x 12 (.bin .neq (.v 7) (.v 11)) .done) K48_4)) K48_2
@[simp] def W48_5 := C.w K48_5.eq_1
def K48_6 : C := .cond 4 (.v 7) (.skip) (.exit 0)
@[simp] def W48_6 := C.w K48_6.eq_1
def K48_7 : C := .seq (.seq (.pl <| .e 4 4 <|
 .m 4 3 <|
 .m 5 0 <|
 .x 6 (.lenV (.v 5)) <|
 .x 7 (.bin .lss (.v 4) (.v 6)) .done) K48_6) K48_5
@[simp] def W48_7 := C.w K48_7.eq_1
def K48_8 : C := .block 0 (.loop 4 [2] K48_7)
@[simp] def W48_8 := C.w K48_8.eq_1
def K48_9 : C := .seq (.seq (.pl <| .e 4 0 <|
 .x 3 (.mv (.c (.int .i64 0))) .done) K48_8) K48_1
@[simp] def W48_9 := C.w K48_9.eq_1
def K48_10 : C := .seq (.pl <| .e 4 0 <|
 .x 2 (.mv (.c (.bool false))) .done) (.ret)
@[simp] def W48_10 := C.w K48_10.eq_1
def K48_11 : C := .cond 4 (.v 8) K48_10 (.skip)
@[simp] def W48_11 := C.w K48_11.eq_1
def K48_12 : C := .seq (.seq (.pl <| .e 4 5 <|
 .m 4 0 <|
 .x 5 (.lenV (.v 4)) <|
 .m 6 1 <|
 .x 7 (.lenV (.v 6)) <|
 .x 8 (.bin .neq (.v 5) (.v 7)) .done) K48_11) K48_9
@[simp] def W48_12 := C.w K48_12.eq_1
def B_spec_l2Ints : C := .seq (.pl <| .e 4 0 <|
 .x 2 (.mv (.c (.bool false))) .done) K48_12
@[simp] def WB_spec_l2Ints := C.w B_spec_l2Ints.eq_1
def R_spec_l2Ints : FIR := ⟨B_spec_l2Ints, 4, [(2, none)]⟩
theorem IR_spec_l2Ints : cfun Try.prog H_spec_l2Ints Try.f48 = some R_spec_l2Ints := by kernel_rfl
theorem EN_spec_l2Ints : ENT Try.prog B_spec_l2Ints [(2, none)] 2 4 fn_spec_l2Ints := fun hargs hw => enter Try.func48 rfl IR_spec_l2Ints hargs hw
def H_spec_l5Arity : Hint := ⟨[(0, false), (2, false), (3, false), (4, false), (7, false), (12, false)], []⟩
def K81_1 : C := .seq (.pl <| .e 6 0 <|
 .x 1 (.mv (.c (.int .i64 (-1)))) .done) (.ret)
@[simp] def W81_1 := C.w K81_1.eq_1
def K81_2 : C := .seq (.pl <| .e 6 0 <|
 .x 1 (.mv (.c (.int .i64 0))) .done) (.ret)
@[simp] def W81_2 := C.w K81_2.eq_1
def K81_3 : C := .seq (.pl <| .e 6 0 <|
 .x 1 (.mv (.c (.int .i64 1))) .done) (.ret)
@[simp] def W81_3 := C.w K81_3.eq_1
def K81_4 : C := .seq (.pl <| .e 6 0 <|
 .x 1 (.mv (.c (.int .i64 2))) .done) (.ret)
@[simp] def W81_4 := C.w K81_4.eq_1
def K81_5 : C := .cond 6 (.v 5) K81_4 (.skip)
@[simp] def W81_5 := C.w K81_5.eq_1
def K81_6 : C := .pl <| .e 6 1 <|
 .x 6 (.bin .eql (.v 2) (.c (.int .i64 8))) <|
 .m 5 6 .done
@[simp] def W81_6 := C.w K81_6.eq_1
def K81_7 : C := .cond 6 (.v 5) (.skip) K81_6
@[simp] def W81_7 := C.w K81_7.eq_1
def K81_8 : C := .seq (.pl <| .e 6 1 <|
 .x 6 (.bin .eql (.v 2) (.c (.int .i64 7))) <|
 .m 5 6 .done) K81_7
@[simp] def W81_8 := C.w K81_8.eq_1
def K81_9 : C := .cond 6 (.v 5) (.skip) K81_8
@[simp] def W81_9 := C.w K81_9.eq_1
def K81_10 : C := .seq (.pl <| .e 6 1 <|
 .x 6 (.bin .eql (.v 2) (.c (.int .i64 5))) <|
 .m 5 6 .done) K81_9
@[simp] def W81_10 := C.w K81_10.eq_1
def K81_11 : C := .cond 6 (.v 5) (.skip) K81_10
@[simp] def W81_11 := C.w K81_11.eq_1
def K81_12 : C := .seq (.seq (.pl <| .e 6 1 <|
 .x 6 (.bin .eql (.v 2) (.c (.int .i64 4))) <|
 .m 5 6 .done) K81_11) K81_5
@[simp] def W81_12 := C.w K81_12.eq_1
def K81_13 : C := .cond 6 (.v 4) K81_3 K81_12
@[simp] def W81_13 := C.w K81_13.eq_1
def K81_14 : C := .pl <| .e 6 1 <|
 .x 6 (.bin .eql (.v 2) (.c (.int .i64 10))) <|
 .m 4 6 .done
@[simp] def W81_14 := C.w K81_14.eq_1
def K81_15 : C := .cond 6 (.v 4) (.skip) K81_14
@[simp] def W81_15 := C.w K81_15.eq_1
def K81_16 : C := .seq (.pl <| .e 6 1 <|
 .x 6 (.bin .eql (.v 2) (.c (.int .i64 9))) <|
 .m 4 6 .done) K81_15
@[simp] def W81_16 := C.w K81_16.eq_1
def K81_17 : C := .cond 6 (.v 4) (.skip) K81_16
@[simp] def W81_17 := C.w K81_17.eq_1
def K81_18 : C := .seq (.pl <| .e 6 1 <|
 .x 6 (.bin .eql (.v 2) (.c (.int .i64 6))) <|
 .m 4 6 .done) K81_17
@[simp] def W81_18 := C.w K81_18.eq_1
def K81_19 : C := .cond 6 (.v 4) (.skip) K81_18
@[simp] def W81_19 := C.w K81_19.eq_1
def K81_20 : C := .seq (.seq (.pl <| .e 6 1 <|
 .x 6 (.bin .eql (.v 2) (.c (.int .i64 3))) <|
 .m 4 6 .done) K81_19) K81_13
@[simp] def W81_20 := C.w K81_20.eq_1
def K81_21 : C := .cond 6 (.v 3) K81_2 K81_20
@[simp] def W81_21 := C.w K81_21.eq_1
def K81_22 : C := .pl <| .e 6 1 <|
 .x 6 (.bin .eql (.v 2) (.c (.int .i64 2))) <|
 .m 3 6 .done
@[simp] def W81_22 := C.w K81_22.eq_1
def K81_23 : C := .cond 6 (.v 3) (.skip) K81_22
@[simp] def W81_23 := C.w K81_23.eq_1
def K81_24 : C := .block 0 (.seq (.seq (.pl <| .e 6 1 <|
 .x 6 (.bin .eql (.v 2) (.c (.int .i64 1))) <|
 .m 3 6 .done) K81_23) K81_21)
@[simp] def W81_24 := C.w K81_24.eq_1
def K81_25 : C := .seq (.seq (.pl <| .e 6 0 <|
 .m 2 0 .done) K81_24) K81_1
@[simp] def W81_25 := C.w K81_25.eq_1
def B_spec_l5Arity : C := .seq (.pl <| .e 6 0 <|
 .x 1 (.mv (.c (.int .i64 0))) .done) K81_25
@[simp] def WB_spec_l5Arity := C.w B_spec_l5Arity.eq_1
def R_spec_l5Arity : FIR := ⟨B_spec_l5Arity, 6, [(1, none)]⟩
theorem IR_spec_l5Arity : cfun Try.prog H_spec_l5Arity Try.f81 = some R_spec_l5Arity := by kernel_rfl
theorem EN_spec_l5Arity : ENT Try.prog B_spec_l5Arity [(1, none)] 1 6 fn_spec_l5Arity := fun hargs hw => enter Try.func81 rfl IR_spec_l5Arity hargs hw
def H_spec_l5Copy : Hint := ⟨[(0, false), (1, true), (2, true), (3, true), (4, false)], [[0]]⟩
def K59_1 : C := .seq (.pl <| .e 5 1 <|
 .o (.pget (some 5) none 3 0 (some 3)) <|
 .o (.pset none 2 0 3 (.v 5)) .done) (.ret)
@[simp] def W59_1 := C.w K59_1.eq_1
def K59_2 : C := .pl <| .e 5 2 <|
 .m 5 4 <|
 .x 6 (.bin .add (.v 5) (.c (.int .i64 1))) <|
 .m 4 6 .done
@[simp] def W59_2 := C.w K59_2.eq_1
def K59_3 : Pl := .a 15 3 <|
 .o (.pset (some 15) 3 2 1 (.v 14)) .done
@[simp] def W59_3 := Pl.w K59_3.eq_1
def K59_4 : Pl := .o (.psl 13 [.int .i64 0, .int .i64 0, .slice none 0 0] [(0, 3, .v 12)]) <|
 .c 14 (.app 40 3 [.int .i64 0, .int .i64 0, .slice none 0 0] (.o (.v 6)) (.p 1 13)) K59_3
@[simp] def W59_4 := Pl.w K59_4.eq_1
def K59_5 : C := .seq (.block 1 (.pl <| .e 5 11 <|
 .a 5 3 <|
 .g 6 5 3 2 <|
 .a 7 1 <|
 .g 8 7 1 2 <|
 .m 9 4 <|
 .x 10 (.ia 3 (.v 8) (.v 9)) <|
 .o (.ld (some 11) (.v 10) (some 3)) <|
 .c 12 (.call fn_spec_l5Copy [.v 11]) K59_4)) K59_2
@[simp] def W59_5 := C.w K59_5.eq_1
def K59_6 : C := .cond 5 (.v 9) (.skip) (.exit 0)
@[simp] def W59_6 := C.w K59_6.eq_1
def K59_7 : C := .seq (.seq (.pl <| .e 5 5 <|
 .m 5 4 <|
 .a 6 1 <|
 .g 7 6 1 2 <|
 .x 8 (.lenV (.v 7)) <|
 .x 9 (.bin .lss (.v 5) (.v 8)) .done) K59_6) K59_5
@[simp] def W59_7 := C.w K59_7.eq_1
def K59_8 : C := .block 0 (.loop 5 [0] K59_7)
@[simp] def W59_8 := C.w K59_8.eq_1
def K59_9 : C := .seq (.seq (.pl <| .e 5 0 <|
 .x 4 (.mv (.c (.int .i64 0))) .done) K59_8) K59_1
@[simp] def W59_9 := C.w K59_9.eq_1
def K59_10 : C := .seq (.pl <| .e 5 5 <|
 .a 5 1 <|
 .g 6 5 1 0 <|
 .a 7 1 <|
 .g 8 7 1 1 <|
 .x 9 (.build [.int .i64 0, .int .i64 0, .slice none 0 0] [(0, 1, .v 6), (1, 1, .v 8)]) <|
 .o (.pnew 3 (.c (.agg #[.int .i64 0, .int .i64 0, .slice none 0 0])) []) <|
 .o (.pset none 3 0 3 (.v 9)) .done) K59_9
@[simp] def W59_10 := C.w K59_10.eq_1
def B_spec_l5Copy : C := .seq (.pl <| .e 5 0 <|
 .o (.pnew 1 (.v 0) []) <|
 .o (.pnew 2 (.c (.agg #[.int .i64 0, .int .i64 0, .slice none 0 0])) []) .done) K59_10
@[simp] def WB_spec_l5Copy := C.w B_spec_l5Copy.eq_1
def R_spec_l5Copy : FIR := ⟨B_spec_l5Copy, 5, [(2, some (some 3))]⟩
theorem IR_spec_l5Copy : cfun Try.prog H_spec_l5Copy Try.f59 = some R_spec_l5Copy := by kernel_rfl
theorem EN_spec_l5Copy : ENT Try.prog B_spec_l5Copy [(2, some (some 3))] 1 5 fn_spec_l5Copy := fun hargs hw => enter Try.func59 rfl IR_spec_l5Copy hargs hw
def H_spec_l5Count : Hint := ⟨[(0, false), (1, false), (2, true), (4, false), (5, false), (6, false)], [[0, 3]]⟩
def K61_1 : C := .seq (.pl <| .e 6 1 <|
 .m 6 4 <|
 .m 3 6 .done) (.ret)
@[simp] def W61_1 := C.w K61_1.eq_1
def K61_2 : C := .pl <| .e 6 2 <|
 .m 6 5 <|
 .x 7 (.bin .add (.v 6) (.c (.int .i64 1))) <|
 .m 5 7 .done
@[simp] def W61_2 := C.w K61_2.eq_1
def K61_3 : Pl := .x 15 (.bin .add (.v 6) (.v 14)) <|
 .m 4 15 .done
@[simp] def W61_3 := Pl.w K61_3.eq_1
def K61_4 : C := .seq (.block 1 (.pl <| .e 6 10 <|
 .m 6 4 <|
 .a 7 2 <|
 .g 8 7 2 2 <|
 .m 9 5 <|
 .x 10 (.ia 3 (.v 8) (.v 9)) <|
 .o (.ld (some 11) (.v 10) (some 3)) <|
 .m 12 1 <|
 .x 13 (.bin .sub (.v 12) (.c (.int .i64 1))) <|
 .c 14 (.call fn_spec_l5Count [.v 11, .v 13]) K61_3)) K61_2
@[simp] def W61_4 := C.w K61_4.eq_1
def K61_5 : C := .cond 6 (.v 14) (.skip) (.exit 0)
@[simp] def W61_5 := C.w K61_5.eq_1
def K61_6 : C := .seq (.seq (.pl <| .e 6 9 <|
 .m 6 5 <|
 .a 7 2 <|
 .g 8 7 2 2 <|
 .x 9 (.lenV (.v 8)) <|
 .x 10 (.bin .lss (.v 6) (.v 9)) <|
 .m 11 10 <|
 .y 11 (.px (some 12) (.mv (.v 1))) <|
 .y 11 (.px (some 13) (.bin .gtr (.v 12) (.c (.int .i64 0)))) <|
 .x 14 (.pick (.v 11) (.v 13) (.c (.bool false))) .done) K61_5) K61_4
@[simp] def W61_6 := C.w K61_6.eq_1
def K61_7 : C := .block 0 (.loop 6 [0, 3] K61_6)
@[simp] def W61_7 := C.w K61_7.eq_1
def K61_8 : C := .seq (.seq (.pl <| .e 6 0 <|
 .x 5 (.mv (.c (.int .i64 0))) .done) K61_7) K61_1
@[simp] def W61_8 := C.w K61_8.eq_1
def K61_9 : C := .seq (.pl <| .e 6 0 <|
 .x 4 (.mv (.c (.int .i64 1))) .done) K61_8
@[simp] def W61_9 := C.w K61_9.eq_1
def B_spec_l5Count : C := .seq (.pl <| .e 6 0 <|
 .o (.pnew 2 (.v 0) []) <|
 .x 3 (.mv (.c (.int .i64 0))) .done) K61_9
@[simp] def WB_spec_l5Count := C.w B_spec_l5Count.eq_1
def R_spec_l5Count : FIR := ⟨B_spec_l5Count, 6, [(3, none)]⟩
theorem IR_spec_l5Count : cfun Try.prog H_spec_l5Count Try.f61 = some R_spec_l5Count := by kernel_rfl
theorem EN_spec_l5Count : ENT Try.prog B_spec_l5Count [(3, none)] 2 6 fn_spec_l5Count := fun hargs hw => enter Try.func61 rfl IR_spec_l5Count hargs hw
end Go.Proofs.Ytbanccfdojgocaa

namespace Go.Proofs.Ytbanccfdojgocaa
open Go
universe u
section
variable {α : Type} [Ty α] {h : Heap} {v : Value}
theorem Rep.X {l : List α} (hr : Rep h v l) {n : Nat} (hn : n = Ty.sz α) : (∀ (kd : IntKind) (i : Nat), i < l.length → iaV n v (.int kd i) = some (elp n v i)) ∧ (∀ (kd : IntKind) (i : Int), 0 ≤ i → i < l.length → iaV n v (.int kd i) = some (elp n v i.toNat)) ∧ lenVV v = some (.int .i64 l.length) :=
  ⟨fun _ _ h1 => hr.ian hn h1, fun _ _ h0 h1 => hr.ia' hn h0 h1, hr.len⟩
end
section
variable {h : Heap} {v : Value}
theorem Rep.I {l : List Int} (hr : Rep h v l) : ((∀ (kd : IntKind) (i : Nat), i < l.length → iaV 1 v (.int kd i) = some (elp 1 v i)) ∧ (∀ (kd : IntKind) (i : Int), 0 ≤ i → i < l.length → iaV 1 v (.int kd i) = some (elp 1 v i.toNat)) ∧ lenVV v = some (.int .i64 l.length)) ∧
    ∀ (i : Nat) (hi : i < l.length), hload h (some (elp 1 v i)) none = some (.int .i64 l[i]) := ⟨hr.X rfl, fun _ hi => hr.ldI hi⟩
theorem Rep.B {l : List Bool} (hr : Rep h v l) : ((∀ (kd : IntKind) (i : Nat), i < l.length → iaV 1 v (.int kd i) = some (elp 1 v i)) ∧ (∀ (kd : IntKind) (i : Int), 0 ≤ i → i < l.length → iaV 1 v (.int kd i) = some (elp 1 v i.toNat)) ∧ lenVV v = some (.int .i64 l.length)) ∧
    ∀ (i : Nat) (hi : i < l.length), hload h (some (elp 1 v i)) none = some (.bool l[i]) := ⟨hr.X rfl, fun _ hi => hr.ldB hi⟩
theorem Rep.S {l : List ByteArray} (hr : Rep h v l) : ((∀ (kd : IntKind) (i : Nat), i < l.length → iaV 1 v (.int kd i) = some (elp 1 v i)) ∧ (∀ (kd : IntKind) (i : Int), 0 ≤ i → i < l.length → iaV 1 v (.int kd i) = some (elp 1 v i.toNat)) ∧ lenVV v = some (.int .i64 l.length)) ∧
    ∀ (i : Nat) (hi : i < l.length), hload h (some (elp 1 v i)) none = some (.string l[i]) := ⟨hr.X rfl, fun _ hi => hr.ldS hi⟩
theorem Rep.U {l : List (BitVec 64)} (hr : Rep h v l) : ((∀ (kd : IntKind) (i : Nat), i < l.length → iaV 1 v (.int kd i) = some (elp 1 v i)) ∧ (∀ (kd : IntKind) (i : Int), 0 ≤ i → i < l.length → iaV 1 v (.int kd i) = some (elp 1 v i.toNat)) ∧ lenVV v = some (.int .i64 l.length)) ∧
    ∀ (i : Nat) (hi : i < l.length), hload h (some (elp 1 v i)) none = some (.int .u64 l[i].toNat) := ⟨hr.X rfl, fun _ hi => hr.ldU hi⟩
theorem Rep.ldL {α : Type} [Ty α] {l : List (List α)} (hr : Rep h v l) {i : Nat} (hi : i < l.length) : ∃ u, hload h (some (elp 1 v i)) none = some u ∧ Rep h u l[i] := hr.ld hi
end
theorem IteW.mkr {p A B : Prop} (h2 : ¬ p → B) (h1 : p → A) : IteW p A B := ⟨h1, h2⟩
theorem own1 {α : Type} [Ty α] (ha : Ty.agg α = false) {r : Heap} {cs : List Value} {x : α} : Ty.own r cs x ↔ ∃ v, cs = [v] ∧ Own r v x := by
  constructor
  · intro ho
    have hl := Ty.len (Ty.own_rep ho)
    rw [Ty.one ha] at hl
    match cs, hl with
    | [v], _ => exact ⟨v, rfl, [v], by simp [valC, ha], ho⟩
  · rintro ⟨v, rfl, c, h1, h2⟩
    have hl := Ty.len (Ty.own_rep h2)
    rw [Ty.one ha] at hl
    match c, hl with
    | [u], _ => simp [valC, ha] at h1; subst h1; exact h2
theorem rep1 {α : Type} [Ty α] (ha : Ty.agg α = false) {r : Heap} {cs : List Value} {x : α} : Ty.rep r cs x ↔ ∃ v, cs = [v] ∧ Rep r v x := by
  constructor
  · intro ho
    have hl := Ty.len ho
    rw [Ty.one ha] at hl
    match cs, hl with
    | [v], _ => exact ⟨v, rfl, [v], by simp [valC, ha], ho⟩
  · rintro ⟨v, rfl, c, h1, h2⟩
    have hl := Ty.len h2
    rw [Ty.one ha] at hl
    match c, hl with
    | [u], _ => simp [valC, ha] at h1; subst h1; exact h2
section
variable {α : Type} [Ty α] {h : Heap} {v : Value} {l : List α} {i : Nat}
theorem Rep.fld [Flat α] (hr : Rep h v l) (hi : i < l.length) {n j : Nat} (hn : n = Ty.sz α) {u : Value} (hj : (Flat.enc l[i])[j]? = some u) : hload h (some (elpo n v i j)) none = some u := by
  subst hn
  obtain ⟨p, cap, rfl, hc, hp, hl⟩ := Rep_list.1 hr
  obtain ⟨b, off, vs, rfl, h1, h2⟩ := hl i hi
  rw [← (Flat.rep_iff.1 h2).1] at hj
  have := (hcells_get h1).2 j u hj
  simp [elpo, add_none, hload, this]
end
theorem Rep.A {α : Type} [Ty α] {h : Heap} {v : Value} {x : α} (hr : Rep h v x) (ha : Ty.agg α = true) {n : Nat} (hn : n = Ty.sz α) : pgetV (some v) 0 (some n) = some v ∧ v.cells.size = n ∧ allOne v.cells.toList = true ∧ Value.agg v.cells = v := by
  obtain ⟨cs, rfl, h1⟩ := hr
  have h2 := Ty.len h1
  have h3 := Ty.cell h1
  subst hn
  simp only [valC, ha, if_true]
  refine ⟨?_, by simpa using h2, ?_, rfl⟩
  · simp [h2]
  · rw [← allOne_eq]; simpa using h3
def owC {α : Type} [Ty α] (cs : List Value) (x : α) : HP := fun r => Ty.own r cs x
section
variable {g h : Heap} {Γ : List HP}
theorem HS.join2 {p p1 p2 : HP} (H : HS g (p1 :: p2 :: Γ) h) (hp : ∀ r1 r2, Dj r1 r2 → p1 r1 → p2 r2 → p (r1.add r2)) : HS g (p :: Γ) h := by
  obtain ⟨g1, r1, rfl, d1, h1, g', r2, rfl, d2, h2, H⟩ := H
  obtain ⟨d3, d4⟩ := add_Dj.1 d1
  refine ⟨g', r1.add r2, ?_, Dj_add.2 ⟨d3, d2⟩, hp r1 r2 d4.symm h1 h2, H⟩
  rw [add_assoc, d4.comm]
theorem HS.unvia {α β : Type} [Ty β] (f : α → β) {v : Value} {x : α} (H : HS g (@ow α (Ty.via f) v x :: Γ) h) : ∃ cs : List Value, v = .agg cs.toArray ∧ HS g (owC cs (f x) :: Γ) h := by
  obtain ⟨g', r, rfl, d, ⟨cs, rfl, ho⟩, H⟩ := H
  exact ⟨cs, rfl, g', r, rfl, d, ho, H⟩
theorem HS.via {α β : Type} [Ty β] (f : α → β) {cs : List Value} {x : α} (H : HS g (owC cs (f x) :: Γ) h) : HS g (@ow α (Ty.via f) (.agg cs.toArray) x :: Γ) h :=
  H.imp fun _ ho => ⟨cs, rfl, ho⟩
theorem HS.unprod {α β : Type} [Ty α] [Ty β] {cs : List Value} {x : α} {y : β} (H : HS g (owC cs (x, y) :: Γ) h) : ∃ c1 c2, cs = c1 ++ c2 ∧ HS g (owC c1 x :: owC c2 y :: Γ) h := by
  obtain ⟨g', r, rfl, d, ⟨c1, c2, r1, r2, rfl, rfl, d2, h1, h2⟩, H⟩ := H
  obtain ⟨d3, d4⟩ := Dj_add.1 d
  exact ⟨c1, c2, rfl, g'.add r2, r1, by rw [add_assoc, d2.comm], add_Dj.2 ⟨d3, d2.symm⟩, h1, g', r2, rfl, d4, h2, H⟩
theorem HS.unone {α : Type} [Ty α] (ha : Ty.agg α = false) {cs : List Value} {x : α} (H : HS g (owC cs x :: Γ) h) : ∃ v, cs = [v] ∧ HS g (ow v x :: Γ) h := by
  obtain ⟨g', r, rfl, d, ho, H⟩ := H
  have ho2 : Ty.own r cs x := ho
  obtain ⟨v, rfl, h3⟩ := (own1 ha).1 ho2
  exact ⟨v, rfl, g', r, rfl, d, h3, H⟩
theorem HS.one {α : Type} [Ty α] (ha : Ty.agg α = false) {v : Value} {x : α} (H : HS g (ow v x :: Γ) h) : HS g (owC [v] x :: Γ) h := H.imp fun _ ho => (own1 ha).2 ⟨v, rfl, ho⟩
theorem HS.prod {α β : Type} [Ty α] [Ty β] (ha : Ty.agg α = false) {v : Value} {cs : List Value} {x : α} {y : β} (H : HS g (ow v x :: owC cs y :: Γ) h) : HS g (owC (v :: cs) (x, y) :: Γ) h :=
  H.join2 fun r1 r2 d h1 h2 => ⟨[v], cs, r1, r2, rfl, rfl, d, (own1 ha).2 ⟨v, rfl, h1⟩, h2⟩
end
class Sz (α : Type) where
  sz : α → Nat
instance : Sz Int := ⟨fun _ => 0⟩
instance : Sz Bool := ⟨fun _ => 0⟩
def szL {α : Type} [Sz α] : List α → Nat
  | [] => 0
  | x :: l => Sz.sz x + szL l
instance instSzList {α : Type} [Sz α] : Sz (List α) := ⟨fun l => l.length + szL l⟩
theorem sz_list {α : Type} [Sz α] (l : List α) : Sz.sz l = l.length + szL l := rfl
theorem szL_get {α : Type} [Sz α] : ∀ {l : List α} {i : Nat} (hi : i < l.length), Sz.sz l[i] ≤ szL l
  | x :: l, 0, _ => by simp [szL]
  | x :: l, i + 1, hi => by
    have := szL_get (l := l) (i := i) (by simpa using hi)
    simp [szL]; omega
theorem szL_take {α : Type} [Sz α] : ∀ {l : List α} {i : Nat} (hi : i < l.length), szL (l.take (i + 1)) = szL (l.take i) + Sz.sz l[i]
  | x :: l, 0, _ => by simp [szL]
  | x :: l, i + 1, hi => by
    have := szL_take (l := l) (i := i) (by simpa using hi)
    simp [szL, this]; omega
class Mk (α : Type) where
  cnt : α → Nat
  wr : Int → α → α
  cnt_wr : ∀ k x, cnt (wr k x) = cnt x
  wr_wr : ∀ k j x, wr k (wr j x) = wr k x
def cntL {α : Type} [Mk α] : List α → Nat
  | [] => 0
  | x :: l => Mk.cnt x + cntL l
def mkL {α : Type} [Mk α] : Int → List α → List α
  | _, [] => []
  | k, x :: l => Mk.wr k x :: mkL (k + Mk.cnt x) l
section
variable {α : Type} [Mk α]
theorem cntL_mk : ∀ (k : Int) (l : List α), cntL (mkL k l) = cntL l
  | _, [] => rfl
  | k, x :: l => by simp [cntL, mkL, Mk.cnt_wr, cntL_mk (k + Mk.cnt x) l]
theorem mkL_mk : ∀ (k j : Int) (l : List α), mkL k (mkL j l) = mkL k l
  | _, _, [] => rfl
  | k, j, x :: l => by simp [mkL, Mk.cnt_wr, Mk.wr_wr, mkL_mk (k + Mk.cnt x) (j + Mk.cnt x) l]
@[simp] theorem mkL_length : ∀ (k : Int) (l : List α), (mkL k l).length = l.length
  | _, [] => rfl
  | k, x :: l => by simp [mkL, mkL_length (k + Mk.cnt x) l]
theorem mkL_get : ∀ (k : Int) (l : List α) (i : Nat) (hi : i < l.length), (mkL k l)[i]'(by simpa using hi) = Mk.wr (k + cntL (l.take i)) l[i]
  | _, [], i, hi => by simp at hi
  | k, x :: l, 0, _ => by simp [mkL, cntL]
  | k, x :: l, i + 1, hi => by
    simp only [mkL, List.getElem_cons_succ, List.take_succ_cons, cntL]
    rw [mkL_get (k + Mk.cnt x) l i (by simpa using hi)]
    congr 1
    push_cast
    omega
theorem cntL_take : ∀ (l : List α) (i : Nat) (hi : i < l.length), cntL (l.take (i + 1)) = cntL (l.take i) + Mk.cnt l[i]
  | [], i, hi => by simp at hi
  | x :: l, 0, _ => by simp [cntL]
  | x :: l, i + 1, hi => by
    simp only [List.take_succ_cons, cntL, List.getElem_cons_succ]
    rw [cntL_take l i (by simpa using hi)]
    omega
theorem cntL_le : ∀ (l : List α) (i : Nat), cntL (l.take i) ≤ cntL l
  | [], i => by simp [cntL]
  | x :: l, 0 => by simp [cntL]
  | x :: l, i + 1 => by
    simp only [List.take_succ_cons, cntL]
    have := cntL_le l i
    omega
instance instMkList : Mk (List α) := ⟨cntL, mkL, cntL_mk, mkL_mk⟩
end
instance instMkInt : Mk Int := ⟨fun _ => 1, fun k _ => k, fun _ _ => rfl, fun _ _ _ => rfl⟩
instance instMkBool : Mk Bool := ⟨fun _ => 1, fun k _ => decide (k.tmod 3 = 0), fun _ _ => rfl, fun _ _ _ => rfl⟩
structure Mkd {α : Type} [Mk α] (k : Int) (x y : List α) (i : Nat) : Prop where
  len : y.length = x.length
  done : y.take i = (mkL k x).take i
  rest : y.drop i = x.drop i
section
variable {α : Type} [Mk α] {k : Int} {x y : List α} {i : Nat}
theorem Mkd.zero : Mkd k x x 0 := ⟨rfl, rfl, rfl⟩
theorem Mkd.get (h : Mkd k x y i) (hi : i < x.length) : y[i]'(by rw [h.len]; exact hi) = x[i] := by
  have := congrArg (fun l => l[0]?) h.rest
  simp [List.getElem?_drop, hi, h.len] at this
  exact this
theorem Mkd.step (h : Mkd k x y i) (hi : i < x.length) : Mkd k x (y.set i (Mk.wr (k + cntL (x.take i)) x[i])) (i + 1) := by
  refine ⟨by simp [h.len], ?_, ?_⟩
  · have := take_set_succ (x := mkL k x) h.done (by simpa using hi) (by simpa using h.len)
    rwa [mkL_get k x i hi] at this
  · rw [List.drop_set_of_lt (by omega)]
    have := congrArg (List.drop 1) h.rest
    simpa [List.drop_drop] using this
theorem Mkd.all (h : Mkd k x y i) (hi : x.length ≤ i) : y = mkL k x := eq_of_take h.done (by simpa using hi) (by simpa using h.len)
end
theorem take_step {α : Type} {x y : List α} {i : Nat} (h : x.take i = y.take i) (h1 : i < x.length) (h2 : i < y.length) (he : x[i] = y[i]) : x.take (i + 1) = y.take (i + 1) := by
  rw [List.take_add_one, List.take_add_one, h, List.getElem?_eq_getElem h1, List.getElem?_eq_getElem h2, he]
theorem HS.storeFld {α : Type} [Ty α] [Flat α] {P : Program} {k : Env → Heap → Prop} {e : Env} {g h : Heap} {Γ : List HP} {v : Value} {l : List α} {i : Nat} (H : HS g (ow v l :: Γ) h) (y : α) {a x : O} {fo : Nat} {u : Value} (hi : i < l.length) (hp : a.get e = some (elpo (Ty.sz α) v i fo)) (hx : x.get e = some u) (hu : u.cells = #[u]) (hu1 : u.oneCell' = true)
    (hfo : fo < Ty.sz α) (hy : Flat.enc y = (Flat.enc l[i]).set fo u) (hok : Flat.ok y) (K : ∀ h', HS g (ow v (l.set i y) :: Γ) h' → k e h') : (A.ex none (.store 1 a x)).wp P k e h := by
  obtain ⟨g', r, rfl, d, O, H⟩ := H
  exact a_store_fldF y O hi d rfl hp hx hu hu1 hfo hy hok fun r' d' O' => K _ ⟨g', r', rfl, d', O', H⟩
@[simp] theorem ite_lt_zero {α : Type} {b : Int} {x y : α} (h : 0 ≤ b) : (if b < 0 then x else y) = y := if_neg (by omega)
def setB (a : BitVec 64) (j : Nat) : BitVec 64 := a ||| (1#64 <<< j)
theorem one_bit {j i : Nat} (hj : j < 64) : (1#64 <<< j).getLsbD i = decide (i = j) := by
  rw [BitVec.getLsbD_shiftLeft, BitVec.getLsbD_one]
  by_cases h1 : i = j
  · subst h1; simp [hj]
  · by_cases h2 : i < j
    · simp [h1, h2]
    · have h3 : ¬ (i - j = 0) := by omega
      simp [h1, h3]
theorem setB_get {a : BitVec 64} {j i : Nat} (hj : j < 64) : (setB a j).getLsbD i = (a.getLsbD i || decide (i = j)) := by
  rw [setB, BitVec.getLsbD_or, one_bit hj]
structure W8 where
  l : List (BitVec 64)
  len : l.length = 8
def W8.zero : W8 := ⟨List.replicate 8 0, rfl⟩
def W8.put (w : W8) (j : Nat) (x : BitVec 64) : W8 := ⟨w.l.set j x, by simp [w.len]⟩
def W8.at (w : W8) (j : Nat) : BitVec 64 := w.l.getD j 0
def W8.enc (w : W8) : List Value := w.l.map fun b => .int .u64 b.toNat
instance instTyW8 : Ty W8 where
  agg := true
  sz := 8
  rep := fun _ cs x => cs = x.enc
  own := fun r cs x => r = Heap.nil ∧ cs = x.enc
  one := fun h => by simp at h
  len := by rintro h cs x rfl; simp [W8.enc, x.len]
  cell := by
    rintro h cs x rfl v hv
    simp only [W8.enc, List.mem_map] at hv
    obtain ⟨b, _, rfl⟩ := hv
    rfl
  mono := fun _ hr => hr
  own_rep := fun ho => ho.2
instance instFlatW8 : Flat W8 := ⟨W8.enc, fun _ => True, by simp [Ty.rep], by simp [Ty.own]⟩
theorem W8.enc_at (w : W8) {j : Nat} (hj : j < 8) : w.enc[j]? = some (.int .u64 (w.at j).toNat) := by
  have : j < w.l.length := by rw [w.len]; exact hj
  simp [W8.enc, W8.at, this]
theorem W8.put_at (w : W8) {j i : Nat} {x : BitVec 64} (hj : j < 8) : (w.put j x).at i = if i = j then x else w.at i := by
  have : j < w.l.length := by rw [w.len]; exact hj
  simp only [W8.at, W8.put, List.getD_eq_getElem?_getD, List.getElem?_set]
  split
  · rename_i h; subst h; simp [this]
  · rename_i h; rw [if_neg (fun h2 => h h2.symm)]
section
variable {α : Type} [Ty α] {h : Heap} {v : Value} {l : List α} {i : Nat}
theorem Rep.iaA (hr : Rep h v l) (hi : i < l.length) {n m : Nat} {kd : IntKind} {j : Nat} (hj : j < m) : iaAV m 1 (elp n v i) (.int kd j) = some (elpo n v i j) := by
  obtain ⟨p, cap, rfl, hc, hp, hl⟩ := Rep_list.1 hr
  obtain ⟨b, off, vs, rfl, _⟩ := hl i hi
  have : (j : Int) < m := by omega
  simp [iaAV, elp, elpo, this]
theorem Rep.W {l : List W8} (hr : Rep h v l) : ((∀ (kd : IntKind) (i : Nat), i < l.length → iaV 8 v (.int kd i) = some (elp 8 v i)) ∧ (∀ (kd : IntKind) (i : Int), 0 ≤ i → i < l.length → iaV 8 v (.int kd i) = some (elp 8 v i.toNat)) ∧ lenVV v = some (.int .i64 l.length)) ∧
    (∀ (kd : IntKind) (i j : Nat), i < l.length → j < 8 → iaAV 8 1 (elp 8 v i) (.int kd j) = some (elpo 8 v i j)) ∧
    ∀ (i j : Nat) (hi : i < l.length), j < 8 → hload h (some (elpo 8 v i j)) none = some (.int .u64 (l[i].at j).toNat) :=
  ⟨hr.X rfl, fun _ _ _ hi hj => hr.iaA hi hj, fun _ _ hi hj => hr.fld hi rfl (W8.enc_at _ hj)⟩
end
theorem Rep.isNil {α : Type} [Ty α] {h : Heap} {v : Value} {l : List α} (hr : Rep h v l) : ∃ b, isNilV false v = some (.bool b) ∧ (b = true → l = []) := by
  obtain ⟨p, cap, rfl, h1, h2, h3⟩ := Rep_list.1 hr
  refine ⟨p.isNone, rfl, fun hp => ?_⟩
  cases l with
  | nil => rfl
  | cons x l => obtain ⟨b, off, vs, h4, _⟩ := h3 0 (by simp); subst h4; simp at hp
theorem Own.clip {α : Type} [Ty α] {r : Heap} {v : Value} {l : List α} (O : Own r v l) {esz : Nat} {k : IntKind} :
    ∃ v', sliceVV esz v none (some (some (.int k l.length))) (some (some (.int k l.length))) = some v' ∧ Own r v' l := by
  rcases Own_list.1 O with ⟨p, rfl, rfl, rfl, hp⟩ | ⟨b, off, cap, cells, el, r', rfl, ⟨h1, hM⟩, h2, rfl, h4, h5⟩
  · refine ⟨.slice p 0 0, ?_, Own_list.2 (.inl ⟨p, rfl, rfl, rfl, hp⟩)⟩
    simp [sliceVV, bndV]
  · refine ⟨.slice (some ⟨b, off, none⟩) l.length l.length, ?_, Own_list.2 (.inr ⟨b, off, l.length, cells, el, r', rfl, ⟨Nat.le_refl _, hM⟩, ?_, rfl, h4, h5⟩)⟩
    · simp [sliceVV, bndV, add_none, h1]
    · have : l.length * Ty.sz α ≤ cap * Ty.sz α := Nat.mul_le_mul_right _ h1
      omega
theorem HS.clip {α : Type} [Ty α] {g h : Heap} {Γ : List HP} {v : Value} {l : List α} (H : HS g (ow v l :: Γ) h) {esz : Nat} {k : IntKind} :
    ∃ v', sliceVV esz v none (some (some (.int k l.length))) (some (some (.int k l.length))) = some v' ∧ HS g (ow v' l :: Γ) h := by
  obtain ⟨g', r, rfl, d, O, H⟩ := H
  obtain ⟨v', h1, O'⟩ := O.clip (esz := esz) (k := k)
  exact ⟨v', h1, g', r, rfl, d, O', H⟩
theorem HS.bls0 {P : Program} {k : Env → Heap → Prop} {e : Env} {g h : Heap} {Γ : List HP} (H : HS g Γ h) (α : Type) [Ty α] {esz : Nat} {zero : List Value} {dst : Nat}
    (K : ∀ v' h', HS g (ow v' ([] : List α) :: Γ) h' → k (eset e dst (some v')) h') : (A.ex (some dst) (.bls esz 0 zero [])).wp P k e h := by
  refine ⟨[], rfl, fun b el hb => Fgt.keep ?_⟩
  rw [set_new hb]
  exact K _ _ ⟨h, _, rfl, Dj_one.2 hb, Own_list.2 (.inr ⟨b, 0, 0, [], el, Heap.nil, rfl, ⟨Nat.le_refl _, by simp⟩, by simp, by simp, rfl, rfl⟩), H⟩
@[simp] theorem faV_ptr {b o off : Nat} : faV off (.pointer (some ⟨b, o, none⟩)) = some (.pointer (some ⟨b, o + off, none⟩)) := by simp [faV, add_none]
attribute [simp] Option.bind_some
end Go.Proofs.Ytbanccfdojgocaa

namespace Go.Proofs.Ytbanccfdojgocaa
open Go
section
variable {g h : Heap} {Γ : List HP}
theorem HS.bk5 {a b c d f f' : HP} (H : HS g (f' :: a :: b :: c :: d :: f :: Γ) h) : HS g (a :: b :: c :: d :: f :: f' :: Γ) h := H.sw5.sw5.sw5.sw5.sw5
theorem HS.bk6 {a b c d f f' f2 : HP} (H : HS g (f2 :: a :: b :: c :: d :: f :: f' :: Γ) h) : HS g (a :: b :: c :: d :: f :: f' :: f2 :: Γ) h := H.sw6.sw6.sw6.sw6.sw6.sw6
theorem HS.sw7 {a b c d f f' f2 f3 : HP} (H : HS g (a :: b :: c :: d :: f :: f' :: f2 :: f3 :: Γ) h) : HS g (f3 :: a :: b :: c :: d :: f :: f' :: f2 :: Γ) h := (H.under fun _ => HS.sw6).sw1
theorem HS.rebase : ∀ {Δ Γ : List HP} {h : Heap}, HS g (Δ ++ Γ) h → ∃ g1, HS g Γ g1 ∧ HS g1 Δ h
  | [], _, h, H => ⟨h, H, HS.init⟩
  | _ :: _, _, _, ⟨g', r, e, d, hp, H⟩ => by
    obtain ⟨g1, h1, h2⟩ := H.rebase
    exact ⟨g1, h1, g', r, e, d, hp, h2⟩
end
def mpo {κ ν : Type} (kf : κ → Value) (vf : ν → Value) (b : Nat) (l : List (κ × ν)) : HP := fun r => ∃ es clock, r = Heap.one b (.map es clock) ∧ es.toList.map (fun e => (e.key, e.val)) = l.map fun p => (kf p.1, vf p.2)
def mlk {κ ν : Type} [DecidableEq κ] (l : List (κ × ν)) (a : κ) : Option ν := (l.find? fun p => decide (p.1 = a)).map (·.2)
theorem mlk_nil {κ ν : Type} [DecidableEq κ] {a : κ} : mlk ([] : List (κ × ν)) a = none := rfl
theorem mlk_snoc {κ ν : Type} [DecidableEq κ] {l : List (κ × ν)} {a b : κ} {y : ν} (hn : mlk l a = none) : mlk (l ++ [(a, y)]) b = if a = b then some y else mlk l b := by
  unfold mlk at hn ⊢
  rw [List.find?_append]
  by_cases h : a = b
  · subst h
    simp at hn
    rw [if_pos rfl, List.find?_eq_none.2 (by simpa using hn)]
    simp
  · rw [if_neg h]
    simp [h]
theorem mfind_spec {κ ν : Type} [DecidableEq κ] {kf : κ → Value} {vf : ν → Value} {kt : KT} (hkt : ∀ a b, keyEq kt (kf a) (kf b) = some (decide (a = b))) {a : κ} : ∀ {es : List MapEntry} {l : List (κ × ν)} {i0 : Nat}, es.map (fun e => (e.key, e.val)) = l.map (fun p => (kf p.1, vf p.2)) →
    ∃ i, mfind kt (kf a) es i0 = some ((mlk l a).map fun y => (i, vf y))
  | [], [], _, _ => ⟨0, rfl⟩
  | [], _ :: _, _, h => by simp at h
  | _ :: _, [], _, h => by simp at h
  | x :: es, p :: l, i0, h => by
    simp only [List.map_cons, List.cons.injEq, Prod.mk.injEq] at h
    obtain ⟨⟨h1, h2⟩, h3⟩ := h
    obtain ⟨i, hi⟩ := mfind_spec hkt (a := a) (i0 := i0 + 1) h3
    unfold mfind
    rw [h1, hkt, h2]
    by_cases he : a = p.1
    · subst he
      refine ⟨i0, ?_⟩
      simp [mlk]
    · refine ⟨i, ?_⟩
      simp only [he, decide_false]
      rw [hi]
      simp [mlk, List.find?_cons, Ne.symm he, show ¬ p.1 = a from fun e => he e.symm]
section
variable {P : Program} {k : Env → Heap → Prop} {e : Env} {g h : Heap} {Γ : List HP} {κ ν : Type} [DecidableEq κ] {kf : κ → Value} {vf : ν → Value} {b : Nat} {l : List (κ × ν)} {kt : KT}
theorem HS.mkm (H : HS g Γ h) (kf : κ → Value) (vf : ν → Value) {dst : Nat} (K : ∀ b h', HS g (mpo kf vf b [] :: Γ) h' → k (eset e dst (some (.map (some b)))) h') : (A.ex (some dst) .mkm).wp P k e h := by
  intro b hb
  refine Fgt.keep ?_
  rw [set_new hb]
  exact K _ _ ⟨h, _, rfl, Dj_one.2 hb, ⟨_, _, rfl, rfl⟩, H⟩
theorem HS.mget (H : HS g (mpo kf vf b l :: Γ) h) {zero : Value} {ok : Bool} {m x : O} {a : κ} {dst : Nat} (hm : m.get e = some (.map (some b))) (hx : x.get e = some (kf a)) (hkt : ∀ a b, keyEq kt (kf a) (kf b) = some (decide (a = b)))
    (K : k (eset e dst (some (if ok then .tuple #[((mlk l a).map vf).getD zero, .bool (mlk l a).isSome] else ((mlk l a).map vf).getD zero))) h) : (A.ex (some dst) (.mget kt zero ok m x)).wp P k e h := by
  obtain ⟨g', r, rfl, d, ⟨es, clock, rfl, hes⟩, H⟩ := H
  obtain ⟨i, hi⟩ := mfind_spec hkt (a := a) (i0 := 0) hes
  refine ⟨b, es, clock, kf a, _, hm, le_add' d _ _ (by simp [Heap.one]), hx, by rw [hkt]; rfl, hi, Fgt.keep ?_⟩
  cases hl : mlk l a with
  | none => rw [hl] at K; cases ok <;> exact K
  | some y => rw [hl] at K; cases ok <;> exact K
theorem HS.mput (H : HS g (mpo kf vf b l :: Γ) h) {m x y : O} {a : κ} {v : ν} (hm : m.get e = some (.map (some b))) (hx : x.get e = some (kf a)) (hy : y.get e = some (vf v)) (hkt : ∀ a b, keyEq kt (kf a) (kf b) = some (decide (a = b))) (hn : mlk l a = none)
    (K : ∀ h', HS g (mpo kf vf b (l ++ [(a, v)]) :: Γ) h' → k e h') : (A.ex none (.mput kt m x y)).wp P k e h := by
  obtain ⟨g', r, rfl, d, ⟨es, clock, rfl, hes⟩, H⟩ := H
  obtain ⟨i, hi⟩ := mfind_spec hkt (a := a) (i0 := 0) hes
  rw [hn] at hi
  refine ⟨b, es, clock, kf a, vf v, none, hm, le_add' d _ _ (by simp [Heap.one]), hx, hy, by rw [hkt]; rfl, hi, Fgt.keep ?_⟩
  refine K _ ⟨g', Heap.one b (.map (es.push { key := kf a, val := vf v, born := clock }) (clock + 1)), ?_, ?_, ⟨_, _, rfl, ?_⟩, H⟩
  · have hb := Dj_one.1 d
    rw [← set_new hb]
    rw [← set_new hb]
    funext z
    simp only [Heap.set]
    split <;> rfl
  · exact Dj_one.2 (Dj_one.1 d)
  · simp [hes]
theorem HS.mlen (H : HS g (mpo kf vf b l :: Γ) h) {m : O} {dst : Nat} (hm : m.get e = some (.map (some b))) (K : k (eset e dst (some (.int .i64 l.length))) h) : (A.ex (some dst) (.mlen m)).wp P k e h := by
  obtain ⟨g', r, rfl, d, ⟨es, clock, rfl, hes⟩, H⟩ := H
  have hl : es.size = l.length := by
    have := congrArg List.length hes
    simpa using this
  refine ⟨b, es, clock, hm, le_add' d _ _ (by simp [Heap.one]), Fgt.keep ?_⟩
  rw [hl]
  exact K
end
end Go.Proofs.Ytbanccfdojgocaa

namespace Go.Proofs.Ytbanccfdojgocaa
open Go
section
variable {α : Type}
theorem repL_map {t t' : Ty α} {h : Heap} {p : Option Addr} {l : List α} (hs : t.sz = t'.sz) (hr : ∀ cs x, x ∈ l → t.rep h cs x → t'.rep h cs x) (H : @repL α t h p l) : @repL α t' h p l := by
  intro i hi
  obtain ⟨b, off, vs, h1, h2, h3⟩ := H i hi
  refine ⟨b, off, vs, h1, ?_, hr _ _ (List.getElem_mem hi) h3⟩
  have h2 : hcells h b (off + i * t.sz) t.sz = some vs := h2
  show hcells h b (off + i * t'.sz) t'.sz = some vs
  rw [← hs]; exact h2
theorem repS_map {t t' : Ty α} {h : Heap} {cs : List Value} {l : List α} (hs : t.sz = t'.sz) (hr : ∀ cs x, x ∈ l → t.rep h cs x → t'.rep h cs x) (H : @repS α t h cs l) : @repS α t' h cs l := by
  obtain ⟨p, cap, h1, h2, h3, h4⟩ := H
  exact ⟨p, cap, h1, h2, h3, repL_map hs hr h4⟩
theorem ownL_map {t t' : Ty α} (hs : t.sz = t'.sz) : ∀ {l : List α} {cs : List Value} {r : Heap}, (∀ r cs x, x ∈ l → t.own r cs x → t'.own r cs x) → @ownL α t l cs r → @ownL α t' l cs r
  | [], _, _, _, H => H
  | x :: l, cs, r, ho, ⟨r1, r2, h1, h2, h3, h4⟩ => by
    refine ⟨r1, r2, h1, h2, ?_, ?_⟩
    · have := ho r1 _ x (by simp) h3
      show t'.own r1 (cs.take t'.sz) x
      rw [← hs]; exact this
    · have := ownL_map hs (fun r cs x hx => ho r cs x (by simp [hx])) h4
      show @ownL α t' l (cs.drop t'.sz) r2
      rw [← hs]; exact this
theorem ownS_map {t t' : Ty α} (hs : t.sz = t'.sz) {l : List α} {cs : List Value} {r : Heap} (ho : ∀ r cs x, x ∈ l → t.own r cs x → t'.own r cs x) (H : @ownS α t r cs l) : @ownS α t' r cs l := by
  rcases H with h1 | ⟨b, off, cap, cells, el, r', h1, h2, h3, h4, h5, h6⟩
  · exact .inl h1
  · refine .inr ⟨b, off, cap, cells, el, r', h1, h2, ?_, h4, h5, ownL_map hs ho h6⟩
    have h3 : off + cap * t.sz ≤ cells.length := h3
    show off + cap * t'.sz ≤ cells.length
    rw [← hs]; exact h3
end
theorem exists_max {P : Nat → Nat → Prop} (hu : ∀ i n, P i n → P i (n + 1)) : ∀ m, (∀ i, i < m → ∃ n, P i n) → ∃ N, ∀ i, i < m → P i N
  | 0, _ => ⟨0, fun i hi => absurd hi (Nat.not_lt_zero i)⟩
  | m + 1, h => by
    have up : ∀ i n k, P i n → P i (n + k) := by
      intro i n k hp
      induction k with
      | zero => exact hp
      | succ k ih => exact hu _ _ ih
    obtain ⟨N, hN⟩ := exists_max hu m fun i hi => h i (by omega)
    obtain ⟨M, hM⟩ := h m (by omega)
    refine ⟨N + M, fun i hi => ?_⟩
    by_cases e : i = m
    · subst e; rw [Nat.add_comm]; exact up _ _ _ hM
    · exact up _ _ _ (hN i (by omega))
inductive Exq where
  | mk (kind val : Int) (kids : List Exq)
namespace Exq
def kind : Exq → Int | .mk k _ _ => k
def val : Exq → Int | .mk _ v _ => v
def kids : Exq → List Exq | .mk _ _ l => l
@[simp] theorem kind_mk {k v : Int} {l : List Exq} : (Exq.mk k v l).kind = k := rfl
@[simp] theorem val_mk {k v : Int} {l : List Exq} : (Exq.mk k v l).val = v := rfl
@[simp] theorem kids_mk {k v : Int} {l : List Exq} : (Exq.mk k v l).kids = l := rfl
theorem ext_iff' {a b : Exq} : a = b ↔ a.kind = b.kind ∧ a.val = b.val ∧ a.kids = b.kids := by
  cases a; cases b; simp
theorem ind {p : Exq → Prop} (h : ∀ x : Exq, (∀ y ∈ x.kids, p y) → p x) : ∀ x, p x
  | .mk k v l => h _ fun y hy => ind h y
termination_by x => SizeOf.sizeOf x
decreasing_by
  have h1 : y ∈ l := hy
  have := List.sizeOf_lt_of_mem h1
  simp only [Exq.mk.sizeOf_spec]
  omega
def tup (x : Exq) : Int × Int × List Exq := (x.kind, x.val, x.kids)
@[reducible] def T0 : Ty Exq where
  agg := true
  sz := 3
  rep := fun _ _ _ => False
  own := fun _ _ _ => False
  one := fun h => by simp at h
  len := fun h => h.elim
  cell := fun h => h.elim
  mono := fun _ h => h
  own_rep := fun h => h.elim
@[reducible] def tyTup (t : Ty Exq) : Ty (Int × Int × List Exq) := @instTyProd Int (Int × List Exq) instTyInt (@instTyProd Int (List Exq) instTyInt (@instTyList Exq t))
@[reducible] def T : Nat → Ty Exq
  | 0 => T0
  | n + 1 => @Ty.via Exq (Int × Int × List Exq) (tyTup (T n)) tup
theorem T_sz : ∀ n, (T n).sz = 3
  | 0 => rfl
  | _ + 1 => rfl
theorem tup_rep {t t' : Ty Exq} (hs : t.sz = t'.sz) {h : Heap} {cs : List Value} {x : Exq} (hr : ∀ cs y, y ∈ x.kids → t.rep h cs y → t'.rep h cs y) (H : (tyTup t).rep h cs x.tup) : (tyTup t').rep h cs x.tup := by
  obtain ⟨c1, c2, e1, h1, c3, c4, e2, h2, h3⟩ := H
  exact ⟨c1, c2, e1, h1, c3, c4, e2, h2, repS_map hs hr h3⟩
theorem tup_own {t t' : Ty Exq} (hs : t.sz = t'.sz) {r : Heap} {cs : List Value} {x : Exq} (hr : ∀ r cs y, y ∈ x.kids → t.own r cs y → t'.own r cs y) (H : (tyTup t).own r cs x.tup) : (tyTup t').own r cs x.tup := by
  obtain ⟨c1, c2, r1, r2, e1, e2, d1, h1, c3, c4, r3, r4, e3, e4, d2, h2, h3⟩ := H
  exact ⟨c1, c2, r1, r2, e1, e2, d1, h1, c3, c4, r3, r4, e3, e4, d2, h2, ownS_map hs hr h3⟩
theorem rep_up : ∀ (n : Nat) {h : Heap} {cs : List Value} {x : Exq}, (T n).rep h cs x → (T (n + 1)).rep h cs x
  | 0, _, _, _, H => H.elim
  | n + 1, h, cs, x, H => tup_rep (t := T n) (t' := T (n + 1)) (by rw [T_sz, T_sz]) (fun _ _ _ => rep_up n) H
theorem own_up : ∀ (n : Nat) {r : Heap} {cs : List Value} {x : Exq}, (T n).own r cs x → (T (n + 1)).own r cs x
  | 0, _, _, _, H => H.elim
  | n + 1, h, cs, x, H => tup_own (t := T n) (t' := T (n + 1)) (by rw [T_sz, T_sz]) (fun _ _ _ _ => own_up n) H
theorem own_le {n m : Nat} (hle : n ≤ m) {r : Heap} {cs : List Value} {x : Exq} (H : (T n).own r cs x) : (T m).own r cs x := by
  obtain ⟨k, rfl⟩ := Nat.exists_eq_add_of_le hle
  induction k with
  | zero => exact H
  | succ k ih => exact own_up _ (ih (by omega))
end Exq
instance instTyExq : Ty Exq where
  agg := true
  sz := 3
  rep := fun h cs x => ∃ n, (Exq.T n).rep h cs x
  own := fun r cs x => ∃ n, (Exq.T n).own r cs x
  one := fun h => by simp at h
  len := fun ⟨n, h⟩ => ((Exq.T n).len h).trans (Exq.T_sz n)
  cell := fun ⟨n, h⟩ => (Exq.T n).cell h
  mono := fun hl ⟨n, h⟩ => ⟨n, (Exq.T n).mono hl h⟩
  own_rep := fun ⟨n, h⟩ => ⟨n, (Exq.T n).own_rep h⟩
namespace Exq
theorem rep_iff {h : Heap} {cs : List Value} {x : Exq} : Ty.rep h cs x ↔ Ty.rep h cs x.tup := by
  constructor
  · rintro ⟨n, H⟩
    cases n with
    | zero => exact H.elim
    | succ n => exact tup_rep (t := T n) (t' := instTyExq) (T_sz n) (fun _ _ _ h => ⟨n, h⟩) H
  · rintro ⟨c1, c2, e1, h1, c3, c4, e2, h2, p, cap, e3, h3, h4, hl⟩
    have hl : ∀ i, i < x.kids.length → ∃ n, ∃ (hi : i < x.kids.length), ∃ b off vs, p = some ⟨b, off, none⟩ ∧ hcells h b (off + i * 3) 3 = some vs ∧ (T n).rep h vs x.kids[i] := by
      intro i hi
      obtain ⟨b, off, vs, g1, g2, n, g3⟩ := hl i hi
      exact ⟨n, hi, b, off, vs, g1, g2, g3⟩
    obtain ⟨N, hN⟩ := exists_max (P := fun i n => ∃ (hi : i < x.kids.length), ∃ b off vs, p = some ⟨b, off, none⟩ ∧ hcells h b (off + i * 3) 3 = some vs ∧ (T n).rep h vs x.kids[i]) (fun i n ⟨hi, b, off, vs, g1, g2, g3⟩ => ⟨hi, b, off, vs, g1, g2, rep_up n g3⟩) _ hl
    refine ⟨N + 1, c1, c2, e1, h1, c3, c4, e2, h2, p, cap, e3, h3, h4, fun i hi => ?_⟩
    obtain ⟨_, b, off, vs, g1, g2, g3⟩ := hN i hi
    refine ⟨b, off, vs, g1, ?_, g3⟩
    show hcells h b (off + i * (T N).sz) (T N).sz = some vs
    rw [T_sz]; exact g2
theorem ownL_max : ∀ {l : List Exq} {cs : List Value} {r : Heap}, ownL l cs r → ∃ N, @ownL Exq (T N) l cs r
  | [], _, _, H => ⟨0, H⟩
  | x :: l, cs, r, ⟨r1, r2, h1, h2, ⟨n, h3⟩, h4⟩ => by
    obtain ⟨N, h5⟩ := ownL_max h4
    refine ⟨n + N, r1, r2, h1, h2, ?_, ?_⟩
    · show (T (n + N)).own r1 (cs.take (T (n + N)).sz) x
      rw [T_sz]; exact own_le (by omega) h3
    · show @ownL Exq (T (n + N)) l (cs.drop (T (n + N)).sz) r2
      rw [T_sz]; exact ownL_map (t := T N) (t' := T (n + N)) (by rw [T_sz, T_sz]) (fun _ _ _ _ => own_le (by omega)) h5
theorem own_iff {r : Heap} {cs : List Value} {x : Exq} : Ty.own r cs x ↔ Ty.own r cs x.tup := by
  constructor
  · rintro ⟨n, H⟩
    cases n with
    | zero => exact H.elim
    | succ n => exact tup_own (t := T n) (t' := instTyExq) (T_sz n) (fun _ _ _ _ h => ⟨n, h⟩) H
  · rintro ⟨c1, c2, r1, r2, e1, e2, d1, h1, c3, c4, r3, r4, e3, e4, d2, h2, h3⟩
    rcases h3 with h3 | ⟨b, off, cap, cells, el, r', g1, g2, g3, g4, g5, g6⟩
    · exact ⟨1, c1, c2, r1, r2, e1, e2, d1, h1, c3, c4, r3, r4, e3, e4, d2, h2, .inl h3⟩
    · obtain ⟨N, h7⟩ := ownL_max g6
      refine ⟨N + 1, c1, c2, r1, r2, e1, e2, d1, h1, c3, c4, r3, r4, e3, e4, d2, h2, .inr ⟨b, off, cap, cells, el, r', g1, g2, ?_, g4, g5, h7⟩⟩
      show off + cap * (T N).sz ≤ cells.length
      rw [T_sz]; exact g3
end Exq
def I64 (n : Int) : Prop := -9223372036854775808 ≤ n ∧ n < 9223372036854775808
theorem I64.lo {n : Int} (h : I64 n) : -9223372036854775808 ≤ n := h.1
theorem I64.hi {n : Int} (h : I64 n) : n < 9223372036854775808 := h.2
section
variable {g h r : Heap} {Γ : List HP} {v : Value} {cs : List Value}
theorem repExq {x : Exq} : Ty.rep h cs x ↔ ∃ w, cs = [.int .i64 x.kind, .int .i64 x.val, w] ∧ I64 x.kind ∧ I64 x.val ∧ Rep h w x.kids := by
  rw [Exq.rep_iff]
  constructor
  · rintro ⟨c1, c2, rfl, ⟨rfl, h1⟩, c3, c4, rfl, ⟨rfl, h2⟩, h3⟩
    obtain ⟨w, rfl, h4⟩ := (rep1 (α := List Exq) rfl).1 h3
    exact ⟨w, rfl, h1, h2, h4⟩
  · rintro ⟨w, rfl, h1, h2, h3⟩
    exact ⟨[_], [_, _], rfl, ⟨rfl, h1⟩, [_], [_], rfl, ⟨rfl, h2⟩, (rep1 (α := List Exq) rfl).2 ⟨w, rfl, h3⟩⟩
theorem ownExq {x : Exq} : Ty.own r cs x ↔ ∃ w, cs = [.int .i64 x.kind, .int .i64 x.val, w] ∧ I64 x.kind ∧ I64 x.val ∧ Own r w x.kids := by
  rw [Exq.own_iff]
  constructor
  · rintro ⟨c1, c2, r1, r2, rfl, rfl, d1, ⟨rfl, rfl, h1⟩, c3, c4, r3, r4, rfl, rfl, d2, ⟨rfl, rfl, h2⟩, h3⟩
    obtain ⟨w, rfl, h4⟩ := (own1 (α := List Exq) rfl).1 h3
    exact ⟨w, rfl, h1, h2, by rw [nil_add, nil_add]; exact h4⟩
  · rintro ⟨w, rfl, h1, h2, h3⟩
    exact ⟨[_], [_, _], Heap.nil, r, rfl, by simp, by simp, ⟨rfl, rfl, h1⟩, [_], [_], Heap.nil, r, rfl, by simp, by simp, ⟨rfl, rfl, h2⟩, (own1 (α := List Exq) rfl).2 ⟨w, rfl, h3⟩⟩
theorem Rep_Exq {x : Exq} : Rep h v x ↔ ∃ w, v = .agg #[.int .i64 x.kind, .int .i64 x.val, w] ∧ I64 x.kind ∧ I64 x.val ∧ Rep h w x.kids := by
  constructor
  · rintro ⟨cs, rfl, H⟩
    obtain ⟨w, rfl, h1⟩ := repExq.1 H
    exact ⟨w, rfl, h1⟩
  · rintro ⟨w, rfl, h1⟩
    exact ⟨_, rfl, repExq.2 ⟨w, rfl, h1⟩⟩
theorem HS.unExq {x : Exq} (H : HS g (ow v x :: Γ) h) : ∃ w, v = .agg #[.int .i64 x.kind, .int .i64 x.val, w] ∧ I64 x.kind ∧ I64 x.val ∧ HS g (ow w x.kids :: Γ) h := by
  obtain ⟨g', r, rfl, d, ⟨cs, rfl, O⟩, H⟩ := H
  obtain ⟨w, rfl, h1, h2, h3⟩ := ownExq.1 O
  exact ⟨w, rfl, h1, h2, g', r, rfl, d, h3, H⟩
theorem HS.mkExq {x : Exq} {w : Value} (H : HS g (ow w x.kids :: Γ) h) (h1 : I64 x.kind) (h2 : I64 x.val) : HS g (ow (.agg #[.int .i64 x.kind, .int .i64 x.val, w]) x :: Γ) h :=
  H.imp fun _ O => ⟨_, rfl, ownExq.2 ⟨w, rfl, h1, h2, O⟩⟩
theorem HS.mkExq' {kd vl : Int} {l : List Exq} {w : Value} (H : HS g (ow w l :: Γ) h) (h1 : I64 kd) (h2 : I64 vl) : HS g (ow (.agg #[.int .i64 kd, .int .i64 vl, w]) (Exq.mk kd vl l) :: Γ) h :=
  HS.mkExq (x := Exq.mk kd vl l) H h1 h2
theorem Rep.aExq {x : Exq} (hr : Rep h v x) : pgetV (some v) 0 (some 3) = some v ∧ v.cells.size = 3 ∧ allOne v.cells.toList = true ∧ Value.agg v.cells = v := hr.A rfl rfl
end
noncomputable instance : DecidableEq Exq := fun _ _ => Classical.propDecidable _
structure Ed where
  frm : Int
  to : Int
  guard : Exq
  var : Int
  value : Exq
  sync : Int
instance instTyEd : Ty Ed := Ty.via fun (e : Ed) => (e.frm, e.to, e.guard, e.var, e.value, e.sync)
noncomputable instance : DecidableEq Ed := fun _ _ => Classical.propDecidable _
structure Pr where
  locs : Int
  edges : List Ed
instance instTyPr : Ty Pr := Ty.via fun (p : Pr) => (p.locs, p.edges)
noncomputable instance : DecidableEq Pr := fun _ _ => Classical.propDecidable _
structure Sy where
  init : List Int
  procs : List Pr
instance instTySy : Ty Sy := Ty.via fun (s : Sy) => (s.init, s.procs)
noncomputable instance : DecidableEq Sy := fun _ _ => Classical.propDecidable _
theorem Ed.ext_iff' {a b : Ed} : a = b ↔ a.frm = b.frm ∧ a.to = b.to ∧ a.guard = b.guard ∧ a.var = b.var ∧ a.value = b.value ∧ a.sync = b.sync := by
  cases a; cases b; simp
theorem Pr.ext_iff' {a b : Pr} : a = b ↔ a.locs = b.locs ∧ a.edges = b.edges := by
  cases a; cases b; simp
theorem Sy.ext_iff' {a b : Sy} : a = b ↔ a.init = b.init ∧ a.procs = b.procs := by
  cases a; cases b; simp
def Ed.cs (e : Ed) (w1 w2 : Value) : List Value := [.int .i64 e.frm, .int .i64 e.to, .int .i64 e.guard.kind, .int .i64 e.guard.val, w1, .int .i64 e.var, .int .i64 e.value.kind, .int .i64 e.value.val, w2, .int .i64 e.sync]
structure Ed.ok (e : Ed) : Prop where
  frm : I64 e.frm
  to : I64 e.to
  gk : I64 e.guard.kind
  gv : I64 e.guard.val
  var : I64 e.var
  vk : I64 e.value.kind
  vv : I64 e.value.val
  sync : I64 e.sync
section
variable {g h r : Heap} {Γ : List HP} {v : Value} {cs : List Value}
end
end Go.Proofs.Ytbanccfdojgocaa

namespace Go.Proofs.Ytbanccfdojgocaa
open Go
theorem setC_get {cs c : List Value} {n j : Nat} (h : n + c.length ≤ cs.length) : (setC cs n c)[j]? = if j < n then cs[j]? else if j < n + c.length then c[j - n]? else cs[j]? := by
  unfold setC
  simp only [List.getElem?_append, List.getElem?_take, List.getElem?_drop, List.length_append, List.length_take]
  rw [Nat.min_eq_left (by omega : n ≤ cs.length)]
  by_cases h1 : j < n
  · rw [if_pos (by omega), if_pos h1, if_pos h1, if_pos h1]
  · by_cases h2 : j < n + c.length
    · rw [if_pos h2, if_neg h1, if_neg h1, if_pos h2]
    · rw [if_neg h2, if_neg h1, if_neg h2]
      congr 1; omega
theorem setC_over {cs d c : List Value} {n fo : Nat} (hd : fo + d.length ≤ c.length) (hl : n + c.length ≤ cs.length) : setC (setC cs (n + fo) d) n c = setC cs n c := by
  apply List.ext_getElem?
  intro j
  rw [setC_get (by rw [setC_length (by omega)]; exact hl), setC_get hl, setC_get (by omega)]
  by_cases h1 : j < n
  · rw [if_pos h1, if_pos h1, if_pos (by omega)]
  · by_cases h2 : j < n + c.length
    · rw [if_neg h1, if_neg h1, if_pos h2, if_pos h2]
    · rw [if_neg h1, if_neg h1, if_neg h2, if_neg h2, if_neg (by omega), if_neg (by omega)]
theorem setC_slot {cs d : List Value} {n fo m : Nat} (hd : fo + d.length ≤ m) (hl : n + m ≤ cs.length) : ((setC cs (n + fo) d).drop n).take m = setC ((cs.drop n).take m) fo d := by
  apply List.ext_getElem?
  intro j
  rw [setC_get (by simp; omega)]
  simp only [List.getElem?_take, List.getElem?_drop]
  by_cases h1 : j < m
  · rw [if_pos h1, if_pos h1, setC_get (by omega)]
    by_cases h2 : j < fo
    · rw [if_pos (by omega), if_pos h2]
    · by_cases h3 : j < fo + d.length
      · rw [if_neg (by omega), if_pos (by omega), if_neg h2, if_pos h3]
        congr 1; omega
      · rw [if_neg (by omega), if_neg (by omega), if_neg h2, if_neg h3]
  · rw [if_neg h1, if_neg h1, if_neg (by omega), if_neg (by omega)]
section
variable {α : Type} [Ty α] {P : Program} {k : Env → Heap → Prop} {e : Env} {g h : Heap} {Γ : List HP} {v w : Value} {l : List α} {i : Nat} {cs : List Value}
theorem HS.holest (H : HS g (hole v l i (.agg cs.toArray) :: Γ) h) (ha : Ty.agg α = true) {a x : O} {n fo m : Nat} (hn : n = Ty.sz α) (hp : a.get e = some (elpo n v i fo)) (hx : x.get e = some w) (hu : w.cells.size = m) (hu1 : allOne w.cells.toList = true) (hf : fo + m ≤ n)
    (K : ∀ h', HS g (hole v l i (.agg (setC cs fo w.cells.toList).toArray) :: Γ) h' → k e h') : (A.ex none (.store m a x)).wp P k e h := by
  subst hn
  obtain ⟨g', r, rfl, d, Ho, H⟩ := H
  obtain ⟨b, off, cap, cells, el, r', rfl, hi, ⟨h1, hM⟩, h2, rfl, h4, h5, h6⟩ := Ho
  have hs := slot_le (s := Ty.sz α) hi h1
  obtain ⟨d3, d4⟩ := Dj_add.1 d
  have hb : (g'.add ((Heap.one b (.cells cells.toArray el (0, 0))).add r')) b = some (.cells cells.toArray el (0, 0)) := by
    have := Dj_one.1 d3
    simp [Heap.add, Heap.one, this, h4]
  have hw : w.cells.toList.length = m := by simpa using hu
  have hcs : cs = ((cells.drop off).drop (i * Ty.sz α)).take (Ty.sz α) := by
    simpa [valC, ha] using h5
  have hdr : (setC cells (off + i * Ty.sz α + fo) w.cells.toList).drop off = setC (cells.drop off) (i * Ty.sz α + fo) w.cells.toList := by
    rw [Nat.add_assoc, drop_setC (by rw [hw]; omega)]
  refine ⟨b, off + i * Ty.sz α + fo, w, g'.add ((Heap.one b (.cells (setC cells (off + i * Ty.sz α + fo) w.cells.toList).toArray el (0, 0))).add r'), ?_, hx, hu, ?_,
    Fgt.keep (K _ ⟨g', _, rfl, Dj_add.2 ⟨Dj_one.2 (Dj_one.1 d3), d4⟩, ⟨b, off, cap, _, el, r', rfl, hi, ⟨h1, hM⟩, ?_, rfl, h4, ?_, ?_⟩, H⟩)⟩
  · rw [hp]; simp [elpo, add_none]
  · unfold hstore
    rw [hb]
    simp only
    rw [if_pos (by refine ⟨trivial, ?_, ?_⟩; · simp [hu]; omega
                   · rw [allOne_eq]; exact hu1), add_one_set (Dj_one.1 d3) h4]
  · rw [setC_length (by rw [hw]; omega)]; exact h2
  · rw [hdr, setC_slot (by rw [hw]; exact hf) (by simp; omega), ← hcs]
    simp [valC, ha]
  · intro r1' c' y dd o
    have hlen := Ty.len (Ty.own_rep o)
    rw [hdr, setC_over (by rw [hw, hlen]; exact hf) (by rw [hlen]; simp; omega)]
    exact h6 r1' c' y dd o
theorem hld_parts {n : Nat} (hv : hload h (some (elp n v i)) (some n) = some (.agg cs.toArray)) : (∀ fo, faV fo (elp n v i) = some (elpo n v i fo)) ∧ (∀ a b, faV b (elpo n v i a) = some (elpo n v i (a + b))) ∧
    (∀ fo, fo < n → hload h (some (elpo n v i fo)) none = cs[fo]?) ∧ (∀ fo m, fo + m ≤ n → hload h (some (elpo n v i fo)) (some m) = some (.agg ((cs.drop fo).take m).toArray)) := by
  unfold elp at hv
  split at hv
  case h_2 => simp [undef, hload] at hv
  case h_1 p c d =>
    have hz : ∃ b off, p.add (i * n) = ⟨b, off, none⟩ := by
      generalize hq : p.add (i * n) = q at hv
      obtain ⟨b, off, sp⟩ := q
      cases sp with
      | none => exact ⟨b, off, rfl⟩
      | some s => simp [hload] at hv
    obtain ⟨b, off, hz⟩ := hz
    rw [hz] at hv
    simp only [hload, Option.map_eq_some_iff] at hv
    obtain ⟨l, h1, h2⟩ := hv
    have h2 : l = cs := by simpa using h2
    subst h2
    have h3 := hcells_get h1
    have hsub : ∀ m fo, fo + m ≤ n → hcells h b (off + fo) m = some ((l.drop fo).take m) := by
      intro m
      induction m with
      | zero => intro fo _; simp [hcells]
      | succ m ih =>
        intro fo hf
        have h4 := ih (fo + 1) (by omega)
        have h5 := h3.2 fo (l[fo]'(by rw [h3.1]; omega)) (List.getElem?_eq_getElem _)
        simp only [hcells, h5]
        rw [show off + fo + 1 = off + (fo + 1) by omega, h4]
        simp only [Option.some.injEq]
        rw [List.drop_eq_getElem_cons (by rw [h3.1]; omega : fo < l.length), List.take_succ_cons]
    refine ⟨fun fo => ?_, fun a c => ?_, fun fo hf => ?_, fun fo m hf => ?_⟩
    · simp only [elp, elpo, hz, add_none, faV]
    · simp only [elpo, hz, add_none, faV]
      simp [Nat.add_assoc]
    · have h5 := h3.2 fo (l[fo]'(by rw [h3.1]; omega)) (List.getElem?_eq_getElem _)
      simp only [elpo, hz, add_none, hload, h5]
      exact (List.getElem?_eq_getElem _).symm
    · simp only [elpo, hz, add_none, hload, hsub m fo hf]
      rfl
theorem HS.holeP (H : HS g (hole v l i (.agg cs.toArray) :: Γ) h) (ha : Ty.agg α = true) {n : Nat} (hn : n = Ty.sz α) : hload h (some (elp n v i)) (some n) = some (.agg cs.toArray) := by
  have := H.holeld
  subst hn
  simpa [szo, ha] using this
end
inductive Mix (α : Type) where
  | raw (cs : List Value)
  | new (x : α)
section
variable {α : Type} [Ty α]
def Mix.rep (h : Heap) (cs : List Value) : Mix α → Prop
  | .raw c => cs = c ∧ c.length = Ty.sz α ∧ ∀ v ∈ c, v.oneCell' = true
  | .new x => Ty.rep h cs x
def Mix.own (r : Heap) (cs : List Value) : Mix α → Prop
  | .raw c => r = Heap.nil ∧ cs = c ∧ c.length = Ty.sz α ∧ ∀ v ∈ c, v.oneCell' = true
  | .new x => Ty.own r cs x
instance instTyMix : Ty (Mix α) where
  agg := Ty.agg α
  sz := Ty.sz α
  rep := Mix.rep
  own := Mix.own
  one := Ty.one
  len := by
    intro h cs x hx
    cases x with
    | raw c => obtain ⟨rfl, h1, _⟩ := hx; exact h1
    | new x => exact Ty.len (x := x) hx
  cell := by
    intro h cs x hx
    cases x with
    | raw c => obtain ⟨rfl, _, h1⟩ := hx; exact h1
    | new x => exact Ty.cell (x := x) hx
  mono := by
    intro h h' cs x hl hx
    cases x with
    | raw c => exact hx
    | new x => exact Ty.mono (x := x) hl hx
  own_rep := by
    intro r cs x hx
    cases x with
    | raw c => exact hx.2
    | new x => exact Ty.own_rep (x := x) hx
theorem ownL_new : ∀ {l : List α} {cs : List Value} {r : Heap}, ownL (l.map Mix.new) cs r → ownL l cs r
  | [], _, _, H => H
  | x :: l, cs, r, ⟨r1, r2, h1, h2, h3, h4⟩ => ⟨r1, r2, h1, h2, h3, ownL_new h4⟩
theorem HS.mixed {g h : Heap} {Γ : List HP} {v : Value} {l : List α} (H : HS g (ow v (l.map Mix.new) :: Γ) h) : HS g (ow v l :: Γ) h := by
  refine H.imp fun r O => ?_
  have O : Own r v (l.map (Mix.new (α := α))) := O
  rcases Own_list.1 O with ⟨p, rfl, h1, h2, h3⟩ | ⟨b, off, cap, cells, el, r', rfl, h1, h2, h3, h4, h5⟩
  · exact Own_list.2 (.inl ⟨p, rfl, by simpa using h1, h2, h3⟩)
  · exact Own_list.2 (.inr ⟨b, off, cap, cells, el, r', by simp, by simpa using h1, h2, h3, h4, ownL_new h5⟩)
theorem HS.newO {g h : Heap} {Γ : List HP} {v : Value} {x : α} (H : HS g (ow v x :: Γ) h) : HS g (ow v (Mix.new x) :: Γ) h := H.imp fun _ O => O
structure Raws (h : Heap) (l : List α) (M : List (Mix α)) : Prop where
  len : M.length = l.length
  at' : ∀ (i : Nat) (hi : i < l.length), ∃ c, M[i]? = some (.raw c) ∧ Ty.rep h c l[i]
theorem Rep.srcR {h : Heap} {v : Value} {l : List α} (hr : Rep h v l) : ∃ (M : List (Mix α)) (cs : List Value), Raws h l M ∧ srcV h (Ty.sz α) (some v) = some (l.length, cs) ∧ cs.length = l.length * Ty.sz α ∧ ownL M cs Heap.nil := by
  obtain ⟨p, cap, rfl, h1, h2, h3⟩ := Rep_list.1 hr
  cases hl : l with
  | nil => subst hl; exact ⟨[], [], ⟨rfl, fun i hi => absurd hi (Nat.not_lt_zero i)⟩, rfl, by simp, rfl⟩
  | cons y l' =>
    rw [← hl]
    obtain ⟨b, off, vs, rfl, _⟩ := h3 0 (by rw [hl]; simp)
    have key : ∀ n, n ≤ l.length → ∃ (M : List (Mix α)) (cs : List Value), M.length = n ∧ (∀ (i : Nat) (hi : i < l.length), i < n → ∃ c, M[i]? = some (.raw c) ∧ Ty.rep h c l[i]) ∧ hcells h b off (n * Ty.sz α) = some cs ∧ cs.length = n * Ty.sz α ∧ ownL M cs Heap.nil := by
      intro n
      induction n with
      | zero => intro _; exact ⟨[], [], rfl, fun i _ hi => absurd hi (Nat.not_lt_zero i), by simp [hcells], by simp, rfl⟩
      | succ n ih =>
        intro hn
        obtain ⟨M, cs, g1, g2, g3, g4, g5⟩ := ih (by omega)
        obtain ⟨b', off', vs, e1, e2, e3⟩ := h3 n (by omega)
        simp only [Option.some.injEq, Addr.mk.injEq] at e1
        obtain ⟨rfl, rfl, _⟩ := e1
        have hlen := Ty.len e3
        refine ⟨M ++ [.raw vs], cs ++ vs, by simp [g1], ?_, ?_, ?_, ?_⟩
        · intro i hi hin
          by_cases hh : i < n
          · obtain ⟨c, f1, f2⟩ := g2 i hi hh
            exact ⟨c, by rw [List.getElem?_append_left (by omega)]; exact f1, f2⟩
          · obtain rfl : i = n := by omega
            exact ⟨vs, by rw [← g1, List.getElem?_append_right (Nat.le_refl _)]; simp, e3⟩
        · rw [show (n + 1) * Ty.sz α = n * Ty.sz α + Ty.sz α by rw [Nat.add_mul]; omega]
          exact hcells_add g3 e2
        · rw [List.length_append, g4, hlen, Nat.add_mul]; omega
        · have := ownL_append (l2 := [Mix.raw vs]) (cs2 := vs) (r2 := Heap.nil) g5 (by rw [g4, g1]; rfl) ⟨Heap.nil, Heap.nil, by simp, by simp, ⟨rfl, ?_, hlen, Ty.cell e3⟩, rfl⟩ (by simp)
          · simpa using this
          · show List.take (Ty.sz α) vs = vs
            rw [List.take_of_length_le (by omega)]
    obtain ⟨M, cs, g1, g2, g3, g4, g5⟩ := key l.length (Nat.le_refl _)
    exact ⟨M, cs, ⟨g1, fun i hi => g2 i hi hi⟩, srcV_slice g3, g4, g5⟩
theorem HS.appPLr {P : Program} {k : Env → Heap → Prop} {e : Env} {g h : Heap} {Γ : List HP} {u : Value} {l2 : List α} (H : HS g Γ h) {bytes esz : Nat} {zero : List Value} {j : Nat} {x : O} {dst : Nat} {c0 : Array Value} (hp : eget e j = some (.agg c0)) (hx : x.get e = some u) (hr : Rep h u l2) (hsz : esz = Ty.sz α) (hz : zero.length = Ty.sz α) (hb : l2.length * bytes ≤ 140737488355328)
    (K : ∀ v' h' (M : List (Mix α)), Raws h l2 M → HS g (ow v' M :: Γ) h' → k (eset e dst (some v')) h') : (A.ex (some dst) (.app bytes esz zero (.p 0 j) (.o x))).wp P k e h := by
  subst hsz
  obtain ⟨M, cs, hM, h1, h2, h3⟩ := hr.srcR
  have hl := hM.len
  refine a_appP (α := Mix α) (rs := Heap.nil) (l2 := M) hp ?_ (by rw [hl]; exact h2) h3 Dj_nil (by simp) hz (by rw [hl]; exact hb) (by have := hr.lt; omega) fun v' r' d' O' => K _ _ M hM ⟨h, r', rfl, d', O', H⟩
  simp only [AO.src, hx, hl]
  exact h1
end
structure Mixed {α : Type} [Ty α] (h : Heap) (l : List α) (f : α → α) (M : List (Mix α)) (i : Nat) : Prop where
  len : M.length = l.length
  done : M.take i = ((l.map f).take i).map Mix.new
  rest : ∀ (j : Nat) (hj : j < l.length), i ≤ j → ∃ c, M[j]? = some (.raw c) ∧ Ty.rep h c l[j]
section
variable {α : Type} [Ty α] {h : Heap} {l : List α} {f : α → α} {M : List (Mix α)} {i : Nat}
theorem Mixed.zero (R : Raws h l M) : Mixed h l f M 0 := ⟨R.len, rfl, fun j hj _ => R.at' j hj⟩
theorem Mixed.le {h' : Heap} (H : Mixed h l f M i) (hl : h.le h') : Mixed h' l f M i := ⟨H.len, H.done, fun j hj hij => by
  obtain ⟨c, h1, h2⟩ := H.rest j hj hij
  exact ⟨c, h1, Ty.mono hl h2⟩⟩
theorem Mixed.get (H : Mixed h l f M i) (hi : i < l.length) : ∃ c, M[i]'(by rw [H.len]; exact hi) = .raw c ∧ Ty.rep h c l[i] := by
  obtain ⟨c, h1, h2⟩ := H.rest i hi (Nat.le_refl i)
  refine ⟨c, ?_, h2⟩
  rw [List.getElem?_eq_getElem (by rw [H.len]; exact hi)] at h1
  exact Option.some.inj h1
theorem Mixed.step (H : Mixed h l f M i) (hi : i < l.length) : Mixed h l f (M.set i (.new (f l[i]))) (i + 1) := by
  refine ⟨by simp [H.len], ?_, fun j hj hij => ?_⟩
  · have h1 : M.take i = (l.map fun x => Mix.new (f x)).take i := by rw [H.done, List.map_take, List.map_map]; rfl
    have := take_set_succ (x := l.map fun x => Mix.new (f x)) h1 (by simpa using hi) (by simp [H.len])
    rw [List.getElem_map] at this
    rw [this, List.map_take, List.map_map]
    rfl
  · rw [List.getElem?_set_ne (by omega)]
    exact H.rest j hj (by omega)
theorem Mixed.all (H : Mixed h l f M i) (hi : l.length ≤ i) : M = (l.map f).map Mix.new := by
  have := H.done
  rw [List.take_of_length_le (by rw [H.len]; exact hi), List.take_of_length_le (by simpa using hi)] at this
  exact this
end
mutual
def Exq.size : Exq → Nat
  | .mk _ _ l => Exq.sizes l
def Exq.sizes : List Exq → Nat
  | [] => 0
  | x :: l => 1 + x.size + Exq.sizes l
end
instance instSzExq : Sz Exq := ⟨Exq.size⟩
theorem Exq.sizes_eq : ∀ l, Exq.sizes l = Sz.sz l
  | [] => by simp [Exq.sizes, sz_list, szL]
  | x :: l => by
    have := Exq.sizes_eq l
    rw [sz_list] at this ⊢
    simp only [Exq.sizes, szL, List.length_cons, this]
    show 1 + Sz.sz x + _ = _
    omega
theorem sz_Exq (x : Exq) : Sz.sz x = Sz.sz x.kids := by
  cases x with
  | mk k v l => exact Exq.sizes_eq l
instance instSzEd : Sz Ed := ⟨fun e => Sz.sz e.guard + Sz.sz e.value⟩
instance instSzPr : Sz Pr := ⟨fun p => Sz.sz p.edges⟩
instance instSzSy : Sz Sy := ⟨fun s => Sz.sz s.init + Sz.sz s.procs⟩
mutual
def Exq.cnt : Exq → Nat
  | .mk _ _ l => 2 + Exq.cnts l
def Exq.cnts : List Exq → Nat
  | [] => 0
  | x :: l => x.cnt + Exq.cnts l
end
mutual
def Exq.wr : Int → Exq → Exq
  | k, .mk _ _ l => .mk k (k + 1) (Exq.wrs (k + 2) l)
def Exq.wrs : Int → List Exq → List Exq
  | _, [] => []
  | k, x :: l => x.wr k :: Exq.wrs (k + x.cnt) l
end
mutual
theorem Exq.cnt_wr : ∀ (k : Int) (x : Exq), (Exq.wr k x).cnt = x.cnt
  | k, .mk _ _ l => by simp only [Exq.wr, Exq.cnt, Exq.cnts_wrs (k + 2) l]
theorem Exq.cnts_wrs : ∀ (k : Int) (l : List Exq), Exq.cnts (Exq.wrs k l) = Exq.cnts l
  | _, [] => rfl
  | k, x :: l => by simp only [Exq.wrs, Exq.cnts, Exq.cnt_wr k x, Exq.cnts_wrs (k + x.cnt) l]
end
mutual
theorem Exq.wr_wr : ∀ (k j : Int) (x : Exq), Exq.wr k (Exq.wr j x) = Exq.wr k x
  | k, j, .mk _ _ l => by simp only [Exq.wr, Exq.wrs_wrs (k + 2) (j + 2) l]
theorem Exq.wrs_wrs : ∀ (k j : Int) (l : List Exq), Exq.wrs k (Exq.wrs j l) = Exq.wrs k l
  | _, _, [] => rfl
  | k, j, x :: l => by simp only [Exq.wrs, Exq.cnt_wr j x, Exq.wr_wr k j x, Exq.wrs_wrs (k + x.cnt) (j + x.cnt) l]
end
instance instMkExq : Mk Exq := ⟨Exq.cnt, Exq.wr, Exq.cnt_wr, Exq.wr_wr⟩
theorem Exq.cnts_eq : ∀ l, Exq.cnts l = Mk.cnt l
  | [] => rfl
  | x :: l => by
    have := Exq.cnts_eq l
    simp only [Exq.cnts, this]
    rfl
theorem Exq.wrs_eq : ∀ k l, Exq.wrs k l = Mk.wr k l
  | _, [] => rfl
  | k, x :: l => by
    have := Exq.wrs_eq (k + x.cnt) l
    simp only [Exq.wrs, this]
    rfl
theorem cnt_Exq (x : Exq) : Mk.cnt x = 2 + Mk.cnt x.kids := by
  cases x with
  | mk k v l => show 2 + Exq.cnts l = _; rw [Exq.cnts_eq]; rfl
theorem wr_Exq (k : Int) (x : Exq) : Mk.wr k x = Exq.mk k (k + 1) (Mk.wr (k + 2) x.kids) := by
  cases x with
  | mk kd v l => show Exq.mk k (k + 1) (Exq.wrs (k + 2) l) = _; rw [Exq.wrs_eq]; rfl
instance instMkEd : Mk Ed := ⟨fun e => Mk.cnt e.frm + Mk.cnt e.to + Mk.cnt e.guard + Mk.cnt e.var + Mk.cnt e.value + Mk.cnt e.sync,
  fun k e => ⟨Mk.wr k e.frm, Mk.wr (k + Mk.cnt e.frm) e.to, Mk.wr (k + Mk.cnt e.frm + Mk.cnt e.to) e.guard, Mk.wr (k + Mk.cnt e.frm + Mk.cnt e.to + Mk.cnt e.guard) e.var,
    Mk.wr (k + Mk.cnt e.frm + Mk.cnt e.to + Mk.cnt e.guard + Mk.cnt e.var) e.value, Mk.wr (k + Mk.cnt e.frm + Mk.cnt e.to + Mk.cnt e.guard + Mk.cnt e.var + Mk.cnt e.value) e.sync⟩,
  fun k a => by simp [Mk.cnt_wr], fun k j a => by simp [Mk.cnt_wr, Mk.wr_wr]⟩
instance instMkPr : Mk Pr := ⟨fun p => Mk.cnt p.locs + Mk.cnt p.edges, fun k p => ⟨Mk.wr k p.locs, Mk.wr (k + Mk.cnt p.locs) p.edges⟩, fun k a => by simp [Mk.cnt_wr], fun k j a => by simp [Mk.cnt_wr, Mk.wr_wr]⟩
instance instMkSy : Mk Sy := ⟨fun p => Mk.cnt p.init + Mk.cnt p.procs, fun k p => ⟨Mk.wr k p.init, Mk.wr (k + Mk.cnt p.init) p.procs⟩, fun k a => by simp [Mk.cnt_wr], fun k j a => by simp [Mk.cnt_wr, Mk.wr_wr]⟩
end Go.Proofs.Ytbanccfdojgocaa

namespace Go.Proofs.Ytbanccfdojgocaa
open Go
theorem foldl_tk {α β : Type} {f : β → α → β} {b : β} {l : List α} {i : Nat} (hi : i < l.length) : (l.take (i + 1)).foldl f b = f ((l.take i).foldl f b) l[i] := by
  rw [List.take_add_one, List.getElem?_eq_getElem hi, List.foldl_append]; rfl
def VOk (vs : List Int) : Prop := vs.length = 3 ∧ ∀ x ∈ vs, 0 ≤ x ∧ x ≤ 3
theorem VOk.len {vs : List Int} (h : VOk vs) : vs.length = 3 := h.1
theorem VOk.at {vs : List Int} (h : VOk vs) {i : Nat} (hi : i < vs.length) : 0 ≤ vs[i] ∧ vs[i] ≤ 3 := h.2 _ (List.getElem_mem hi)
noncomputable instance {vs : List Int} : Decidable (VOk vs) := Classical.propDecidable _
namespace Exq
def arity (k : Int) : Int := if k = 1 ∨ k = 2 then 0 else if k = 3 then 1 else if 4 ≤ k ∧ k ≤ 9 then 2 else -1
def most (k : Int) : Int := if k = 1 then 3 else if k = 2 then 2 else 0
structure Nd (x : Exq) : Prop where
  ar : (x.kids.length : Int) = arity x.kind
  lo : 0 ≤ x.val
  hi : x.val ≤ most x.kind
def Shp : Nat → Exq → Prop
  | 0, _ => False
  | n + 1, x => x.Nd ∧ ∀ y ∈ x.kids, Shp n y
mutual
def nod : Exq → Nat
  | .mk _ _ l => 1 + nods l
def nods : List Exq → Nat
  | [] => 0
  | x :: l => x.nod + nods l
end
theorem nod_eq (x : Exq) : x.nod = 1 + nods x.kids := by cases x; rfl
theorem nods_take : ∀ {l : List Exq} {i : Nat} (hi : i < l.length), nods (l.take (i + 1)) = nods (l.take i) + l[i].nod
  | x :: l, 0, _ => by simp [nods]
  | x :: l, i + 1, hi => by
    have := nods_take (l := l) (i := i) (by simpa using hi)
    simp only [List.take_succ_cons, nods, List.getElem_cons_succ, this]; omega
theorem nods_le : ∀ (l : List Exq) (i : Nat), nods (l.take i) ≤ nods l
  | [], i => by simp
  | x :: l, 0 => by simp [nods]
  | x :: l, i + 1 => by
    simp only [List.take_succ_cons, nods]
    have := nods_le l i
    omega
def Ok (x : Exq) : Prop := x.Shp 6 ∧ x.nod ≤ 15
noncomputable instance {x : Exq} : Decidable x.Ok := Classical.propDecidable _
def zero : Exq := .mk 0 0 []
theorem Nd.kind {x : Exq} (h : x.Nd) : 1 ≤ x.kind ∧ x.kind ≤ 9 := by
  have := h.ar
  unfold arity at this
  split at this <;> (try split at this) <;> (try split at this) <;> omega
theorem Shp.nd {n : Nat} {x : Exq} (h : x.Shp n) : x.Nd := by
  cases n with
  | zero => exact h.elim
  | succ n => exact h.1
theorem Shp.kid {n : Nat} {x : Exq} (h : x.Shp (n + 1)) {i : Nat} (hi : i < x.kids.length) : x.kids[i].Shp n := h.2 _ (List.getElem_mem hi)
theorem Shp.bnd : ∀ {n : Nat} {x : Exq}, x.Shp n → x.nod < 2 ^ n
  | 0, _, h => h.elim
  | n + 1, x, h => by
    have h1 := h.1.ar
    have h2 : x.kids.length ≤ 2 := by
      unfold arity at h1
      split at h1 <;> (try split at h1) <;> (try split at h1) <;> omega
    have h3 : nods x.kids + x.kids.length ≤ x.kids.length * 2 ^ n := by
      have key : ∀ l : List Exq, (∀ y ∈ l, Shp n y) → nods l + l.length ≤ l.length * 2 ^ n := by
        intro l
        induction l with
        | nil => intro _; simp [nods]
        | cons y l ih =>
          intro hl
          have g1 := Shp.bnd (hl y (by simp))
          have g2 := ih fun z hz => hl z (by simp [hz])
          simp only [nods, List.length_cons, Nat.add_mul]
          omega
      exact key _ h.2
    have h4 : x.kids.length * 2 ^ n ≤ 2 * 2 ^ n := Nat.mul_le_mul_right _ h2
    have h5 : 0 < 2 ^ n := Nat.pow_pos (by decide)
    rw [nod_eq, Nat.pow_succ]
    by_cases h6 : x.kids.length = 0
    · have : x.kids = [] := List.length_eq_zero_iff.1 h6
      rw [this]; simp only [nods]; omega
    · rcases (show x.kids.length = 1 ∨ x.kids.length = 2 by omega) with h7 | h7 <;> rw [h7] at h3 h4 <;> omega
def tr (p : Prop) [Decidable p] : Int := if p then 1 else 0
def evk (vs : List Int) (k v a b : Int) : Int :=
  if k = 1 then v else if k = 2 then vs.getD v.toNat 0 else if k = 3 then tr (a = 0) else if k = 4 then tr (a ≠ 0 ∧ b ≠ 0) else if k = 5 then tr (a ≠ 0 ∨ b ≠ 0)
  else if k = 6 then tr (a = b) else if k = 7 then tr (a < b) else if k = 8 then (a + b).tmod 4 else (a - b + 4).tmod 4
mutual
def ev (vs : List Int) : Exq → Int
  | .mk k v l => evk vs k v ((evs vs l).getD 0 0) ((evs vs l).getD 1 0)
def evs (vs : List Int) : List Exq → List Int
  | [] => []
  | x :: l => x.ev vs :: evs vs l
end
def kev (x : Exq) (vs : List Int) (j : Nat) : Int := (x.kids.map (ev vs)).getD j 0
mutual
def mkv : Exq → List Bool → List Bool
  | .mk k v l, M => mkvs l (if k = 2 then M.set v.toNat true else M)
def mkvs : List Exq → List Bool → List Bool
  | [], M => M
  | x :: l, M => mkvs l (x.mkv M)
end
end Exq
structure Ed.Ok (e : Ed) (n : Int) : Prop where
  n1 : 1 ≤ n
  n4 : n ≤ 4
  f0 : 0 ≤ e.frm
  f1 : e.frm < n
  t0 : 0 ≤ e.to
  t1 : e.to < n
  gd : e.guard.Ok
  v0 : -1 ≤ e.var
  v1 : e.var ≤ 2
  vl : (0 ≤ e.var ∧ e.value.Ok) ∨ (e.var < 0 ∧ e.value = Exq.zero)
  s0 : -2 ≤ e.sync
  s1 : e.sync ≤ 2
noncomputable instance {e : Ed} {n : Int} : Decidable (e.Ok n) := Classical.propDecidable _
structure Pr.Ok (p : Pr) : Prop where
  n1 : 1 ≤ p.locs
  n4 : p.locs ≤ 4
  el : p.edges.length ≤ 6
  ed : ∀ e ∈ p.edges, e.Ok p.locs
noncomputable instance {p : Pr} : Decidable p.Ok := Classical.propDecidable _
structure Sy.Ok (s : Sy) : Prop where
  vs : VOk s.init
  p1 : 1 ≤ s.procs.length
  p3 : s.procs.length ≤ 3
  pr : ∀ p ∈ s.procs, p.Ok
noncomputable instance {s : Sy} : Decidable s.Ok := Classical.propDecidable _
theorem Sy.Ok.at {s : Sy} (h : s.Ok) {i : Nat} (hi : i < s.procs.length) : s.procs[i].Ok := h.pr _ (List.getElem_mem hi)
theorem Pr.Ok.at {p : Pr} (h : p.Ok) {i : Nat} (hi : i < p.edges.length) : p.edges[i].Ok p.locs := h.ed _ (List.getElem_mem hi)
structure LOk (l : List Exq) : Prop where
  len : l.length = 3
  ok : ∀ x ∈ l, x.Ok
noncomputable instance {l : List Exq} : Decidable (LOk l) := Classical.propDecidable _
def relL (labels : List Exq) (M : List Bool) : List Bool := labels.foldl (fun M x => x.mkv M) M
def relG (s : Sy) (M : List Bool) : List Bool := s.procs.foldl (fun M p => p.edges.foldl (fun M e => e.guard.mkv M) M) M
def Ed.relv (M : List Bool) (e : Ed) : List Bool := if 0 ≤ e.var ∧ M.getD e.var.toNat false = true then e.value.mkv M else M
def relV (s : Sy) (M : List Bool) : List Bool := s.procs.foldl (fun M p => p.edges.foldl Ed.relv M) M
def Sy.rel (s : Sy) (labels : List Exq) : List Bool := relV s (relV s (relV s (relG s (relL labels [false, false, false]))))
end Go.Proofs.Ytbanccfdojgocaa

namespace Go.Proofs.Ytbanccfdojgocaa
open Go
namespace Fm
def arity (k : Int) : Int := if k = 1 ∨ k = 2 then 0 else if k = 3 ∨ k = 6 ∨ k = 9 ∨ k = 10 then 1 else if k = 4 ∨ k = 5 ∨ k = 7 ∨ k = 8 then 2 else -1
structure Nd (x : Exq) : Prop where
  ar : (x.kids.length : Int) = arity x.kind
  lo : 0 ≤ x.val
  hi : x.val < 3
  ze : x.kind ≠ 2 → x.val = 0
def Shp : Nat → Exq → Prop
  | 0, _ => False
  | n + 1, x => Nd x ∧ ∀ y ∈ x.kids, Shp n y
noncomputable instance {n : Nat} {x : Exq} : Decidable (Shp n x) := Classical.propDecidable _
def Ok (x : Exq) : Prop := Shp 6 x ∧ x.nod ≤ 12
noncomputable instance {x : Exq} : Decidable (Ok x) := Classical.propDecidable _
theorem Nd.kind {x : Exq} (h : Nd x) : 1 ≤ x.kind ∧ x.kind ≤ 10 := by
  have := h.ar
  unfold arity at this
  split at this <;> (try split at this) <;> (try split at this) <;> omega
theorem arity_le {k : Int} : arity k ≤ 2 := by
  unfold arity
  split <;> (try split) <;> (try split) <;> omega
theorem Shp.nd {n : Nat} {x : Exq} (h : Shp n x) : Nd x := by
  cases n with
  | zero => exact h.elim
  | succ n => exact h.1
theorem Shp.kid {n : Nat} {x : Exq} (h : Shp (n + 1) x) {i : Nat} (hi : i < x.kids.length) : Shp n x.kids[i] := h.2 _ (List.getElem_mem hi)
theorem Shp.le2 {n : Nat} {x : Exq} (h : Shp n x) : x.kids.length ≤ 2 := by
  have h1 := h.nd.ar
  have h2 := arity_le (k := x.kind)
  omega
theorem Shp.two {n : Nat} {x : Exq} (h : Shp n x) (hk : x.kind = 4 ∨ x.kind = 5 ∨ x.kind = 7 ∨ x.kind = 8) : x.kids.length = 2 := by
  have h1 := h.nd.ar
  unfold arity at h1
  split at h1 <;> (try split at h1) <;> (try split at h1) <;> omega
theorem Shp.one {n : Nat} {x : Exq} (h : Shp n x) (hk : x.kind = 3 ∨ x.kind = 6 ∨ x.kind = 9 ∨ x.kind = 10) : x.kids.length = 1 := by
  have h1 := h.nd.ar
  unfold arity at h1
  split at h1 <;> (try split at h1) <;> (try split at h1) <;> omega
theorem Shp.none {n : Nat} {x : Exq} (h : Shp n x) (hk : x.kind = 1 ∨ x.kind = 2) : x.kids = [] := by
  have h1 := h.nd.ar
  rw [arity, if_pos hk] at h1
  exact List.length_eq_zero_iff.1 (by omega)
theorem Shp.mono : ∀ {n : Nat} {x : Exq}, Shp n x → Shp (n + 1) x
  | 0, _, h => h.elim
  | n + 1, _, h => ⟨h.1, fun y hy => (h.2 y hy).mono⟩
theorem Shp.bnd : ∀ {n : Nat} {x : Exq}, Shp n x → x.nod < 2 ^ n
  | 0, _, h => h.elim
  | n + 1, x, h => by
    have h2 := h.le2
    rw [Exq.nod_eq]
    have h4 : Exq.nods x.kids + x.kids.length ≤ x.kids.length * 2 ^ n := by
      have key : ∀ l : List Exq, (∀ y ∈ l, y.nod < 2 ^ n) → Exq.nods l + l.length ≤ l.length * 2 ^ n := by
        intro l
        induction l with
        | nil => intro _; simp [Exq.nods]
        | cons y l ih =>
          intro hy
          have e1 := hy y (by simp)
          have e2 := ih fun z hz => hy z (by simp [hz])
          simp only [Exq.nods, List.length_cons, Nat.add_mul]
          omega
      exact key x.kids fun y hy => (h.2 y hy).bnd
    have h5 : 0 < 2 ^ n := Nat.two_pow_pos n
    have h6 : 2 ^ (n + 1) = 2 * 2 ^ n := by rw [Nat.pow_succ]; omega
    rw [h6]
    obtain h7 | h7 | h7 : x.kids.length = 0 ∨ x.kids.length = 1 ∨ x.kids.length = 2 := by omega
    all_goals (rw [h7] at h4; omega)
def tru : Exq := .mk 1 0 []
def neg (x : Exq) : Exq := .mk 3 0 [x]
def dual (k : Int) : Int := if k = 4 then 5 else if k = 5 then 4 else if k = 7 then 8 else 7
mutual
def push : Exq → Bool → Exq
  | .mk k v l, n => if k = 1 ∨ k = 2 then (if n then neg (.mk k v []) else .mk k v [])
    else if k = 3 then (pushes l (!n)).getD 0 Exq.zero
    else if k = 6 then .mk 6 0 [(pushes l n).getD 0 Exq.zero]
    else if k = 9 ∨ k = 10 then (if decide (k = 9) != n then .mk 7 0 [tru, (pushes l n).getD 0 Exq.zero] else .mk 8 0 [neg tru, (pushes l n).getD 0 Exq.zero])
    else .mk (if n then dual k else k) 0 [(pushes l n).getD 0 Exq.zero, (pushes l n).getD 1 Exq.zero]
def pushes : List Exq → Bool → List Exq
  | [], _ => []
  | x :: l, n => push x n :: pushes l n
end
theorem pushes_eq {n : Bool} : ∀ l, pushes l n = l.map fun x => push x n
  | [] => rfl
  | x :: l => by simp only [pushes, List.map_cons, pushes_eq l]
def kp (x : Exq) (n : Bool) (j : Nat) : Exq := (x.kids.map fun y => push y n).getD j Exq.zero
theorem kp_at {x : Exq} {n : Bool} {j : Nat} (hj : j < x.kids.length) : kp x n j = push x.kids[j] n := by simp [kp, hj]
theorem push_eq (x : Exq) (n : Bool) : push x n = if x.kind = 1 ∨ x.kind = 2 then (if n then neg (.mk x.kind x.val []) else .mk x.kind x.val [])
    else if x.kind = 3 then kp x (!n) 0
    else if x.kind = 6 then .mk 6 0 [kp x n 0]
    else if x.kind = 9 ∨ x.kind = 10 then (if decide (x.kind = 9) != n then .mk 7 0 [tru, kp x n 0] else .mk 8 0 [neg tru, kp x n 0])
    else .mk (if n then dual x.kind else x.kind) 0 [kp x n 0, kp x n 1] := by
  cases x with
  | mk k v l => simp only [push, pushes_eq]; rfl
noncomputable def nfR (x : Exq) : Exq := if Ok x ∧ Ok (push x false) then push x false else Exq.zero
noncomputable def fx (l : List Exq) (x : Exq) : Int := match l.findIdx? (fun y => decide (y = x)) with | some i => (i : Int) | .none => -1
theorem fx_at {xs : List Exq} {st : Exq} {i : Nat} (hi : i < xs.length) (he : xs[i] = st) (hn : ∀ (j : Nat) (hj : j < xs.length), j < i → xs[j] ≠ st) : fx xs st = i := by
  have : xs.findIdx? (fun y => decide (y = st)) = some i := by
    rw [List.findIdx?_eq_some_iff_getElem]
    exact ⟨hi, by simpa using he, fun j hj => by simpa using hn j (by omega) hj⟩
  rw [fx, this]
theorem fx_not {xs : List Exq} {st : Exq} (h : st ∉ xs) : fx xs st = -1 := by
  have : xs.findIdx? (fun y => decide (y = st)) = .none := by
    rw [List.findIdx?_eq_none_iff]
    intro y hy
    simp only [decide_eq_false_iff_not]
    rintro rfl
    exact h hy
  rw [fx, this]
theorem fx_mem {xs : List Exq} {st : Exq} (h : st ∈ xs) : ∃ (i : Nat) (hi : i < xs.length), fx xs st = i ∧ xs[i] = st := by
  obtain ⟨i, hi⟩ : ∃ i, xs.findIdx? (fun y => decide (y = st)) = some i := by
    rcases hf : xs.findIdx? (fun y => decide (y = st)) with _ | i
    · rw [List.findIdx?_eq_none_iff] at hf
      have := hf st h
      simp at this
    · exact ⟨i, rfl⟩
  have h2 := hi
  rw [List.findIdx?_eq_some_iff_getElem] at h2
  obtain ⟨h3, h4, _⟩ := h2
  exact ⟨i, h3, by rw [fx, hi], by simpa using h4⟩
theorem fx_neg {xs : List Exq} {st : Exq} : fx xs st < 0 ↔ st ∉ xs := by
  constructor
  · intro h hm
    obtain ⟨i, _, e, _⟩ := fx_mem hm
    omega
  · intro h
    rw [fx_not h]
    decide
noncomputable def ins (o : List Exq) (x : Exq) : List Exq := if x ∈ o then o else o ++ [x]
mutual
noncomputable def subs : Exq → List Exq → List Exq
  | .mk k v l, o => ins (subsL l o) (.mk k v l)
noncomputable def subsL : List Exq → List Exq → List Exq
  | [], o => o
  | x :: l, o => subsL l (subs x o)
end
theorem subsL_eq : ∀ (l : List Exq) (o : List Exq), subsL l o = l.foldl (fun o x => subs x o) o
  | [], _ => rfl
  | x :: l, o => by rw [subsL, subsL_eq l, List.foldl_cons]
theorem subs_eq (x : Exq) (o : List Exq) : subs x o = ins (x.kids.foldl (fun o x => subs x o) o) x := by
  cases x with
  | mk k v l => rw [subs, subsL_eq]; rfl
theorem ins_len {o : List Exq} {x : Exq} : (ins o x).length ≤ o.length + 1 := by unfold ins; split <;> simp
theorem subsL_len : ∀ (l : List Exq), (∀ x ∈ l, ∀ o, (subs x o).length ≤ o.length + x.nod) → ∀ o, (l.foldl (fun o x => subs x o) o).length ≤ o.length + Exq.nods l
  | [], _, o => by simp [Exq.nods]
  | x :: l, h, o => by
    have h1 := h x (by simp) o
    have h2 := subsL_len l (fun y hy => h y (by simp [hy])) (subs x o)
    simp only [List.foldl_cons, Exq.nods]
    omega
theorem subs_len : ∀ (x : Exq) (o : List Exq), (subs x o).length ≤ o.length + x.nod := by
  have key : ∀ (n : Nat) (x : Exq), x.nod ≤ n → ∀ o, (subs x o).length ≤ o.length + x.nod := by
    intro n
    induction n with
    | zero => intro x h; rw [Exq.nod_eq] at h; omega
    | succ n ih =>
      intro x hx o
      rw [Exq.nod_eq] at hx ⊢
      rw [subs_eq]
      have h1 := subsL_len x.kids (fun y hy => ih y (by
        obtain ⟨i, hi, rfl⟩ := List.mem_iff_getElem.1 hy
        have e1 := Exq.nods_take hi
        have e2 := Exq.nods_le x.kids (i + 1)
        omega)) o
      have h2 := ins_len (o := x.kids.foldl (fun o x => subs x o) o) (x := x)
      omega
  exact fun x o => key x.nod x (Nat.le_refl _) o
theorem subs_all {P : Exq → Prop} : ∀ (n : Nat) (x : Exq), (∀ y, P y → ∀ z ∈ y.kids, P z) → x.nod ≤ n → P x → ∀ (o : List Exq), (∀ y ∈ o, P y) → ∀ y ∈ subs x o, P y := by
  intro n
  induction n with
  | zero => intro x _ h; rw [Exq.nod_eq] at h; omega
  | succ n ih =>
    intro x hP hx hPx o ho
    rw [Exq.nod_eq] at hx
    rw [subs_eq]
    have hl : ∀ (l : List Exq), (∀ z ∈ l, P z ∧ z.nod ≤ n) → ∀ (o : List Exq), (∀ y ∈ o, P y) → ∀ y ∈ l.foldl (fun o x => subs x o) o, P y := by
      intro l
      induction l with
      | nil => intro _ o ho; exact ho
      | cons z l ihl =>
        intro hz o ho
        rw [List.foldl_cons]
        exact ihl (fun w hw => hz w (by simp [hw])) _ (ih z hP (hz z (by simp)).2 (hz z (by simp)).1 o ho)
    have h1 := hl x.kids (fun z hz => ⟨hP x hPx z hz, by
      obtain ⟨i, hi, rfl⟩ := List.mem_iff_getElem.1 hz
      have e1 := Exq.nods_take hi
      have e2 := Exq.nods_le x.kids (i + 1)
      omega⟩) o ho
    intro y hy
    unfold ins at hy
    split at hy
    · exact h1 y hy
    · rcases List.mem_append.1 hy with hy | hy
      · exact h1 y hy
      · simp at hy; subst hy; exact hPx
def bas (x : Exq) : Bool := decide (x.kind = 2 ∨ x.kind = 6 ∨ x.kind = 7 ∨ x.kind = 8)
noncomputable def basics (x : Exq) : List Exq := (subs (push x false) []).filter bas
def bOk (x : Exq) : Prop := (Ok x ∧ Ok (push x false)) ∧ (basics x).length ≤ 5
noncomputable instance {x : Exq} : Decidable (bOk x) := Classical.propDecidable _
noncomputable def basR (x : Exq) : List Exq := if bOk x then basics x else []
theorem Shp.kids6 {x : Exq} (h : ∃ n, n ≤ 6 ∧ Shp n x) : ∀ y ∈ x.kids, ∃ n, n ≤ 6 ∧ Shp n y := by
  obtain ⟨n, hn, hs⟩ := h
  cases n with
  | zero => exact hs.elim
  | succ n => exact fun y hy => ⟨n, by omega, hs.2 y hy⟩
theorem Shp.up {n m : Nat} {x : Exq} (h : Shp n x) (hm : n ≤ m) : Shp m x := by
  induction m with
  | zero => have : n = 0 := by omega
            subst this; exact h
  | succ m ih =>
    by_cases e : n = m + 1
    · subst e; exact h
    · exact (ih (by omega)).mono
theorem basics_ok {x : Exq} (h : bOk x) : ∀ y ∈ basics x, Shp 6 y ∧ bas y = true := by
  intro y hy
  obtain ⟨h1, h2⟩ := List.mem_filter.1 hy
  obtain ⟨n, hn, h3⟩ := subs_all (P := fun y => ∃ n, n ≤ 6 ∧ Shp n y) _ (push x false) (fun y hy => Shp.kids6 hy) (Nat.le_refl _) ⟨6, Nat.le_refl _, h.1.2.1⟩ [] (fun y hy => by simp at hy) y h1
  exact ⟨h3.up hn, h2⟩
end Fm
end Go.Proofs.Ytbanccfdojgocaa

namespace Go.Proofs.Ytbanccfdojgocaa
open Go
theorem i64_0 : I64 0 := ⟨by decide, by decide⟩
theorem own_zeroE : Ty.own Heap.nil [.int .i64 0, .int .i64 0, .slice none 0 0] Exq.zero := ownExq.2 ⟨_, rfl, i64_0, i64_0, Own_nils⟩
theorem c_toFormulaS_of {h : Heap} {a : Value} {x : List Exq} (ih : ∀ y ∈ x, ∀ {h : Heap} {v : Value}, Rep h v y → Sz.sz y ≤ 1048576 → CallE Try.prog fn_laws_toFormula [v] h (fun u h' => HS h [ow u y] h')) (Ra : Rep h a x) (hs : Sz.sz x ≤ 1048576) : CallE Try.prog fn_laws_toFormulaS [a] h (fun v h' => HS h [ow v x] h') := by
  rw [sz_list] at hs
  refine CallE.gen fun k hk => EN_laws_toFormulaS rfl ?_
  simp -implicitDefEqProofs (disch:=first|omega|(simp only[LnZ];omega))[wrap64, Ra.len]
  refine HS.init.mks (α := Exq) (z := Exq.zero) rfl rfl (own_zeroE) (Nat.le_refl _) (by omega) (by omega) fun v h1 H => ?_
  simp -implicitDefEqProofs (disch:=first|omega|(simp only[LnZ];omega))[wrap64]
  refine wp_count x.length (fun i e h' => e = [some a, none, some v, some (.int .i64 i)] ∧ ∃ y, HS h [ow v y] h' ∧ y.length = x.length ∧ y.take i = x.take i) ⟨rfl, _, H, by simp, by simp⟩ ?_
  clear H
  rintro J i _ h2 hJ hi ⟨rfl, y, H, hl, hy⟩
  simp -implicitDefEqProofs (disch:=first|omega|(simp only[LnZ];omega))[wrap64, Ra.len]
  refine IteW.mk (fun hlt => ?_) (fun hge => ?_)
  · have hlx : i < x.length := by omega
    obtain ⟨u, hu, Ru⟩ := (Ra.on H).ld hlx
    change hload _ (some (elp 3 a i)) (some 3) = some u at hu
    have hsi := szL_get hlx
    simp -implicitDefEqProofs (disch:=first|omega|(simp only[LnZ];omega))[wrap64, Ra.X (n := 3) rfl, hu]
    refine (ih _ (List.getElem_mem hlx) Ru (by omega)).go ?_
    intro w h3 G
    have H := G.app H
    simp -implicitDefEqProofs (disch:=first|omega|(simp only[LnZ];omega))[wrap64, H.sw1.rep.X (n := 3) rfl, G.rep.aExq]
    refine HS.store H (by omega) rfl rfl rfl fun h4 H => ?_
    simp -implicitDefEqProofs (disch:=first|omega|(simp only[LnZ];omega))[wrap64]
    exact hJ _ _ hlx ⟨rfl, _, H, by simp [hl], take_set_succ hy hlx hl⟩
  · simp -implicitDefEqProofs (disch:=first|omega|(simp only[LnZ];omega))[wrap64]
    refine RetK.keep (hk _ _ ?_)
    rw [← eq_of_take hy (by omega) hl]; exact H
theorem c_toFormula : ∀ (x : Exq) {h : Heap} {v : Value}, Rep h v x → Sz.sz x ≤ 1048576 → CallE Try.prog fn_laws_toFormula [v] h (fun u h' => HS h [ow u x] h') := by
  refine Exq.ind fun x ih h v R hs => ?_
  obtain ⟨w, rfl, k1, k2, R1⟩ := Rep_Exq.1 R
  rw [sz_Exq] at hs
  refine CallE.gen fun k hk => EN_laws_toFormula rfl ?_
  simp -implicitDefEqProofs (disch:=first|omega|(simp only[LnZ];omega))[wrap64, setC]
  refine (c_toFormulaS_of ih R1 hs).go ?_
  intro u h1 G
  simp -implicitDefEqProofs (disch:=first|omega|(simp only[LnZ];omega))[wrap64, setC, G.rep.cells, G.rep.one]
  exact RetK.keep (hk _ _ (G.mkExq k1 k2))
theorem c_szFormulaS_of {h : Heap} {a : Value} {x : List Exq} (ih : ∀ y ∈ x, ∀ {h : Heap} {a : Value}, Rep h a y → ∀ {n : Int}, 0 ≤ n ∧ n ≤ 1048576 → CallE Try.prog fn_laws_szFormula [a, .int .i64 n] h (fun v h' => h' = h ∧ ∃ m : Int, v = .int .i64 m ∧ (m = -1 ∨ (0 ≤ m ∧ m + Sz.sz y = n)))) (Ra : Rep h a x) {n : Int} (hn : 0 ≤ n ∧ n ≤ 1048576) : CallE Try.prog fn_laws_szFormulaS [a, .int .i64 n] h (fun v h' => h' = h ∧ ∃ m : Int, v = .int .i64 m ∧ (m = -1 ∨ (0 ≤ m ∧ m + Sz.sz x = n))) := by
  rw [sz_list]
  refine CallE.gen fun k hk => EN_laws_szFormulaS rfl ?_
  have hL := Ra.lt
  simp -implicitDefEqProofs (disch:=first|omega|(simp only[LnZ];omega))[wrap64, Ra.len]
  refine IteW.mk (fun hlt => ?_) (fun hge => ?_)
  · simp -implicitDefEqProofs (disch:=first|omega|(simp only[LnZ];omega))[wrap64]
    exact RetK.keep (hk _ _ ⟨rfl, _, rfl, .inl rfl⟩)
  simp -implicitDefEqProofs (disch:=first|omega|(simp only[LnZ];omega))[wrap64]
  refine wp_count x.length (fun i e h' => h' = h ∧ ∃ m : Int, e = [some a, some (.int .i64 m), none, some (.int .i64 i)] ∧ 0 ≤ m ∧ m + x.length + szL (x.take i) = n) ⟨rfl, _, rfl, by omega, by simp [szL]⟩ ?_
  rintro J i _ _ hJ hi ⟨rfl, m, rfl, hm, hmn⟩
  simp -implicitDefEqProofs (disch:=first|omega|(simp only[LnZ];omega))[wrap64, Ra.len]
  refine IteW.mk (fun hlt => ?_) (fun hge2 => ?_)
  · have hlx : i < x.length := by omega
    obtain ⟨u, hu, Ru⟩ := Ra.ld hlx
    change hload _ (some (elp 3 a i)) (some 3) = some u at hu
    simp -implicitDefEqProofs (disch:=first|omega|(simp only[LnZ];omega))[wrap64, Ra.X (n := 3) rfl, hu]
    refine (ih _ (List.getElem_mem hlx) Ru (n := m) (by omega)).go ?_
    rintro _ _ ⟨rfl, m2, rfl, q⟩
    simp -implicitDefEqProofs (disch:=first|omega|(simp only[LnZ];omega))[wrap64]
    refine IteW.mk (fun hlt => ?_) (fun hge => ?_)
    · simp -implicitDefEqProofs (disch:=first|omega|(simp only[LnZ];omega))[wrap64]
      exact RetK.keep (hk _ _ ⟨rfl, _, rfl, .inl rfl⟩)
    · simp -implicitDefEqProofs (disch:=first|omega|(simp only[LnZ];omega))[wrap64]
      exact hJ _ _ hlx ⟨rfl, _, rfl, by omega, by rw [szL_take hlx]; omega⟩
  · simp -implicitDefEqProofs (disch:=first|omega|(simp only[LnZ];omega))[wrap64]
    rw [List.take_of_length_le (by omega)] at hmn
    exact RetK.keep (hk _ _ ⟨rfl, _, rfl, .inr (by omega)⟩)
theorem c_szFormula : ∀ (x : Exq) {h : Heap} {a : Value}, Rep h a x → ∀ {n : Int}, 0 ≤ n ∧ n ≤ 1048576 → CallE Try.prog fn_laws_szFormula [a, .int .i64 n] h (fun v h' => h' = h ∧ ∃ m : Int, v = .int .i64 m ∧ (m = -1 ∨ (0 ≤ m ∧ m + Sz.sz x = n))) := by
  refine Exq.ind fun x ih h a R n hn => ?_
  obtain ⟨w, rfl, k1, k2, R1⟩ := Rep_Exq.1 R
  rw [sz_Exq]
  refine CallE.gen fun k hk => EN_laws_szFormula rfl ?_
  simp -implicitDefEqProofs (disch:=first|omega|(simp only[LnZ];omega))[wrap64]
  refine (c_szFormulaS_of ih R1 hn).go ?_
  rintro _ _ ⟨rfl, m, rfl, q⟩
  simp -implicitDefEqProofs (disch:=first|omega|(simp only[LnZ];omega))[wrap64]
  refine IteW.mk (fun hlt => ?_) (fun hge => ?_)
  · simp -implicitDefEqProofs (disch:=first|omega|(simp only[LnZ];omega))[wrap64]
    exact RetK.keep (hk _ _ ⟨rfl, _, rfl, .inl rfl⟩)
  · simp -implicitDefEqProofs (disch:=first|omega|(simp only[LnZ];omega))[wrap64]
    exact RetK.keep (hk _ _ ⟨rfl, _, rfl, .inr (by omega)⟩)
theorem c_eqFormulaS_of {h : Heap} {a b : Value} {x y : List Exq} (ih : ∀ z ∈ x, ∀ {h : Heap} {a b : Value} {w : Exq}, Rep h a z → Rep h b w → CallE Try.prog fn_laws_eqFormula [a, b] h (fun v h' => h' = h ∧ v = .bool (decide (z = w)))) (Ra : Rep h a x) (Rb : Rep h b y) : CallE Try.prog fn_laws_eqFormulaS [a, b] h (fun v h' => h' = h ∧ v = .bool (decide (x = y))) := by
  refine CallE.gen fun k hk => EN_laws_eqFormulaS rfl ?_
  have hL := Ra.lt
  simp -implicitDefEqProofs (disch:=first|omega|(simp only[LnZ];omega))[wrap64, Ra.len, Rb.len]
  refine IteW.mkr (fun hne => ?_) (fun heq => ?_)
  · simp -implicitDefEqProofs (disch:=first|omega|(simp only[LnZ];omega))[wrap64]
    exact RetK.keep (hk _ _ ⟨rfl, by simp; rintro rfl; exact hne rfl⟩)
  simp -implicitDefEqProofs (disch:=first|omega|(simp only[LnZ];omega))[wrap64]
  refine wp_count x.length (fun i e h' => h' = h ∧ e = [some a, some b, none, some (.int .i64 i)] ∧ x.take i = y.take i) ⟨rfl, rfl, rfl⟩ ?_
  rintro J i _ _ hJ hi ⟨rfl, rfl, hxy⟩
  simp -implicitDefEqProofs (disch:=first|omega|(simp only[LnZ];omega))[wrap64, Ra.len]
  refine IteW.mk (fun hlt => ?_) (fun hge => ?_)
  · have hly : i < y.length := by omega
    have hlx : i < x.length := by omega
    obtain ⟨u, hu, Ru⟩ := Ra.ld hlx
    obtain ⟨w, hw, Rw⟩ := Rb.ld hly
    change hload _ (some (elp 3 a i)) (some 3) = some u at hu
    change hload _ (some (elp 3 b i)) (some 3) = some w at hw
    simp -implicitDefEqProofs (disch:=first|omega|(simp only[LnZ];omega))[wrap64, Ra.X (n := 3) rfl, Rb.X (n := 3) rfl, hu, hw]
    refine (ih _ (List.getElem_mem hlx) Ru Rw).go ?_
    rintro _ _ ⟨rfl, rfl⟩
    simp -implicitDefEqProofs (disch:=first|omega|(simp only[LnZ];omega))[wrap64]
    refine IteW.mkr (fun hne => ?_) (fun heq => ?_)
    · simp -implicitDefEqProofs (disch:=first|omega|(simp only[LnZ];omega))[wrap64]
      exact RetK.keep (hk _ _ ⟨rfl, by simp; rintro rfl; exact hne rfl⟩)
    simp -implicitDefEqProofs (disch:=first|omega|(simp only[LnZ];omega))[wrap64]
    exact hJ _ _ hlx ⟨rfl, rfl, take_step hxy hlx hly heq⟩
  · simp -implicitDefEqProofs (disch:=first|omega|(simp only[LnZ];omega))[wrap64]
    refine RetK.keep (hk _ _ ⟨rfl, ?_⟩)
    simp
    rw [List.take_of_length_le (by omega), List.take_of_length_le (by omega)] at hxy
    exact hxy
theorem c_eqFormula' : ∀ (x : Exq) {h : Heap} {a b : Value} {y : Exq}, Rep h a x → Rep h b y → CallE Try.prog fn_laws_eqFormula [a, b] h (fun v h' => h' = h ∧ v = .bool (decide (x = y))) := by
  refine Exq.ind fun x ih h a b y Ra Rb => ?_
  obtain ⟨w, rfl, k1, k2, R1⟩ := Rep_Exq.1 Ra
  obtain ⟨w2, rfl, k3, k4, R2⟩ := Rep_Exq.1 Rb
  refine CallE.gen fun k hk => EN_laws_eqFormula rfl ?_
  simp -implicitDefEqProofs (disch:=first|omega|(simp only[LnZ];omega))[wrap64]
  refine IteW.mkr (fun h1 => ?_) (fun h1 => ?_)
  · simp -implicitDefEqProofs (disch:=first|omega|(simp only[LnZ];omega))[wrap64]
    exact RetK.keep (hk _ _ ⟨rfl, by simp [Exq.ext_iff', h1]⟩)
  simp -implicitDefEqProofs (disch:=first|omega|(simp only[LnZ];omega))[wrap64]
  refine IteW.mkr (fun h2 => ?_) (fun h2 => ?_)
  · simp -implicitDefEqProofs (disch:=first|omega|(simp only[LnZ];omega))[wrap64]
    exact RetK.keep (hk _ _ ⟨rfl, by simp [Exq.ext_iff', h2]⟩)
  simp -implicitDefEqProofs (disch:=first|omega|(simp only[LnZ];omega))[wrap64]
  refine (c_eqFormulaS_of ih R1 R2).go ?_
  rintro _ _ ⟨rfl, rfl⟩
  simp -implicitDefEqProofs (disch:=first|omega|(simp only[LnZ];omega))[wrap64]
  refine IteW.mkr (fun h3 => ?_) (fun h3 => ?_)
  · simp -implicitDefEqProofs (disch:=first|omega|(simp only[LnZ];omega))[wrap64]
    exact RetK.keep (hk _ _ ⟨rfl, by simp [Exq.ext_iff', h3]⟩)
  simp -implicitDefEqProofs (disch:=first|omega|(simp only[LnZ];omega))[wrap64]
  exact RetK.keep (hk _ _ ⟨rfl, by simp [Exq.ext_iff', h1, h2, h3]⟩)
theorem c_eqFormula {x : Exq} {h : Heap} {a b : Value} {y : Exq} (Ra : Rep h a x) (Rb : Rep h b y) : CallE Try.prog fn_laws_eqFormula [a, b] h (fun v h' => h' = h ∧ v = .bool (decide (x = y))) := c_eqFormula' x Ra Rb
end Go.Proofs.Ytbanccfdojgocaa

namespace Go.Proofs.Ytbanccfdojgocaa
open Go Go.RowKit
def whole (w : World) : Heap := fun b => w.heap[b]?
theorem calls_law {P : Program} {f : FuncId} {fn : Func} {args : List Value} {W : World} (hf : P.funcs[f]? = some fn) (hname : (fn.name == "runtime.NumGoroutine") = false) (hb : fn.body.isSome = true)
    (h : CallE P f args (whole W) (fun u h' => (whole W).le h' ∧ u = .bool true)) : Calls P f args.toArray W fun e W' => e = .returned (.bool true) ∧ Below W.heap.size W W' := by
  have h1 := h W (fun b o hb => hb)
  obtain ⟨bd, hbd⟩ := Option.isSome_iff_exists.1 hb
  have hname' : ¬ fn.name = "runtime.NumGoroutine" := by simpa using hname
  have hcall : (callFunc f args.toArray).run P W = .ok (.enter f args.toArray) W := by
    simp [callFunc, hf, hname', hbd]
  rw [hcall] at h1
  refine Calls.mono h1 ?_
  rintro e W' ⟨v, h', rfl, ⟨hl, rfl⟩, hs, hF⟩
  refine ⟨rfl, hF.os, hF.tape, hF.output, hF.size, ?_⟩
  intro k hk
  have h2 : whole W k = some W.heap[k] := by simp [whole, hk]
  rw [hs _ _ (hl _ _ h2)]
  simp [hk]
section
variable {H : Type} {enc : TypeId × Value → H} {P : Program}
theorem trodAll_below (hl : laidOutB P = true) {W W' : World} : ∀ {ts : List TypeId} {vs : List Value} {ds : List (DataW H)} {ps : List MemPlace}, (∀ t ∈ ts, P.readableRec t = true ∧ t < P.types.size) →
    DataW.TrodAll enc P W 0 (fun _ => true) true ts vs ds ps → Below W.heap.size W W' → (∀ x ∈ ps, x.block < W.heap.size) → DataW.TrodAll enc P W' 0 (fun b => decide (b < W.heap.size)) true ts vs ds ps
  | [], [], [], _, _, h, _, _ => h
  | _ :: _, _ :: _, _ :: _, _, ht, ⟨p, q, h1, h2, e⟩, hb, hlt =>
    ⟨p, q, Below.trod hl (ht _ (by simp)).1 (ht _ (by simp)).2 h1 hb (fun x hx => hlt x (by rw [e]; exact List.mem_append_left _ hx)),
      trodAll_below hl (fun t h => ht t (by simp [h])) h2 hb (fun x hx => hlt x (by rw [e]; exact List.mem_append_right _ hx)), e⟩
theorem kept_below {W W' : World} (hb : Below W.heap.size W W') (may : MemPlace → Prop) : W.keptBut W' may := by
  refine ⟨hb.os, hb.output, fun i hi => ?_⟩
  rw [hb.block i hi]
  split
  · rename_i h1 h2; rw [h1] at h2; simp only [Option.some.injEq, Obj.cells.injEq] at h2; obtain ⟨rfl, rfl, rfl⟩ := h2; exact ⟨rfl, rfl, rfl, fun _ _ => rfl⟩
  · rename_i h1 h2; rw [h1] at h2; simp only [Option.some.injEq, Obj.map.injEq] at h2; obtain ⟨rfl, rfl⟩ := h2; exact .inr ⟨rfl, rfl⟩
  · rfl
theorem post_law {f : Func} {s : ChangeSpec} {W W' : World} {args : Array Value} {ds gs : List (DataW H)} {before : List MemPlace} (hl : laidOutB P = true) (hvars : s.vars = []) (ht : ∀ t ∈ f.params.toList, P.readableRec t = true ∧ t < P.types.size)
    (hr : ∃ t, f.resultTypes = #[t] ∧ P.underlying t = some .bool) (hspec : (s.fn H (ds ++ gs)).results = [.lit (.bool true)] ∧ (s.fn H (ds ++ gs)).args = ds ∧ (s.fn H (ds ++ gs)).vars = [])
    (hW : DataW.Whole enc P f.params.toList s.vars false W args.toList ds gs before) (hb : Below W.heap.size W W') : s.post enc P f false true false false W args (.bool true) W' := by
  obtain ⟨t, ht1, ht2⟩ := hr
  obtain ⟨h1, h2, h3⟩ := hspec
  have hW' := hW
  obtain ⟨p, q, hA, hV, rfl, hz, hn⟩ := hW
  rw [hvars] at hV
  obtain ⟨rfl, rfl⟩ := Go.ChangeShapes.trodVars_none hV
  have hlt : ∀ x ∈ p ++ [], x.block < W.heap.size := fun x hx => by simpa using hW'.lt x hx
  refine ⟨ds, [], p ++ [], [], p, [], hW', ?_, ?_, ?_, World.keptBut_mono (fun x hx => ⟨by simpa using hx, .inr (.inl (by simpa using hx))⟩) (kept_below hb (fun x => x ∈ p)), by simp⟩
  · rw [h1, ht1]
    exact trodAll_cons_mk (shut_bool ht2 _) Go.ChangeShapes.trodAll_mk0
  · rw [h2]
    exact trodAll_below hl ht hA hb (fun x hx => hlt x (by simpa using hx))
  · rw [h3, hvars]; rfl
end
def wOk {H : Type} (P : Program) (t : TypeId) (d : DataW H) : Prop := ∀ n ∈ d.weights P t, n ≤ reachBytes
theorem wOk_all {H : Type} {P : Program} {e : TypeId} : ∀ {l : List (DataW H)}, (∀ n ∈ DataW.weightsAll P e l, n ≤ reachBytes) → ∀ d ∈ l, wOk P e d
  | [], _, d, hd => by simp at hd
  | x :: l, h, d, hd => by
    simp only [DataW.weightsAll, List.mem_append] at h
    rcases List.mem_cons.1 hd with rfl | hd
    · exact fun n hn => h n (.inl hn)
    · exact wOk_all (fun n hn => h n (.inr hn)) d hd
theorem wOk_each {H : Type} {P : Program} : ∀ {ts : List TypeId} {l : List (DataW H)}, (∀ n ∈ DataW.weightsEach P ts l, n ≤ reachBytes) → ∀ (i : Nat) t d, ts[i]? = some t → l[i]? = some d → wOk P t d
  | [], _, _, i, t, d, h1, _ => by simp at h1
  | _ :: _, [], _, i, t, d, _, h2 => by simp at h2
  | t0 :: ts, x :: l, h, 0, t, d, h1, h2 => by
    simp at h1 h2; subst h1 h2
    exact fun n hn => h n (by simp only [DataW.weightsEach, List.mem_append]; exact .inl hn)
  | t0 :: ts, x :: l, h, i + 1, t, d, h1, h2 => wOk_each (ts := ts) (l := l) (fun n hn => h n (by simp only [DataW.weightsEach, List.mem_append]; exact .inr hn)) i t d (by simpa using h1) (by simpa using h2)
def RdT (P : Program) (t : TypeId) (α : Type) [Ty α] : Prop := ∀ {H : Type} (enc : TypeId × Value → H) (W : World) (sp : Nat → Bool) (fuel : Nat) (cs : List Value) (x : DataW H × List MemPlace),
  DataW.trod enc P W 0 sp true fuel t cs = some x → wOk P t x.1 → ∃ y : α, Ty.rep (whole W) cs y
section
variable {P : Program} {t : TypeId}
theorem rd_int (ht : P.underlying t = some (.int .i64)) : RdT P t Int := by
  intro H enc W sp fuel cs x h hwt
  cases fuel with
  | zero => simp [DataW.trod] at h
  | succ n =>
    unfold DataW.trod at h
    rw [ht] at h
    split at h
    case h_2 k k' m h1 =>
      simp only [Option.some.injEq, TypeDesc.int.injEq] at h1
      subst h1
      split at h
      case isTrue hc =>
        obtain ⟨rfl, hw⟩ := hc
        have := bounds_i64 hw
        exact ⟨_, rfl, by omega, by omega⟩
      case isFalse => simp at h
    all_goals simp_all
theorem cells_whole {W : World} {b off : Nat} : ∀ {n : Nat} {l : List Value}, W.cells? 0 ⟨b, off, none⟩ n = some l → hcells (whole W) b off n = some l := by
  have key : ∀ n o l, (List.range' o n).mapM (fun i => W.cell? ((⟨b, off, none⟩ : Addr).add i)) = some l → hcells (whole W) b (off + o) n = some l := by
    intro n
    induction n with
    | zero => intro o l h; simpa [hcells] using h
    | succ n ih =>
      intro o l h
      rw [List.range'_succ, List.mapM_cons] at h
      simp only [Option.bind_eq_bind, Option.bind_eq_some_iff, Option.pure_def, Option.some.injEq] at h
      obtain ⟨v, h1, r, h2, rfl⟩ := h
      have h3 := ih (o + 1) r h2
      have h4 : hcell (whole W) b (off + o) = some v := by
        rw [addr_add0] at h1
        simp only [World.cell?, Option.isSome_none, Bool.false_eq_true, if_false] at h1
        simp only [hcell, whole]
        split at h1
        · rename_i hb; rw [hb]; exact h1
        · simp at h1
      simp only [hcells, h4]
      rw [show off + o + 1 = off + (o + 1) by omega, h3]
  intro n l h
  simp only [World.cells?, Nat.zero_le, if_true] at h
  rw [List.range_eq_range'] at h
  exact key n 0 l h
theorem cells_spot {W : World} {b off s n : Nat} (hn : 0 < n) : W.cells? 0 ⟨b, off, some s⟩ n = none := by
  simp only [World.cells?, Nat.zero_le, if_true]
  cases n with
  | zero => omega
  | succ n =>
    rw [List.range_succ_eq_map, List.mapM_cons]
    have : W.cell? ((⟨b, off, some s⟩ : Addr).add 0) = none := by
      simp only [Addr.add, if_true, World.cell?]
      split <;> simp
    rw [this]; rfl
theorem rd_two {α β : Type} [Ty α] [Ty β] {h : Heap} {cs : List Value} (h1 : ∃ x : α, Ty.rep h (cs.take (Ty.sz α)) x) (h2 : ∃ y : β, Ty.rep h (cs.drop (Ty.sz α)) y) : ∃ z : α × β, Ty.rep h cs z := by
  obtain ⟨x, hx⟩ := h1
  obtain ⟨y, hy⟩ := h2
  exact ⟨(x, y), _, _, (List.take_append_drop _ cs).symm, hx, hy⟩
end
section
variable {P : Program} {W : World} {r : Reach} {base : Nat} {t e : TypeId} {v : Value}
end
end Go.Proofs.Ytbanccfdojgocaa

namespace Go.Proofs.Ytbanccfdojgocaa
open Go Go.RowKit
def RdF (P : Program) (t : TypeId) (α : Type) [Ty α] (fuel : Nat) : Prop := ∀ {H : Type} (enc : TypeId × Value → H) (W : World) (sp : Nat → Bool) (cs : List Value) (x : DataW H × List MemPlace),
  DataW.trod enc P W 0 sp true fuel t cs = some x → wOk P t x.1 → ∃ y : α, Ty.rep (whole W) cs y
theorem rd_listF {P : Program} {t : TypeId} {α : Type} [Ty α] {e : TypeId} (ht : P.underlying t = some (.slice e)) (hc : P.cellsOf e = Ty.sz α) (hpos : 0 < Ty.sz α) (hby : 0 < P.bytesOf e) {fuel : Nat} (he : ∀ n, n < fuel → RdF P e α n) : RdF P t (List α) fuel := by
  intro H enc W sp cs x h hwt
  rcases DataW.trod_slice ht h with ⟨rfl, _⟩ | ⟨a, len, cap, elems, rest, n, hfu, rfl, rfl, hb, hlc, hm, hlen, hel, hsp, hns⟩
  · exact ⟨[], none, 0, rfl, by simp, trivial, fun i hi => by simp at hi⟩
  · simp only [wOk, DataW.weights, ht, List.mem_cons, List.mem_append] at hwt
    have hsz : len ≤ reachBytes := by
      have h1 := hwt _ (.inl rfl)
      simp only [List.length_map] at h1
      have h2 : len * 1 ≤ (elems.length + rest.length) * P.bytesOf e := Nat.mul_le_mul (by omega) hby
      omega
    have hwe := wOk_all (fun n hn => hwt n (.inr (.inl hn)))
    have hall : ∀ i, i < len → ∃ y : α, ∃ b off vs, some a = some (⟨b, off, none⟩ : Addr) ∧ hcells (whole W) b (off + i * Ty.sz α) (Ty.sz α) = some vs ∧ Ty.rep (whole W) vs y := by
      intro i hi
      have hget : ∀ i, (hi : i < len) → ∃ cs', W.cells? 0 (a.add (i * P.cellsOf e)) (P.cellsOf e) = some cs' ∧ DataW.trod enc P W 0 sp true n e cs' = some (elems[i]'(by omega)) := by
        intro i hi
        have h1 := hel i hi
        rw [List.getElem?_eq_getElem (by omega)] at h1
        exact Option.bind_eq_some_iff.1 h1
      obtain ⟨cs', h1, h2⟩ := hget i hi
      obtain ⟨y, hy⟩ := he n (by omega) enc W sp cs' _ h2 (hwe _ (List.mem_map.2 ⟨_, List.getElem_mem (by omega), rfl⟩))
      obtain ⟨b, off, spot⟩ := a
      rw [hc] at h1
      have h0 : spot = none := by
        cases spot with
        | none => rfl
        | some s =>
          obtain ⟨cs0, g1, _⟩ := hget 0 (by omega)
          rw [hc] at g1
          simp only [Nat.zero_mul, Addr.add, if_true] at g1
          rw [cells_spot hpos] at g1
          simp at g1
      subst h0
      rw [addr_add0] at h1
      exact ⟨y, b, off, cs', rfl, cells_whole h1, hy⟩
    have hch : ∃ l : List α, l.length = len ∧ ∀ i (hi : i < l.length), ∃ b off vs, some a = some (⟨b, off, none⟩ : Addr) ∧ hcells (whole W) b (off + i * Ty.sz α) (Ty.sz α) = some vs ∧ Ty.rep (whole W) vs l[i] := by
      refine ⟨(List.finRange len).map fun i => Classical.choose (hall i.1 i.2), by simp, fun i hi => ?_⟩
      have hi' : i < len := by simpa using hi
      have := Classical.choose_spec (hall i hi')
      simpa using this
    obtain ⟨l, hl, hr⟩ := hch
    refine ⟨l, some a, cap, by rw [hl], ⟨by omega, ?_⟩, trivial, hr⟩
    have : reachBytes < 4611686018427387904 := by decide
    omega
end Go.Proofs.Ytbanccfdojgocaa

namespace Go.Proofs.Ytbanccfdojgocaa
open Go Go.RowKit Go.ChangeShapes
theorem laid : laidOutB Try.prog = true := by kernel_rfl
theorem own0 : ownKnob Try.prog.godebug = none := by kernel_rfl
theorem rdF_Exq : ∀ fuel, RdF Try.prog 24 Exq fuel := by
  intro fuel
  induction fuel using Nat.strongRecOn with
  | _ fuel ih =>
  intro H enc W sp cs x h hwt
  obtain ⟨xs, n, hfu, rfl, hlen, hxs, hf⟩ := DataW.trod_struct Try.underlying24 h
  rw [show Try.prog.cellsOf 24 = 3 from by kernel_rfl] at hlen
  simp only [wOk, DataW.weights, Try.underlying24] at hwt
  have hw := wOk_each hwt
  have hxs : xs.length = 3 := hxs
  have F0 : ∃ y : Int, Ty.rep (whole W) ((cs.drop 0).take 1) y := by
    have h1 := hf 0 _ rfl
    rw [show Try.prog.cellsOf _ = 1 from by kernel_rfl, List.getElem?_eq_getElem (by omega : 0 < xs.length)] at h1
    exact rd_int Try.underlying3 enc W sp n _ _ h1 (hw 0 _ _ rfl (by simp [hxs]))
  have F1 : ∃ y : Int, Ty.rep (whole W) ((cs.drop 1).take 1) y := by
    have h1 := hf 1 _ rfl
    rw [show Try.prog.cellsOf _ = 1 from by kernel_rfl, List.getElem?_eq_getElem (by omega : 1 < xs.length)] at h1
    exact rd_int Try.underlying3 enc W sp n _ _ h1 (hw 1 _ _ rfl (by simp [hxs]))
  have F2 : ∃ y : List Exq, Ty.rep (whole W) ((cs.drop 2).take 1) y := by
    have h1 := hf 2 _ rfl
    rw [show Try.prog.cellsOf _ = 1 from by kernel_rfl, List.getElem?_eq_getElem (by omega : 2 < xs.length)] at h1
    exact rd_listF (α := Exq) Try.underlying22 (by kernel_rfl) (by decide) (by rw [show Try.prog.bytesOf 24 = 40 from by kernel_rfl]; decide) (fun m hm => ih m (by omega)) enc W sp _ _ h1 (hw 2 _ _ rfl (by simp [hxs]))
  have G2 : ∃ y : List Exq, Ty.rep (whole W) (cs.drop 2) y := by
    rw [List.take_of_length_le (by simp; omega)] at F2
    exact F2
  have G1 : ∃ y : Int × List Exq, Ty.rep (whole W) (cs.drop 1) y := rd_two F1 (by rw [List.drop_drop]; exact G2)
  have G0 : ∃ y : Int × Int × List Exq, Ty.rep (whole W) (cs.drop 0) y := rd_two F0 (by rw [List.drop_drop]; exact G1)
  obtain ⟨z, hz⟩ := G0
  exact ⟨Exq.mk z.1 z.2.1 z.2.2, Exq.rep_iff.2 hz⟩
theorem rd_Exq : RdT Try.prog 24 Exq := fun enc W sp fuel cs x h hw => rdF_Exq fuel enc W sp cs x h hw
end Go.Proofs.Ytbanccfdojgocaa
