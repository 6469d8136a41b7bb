/-
  Texts of this proof, one behind the other.
-/
import Derived.Test.YtbanccfdojgocaaGreatYF3
set_option linter.all false
set_option linter.unusedVariables false
set_option linter.unusedSimpArgs false
set_option linter.defProp false
set_option maxRecDepth 1000000
namespace Go.Proofs.YtbanccfdojgocaaGreat
open Go
def H_slices_EqualFunc_S_impl_Formula_S_impl_Formula_impl_Formula_impl_Formula:Hint:=⟨[(0,false),(1,false),(2,false),(6,false),(7,false),(8,true),(9,true),(15,false),(16,false),(17,false)],[[0,3,4,5,6]]⟩
def K196_1:C:=.seq (.pl <| .e 10 0 <|
 .x 3 (.mv (.c (.bool true))) .done) (.ret)
@[simp] def W196_1 := C.w K196_1.eq_1
def K196_2:C:=.pl <| .e 10 1 <|
 .x 10 (.bin .add (.v 9) (.c (.int .i64 1))) <|
 .m 9 10 .done
@[simp] def W196_2 := C.w K196_2.eq_1
def K196_3:C:=.seq (.pl <| .e 10 0 <|
 .x 3 (.mv (.c (.bool false))) .done) (.ret)
@[simp] def W196_3 := C.w K196_3.eq_1
def K196_4:C:=.cond 10 (.v 14) K196_3 (.skip)
@[simp] def W196_4 := C.w K196_4.eq_1
def K196_5:Pl:=.x 14 (.un .not (.v 13)) .done
@[simp] def W196_5 := Pl.w K196_5.eq_1
def K196_6:C:=.seq (.pl <| .e 10 5 <|
 .m 10 2 <|
 .o (.pget (some 11) none 5 0 (some 3)) <|
 .o (.pget (some 12) none 6 0 (some 3)) <|
 .c 13 (.callv (.v 10) [.v 11,.v 12]) K196_5) K196_4
@[simp] def W196_6 := C.w K196_6.eq_1
def K196_7:C:=.seq (.pl <| .e 10 4 <|
 .m 10 1 <|
 .m 11 4 <|
 .x 12 (.ia 3 (.v 10) (.v 11)) <|
 .o (.ld (some 13) (.v 12) (some 3)) <|
 .o (.pnew 6 (.c (.agg #[.int .i64 0,.int .i64 0,.slice none 0 0])) []) <|
 .o (.pset none 6 0 3 (.v 13)) .done) K196_6
@[simp] def W196_7 := C.w K196_7.eq_1
def K196_8:C:=.seq (.block 1 (.seq (.pl <| .e 10 3 <|
 .m 10 9 <|
 .x 11 (.ia 3 (.v 7) (.v 9)) <|
 .o (.ld (some 12) (.v 11) (some 3)) <|
 .o (.pnew 5 (.c (.agg #[.int .i64 0,.int .i64 0,.slice none 0 0])) []) <|
 .m 4 10 <|
 .o (.pset none 5 0 3 (.v 12)) .done) K196_7)) K196_2
@[simp] def W196_8 := C.w K196_8.eq_1
def K196_9:C:=.seq (.cond 10 (.v 10) (.skip) (.exit 0)) K196_8
@[simp] def W196_9 := C.w K196_9.eq_1
def K196_10:C:=.seq (.pl <| .e 10 1 <|
 .x 10 (.bin .lss (.v 9) (.v 8)) .done) K196_9
@[simp] def W196_10 := C.w K196_10.eq_1
def K196_11:C:=.block 0 (.loop 10 [0,3,4,5,6] K196_10)
@[simp] def W196_11 := C.w K196_11.eq_1
def K196_12:C:=.seq (.seq (.pl <| .e 10 0 <|
 .m 7 0 <|
 .x 8 (.lenV (.v 7)) <|
 .x 9 (.mv (.c (.int .i64 0))) .done) K196_11) K196_1
@[simp] def W196_12 := C.w K196_12.eq_1
def K196_13:C:=.seq (.pl <| .e 10 0 <|
 .x 3 (.mv (.c (.bool false))) .done) (.ret)
@[simp] def W196_13 := C.w K196_13.eq_1
def K196_14:C:=.cond 10 (.v 14) K196_13 (.skip)
@[simp] def W196_14 := C.w K196_14.eq_1
def K196_15:C:=.seq (.seq (.pl <| .e 10 5 <|
 .m 10 0 <|
 .x 11 (.lenV (.v 10)) <|
 .m 12 1 <|
 .x 13 (.lenV (.v 12)) <|
 .x 14 (.bin .neq (.v 11) (.v 13)) .done) K196_14) K196_12
@[simp] def W196_15 := C.w K196_15.eq_1
def B_slices_EqualFunc_S_impl_Formula_S_impl_Formula_impl_Formula_impl_Formula:C:=.seq (.pl <| .e 10 0 <|
 .x 3 (.mv (.c (.bool false))) .done) K196_15
@[simp] def WB_slices_EqualFunc_S_impl_Formula_S_impl_Formula_impl_Formula_impl_Formula := C.w B_slices_EqualFunc_S_impl_Formula_S_impl_Formula_impl_Formula_impl_Formula.eq_1
def R_slices_EqualFunc_S_impl_Formula_S_impl_Formula_impl_Formula_impl_Formula:FIR:=⟨B_slices_EqualFunc_S_impl_Formula_S_impl_Formula_impl_Formula_impl_Formula,10,[(3,none)]⟩
theorem IR_slices_EqualFunc_S_impl_Formula_S_impl_Formula_impl_Formula_impl_Formula:cfun Tryz.prog H_slices_EqualFunc_S_impl_Formula_S_impl_Formula_impl_Formula_impl_Formula Tryz.f196=some R_slices_EqualFunc_S_impl_Formula_S_impl_Formula_impl_Formula_impl_Formula:=by kernel_rfl
theorem EN_slices_EqualFunc_S_impl_Formula_S_impl_Formula_impl_Formula_impl_Formula:ENT Tryz.prog B_slices_EqualFunc_S_impl_Formula_S_impl_Formula_impl_Formula_impl_Formula [(3,none)] 3 10 fn_slices_EqualFunc_S_impl_Formula_S_impl_Formula_impl_Formula_impl_Formula:=fun hargs hw=>enter Tryz.func196 rfl IR_slices_EqualFunc_S_impl_Formula_S_impl_Formula_impl_Formula_impl_Formula hargs hw
def H_slices_IndexFunc_S_impl_Formula_impl_Formula:Hint:=⟨[(0,false),(1,false),(4,false),(5,false),(7,false),(8,false)],[[2,3]]⟩
def K171_1:C:=.seq (.pl <| .e 6 0 <|
 .x 2 (.mv (.c (.int .i64 (-1)))) .done) (.ret)
@[simp] def W171_1 := C.w K171_1.eq_1
def K171_2:C:=.pl <| .e 6 1 <|
 .x 6 (.bin .add (.v 5) (.c (.int .i64 1))) <|
 .m 5 6 .done
@[simp] def W171_2 := C.w K171_2.eq_1
def K171_3:C:=.seq (.pl <| .e 6 1 <|
 .m 6 3 <|
 .m 2 6 .done) (.ret)
@[simp] def W171_3 := C.w K171_3.eq_1
def K171_4:C:=.cond 6 (.v 11) K171_3 (.skip)
@[simp] def W171_4 := C.w K171_4.eq_1
def K171_5:C:=.seq (.pl <| .e 6 6 <|
 .m 6 1 <|
 .m 7 0 <|
 .m 8 3 <|
 .x 9 (.ia 3 (.v 7) (.v 8)) <|
 .o (.ld (some 10) (.v 9) (some 3)) <|
 .c 11 (.callv (.v 6) [.v 10]) .done) K171_4
@[simp] def W171_5 := C.w K171_5.eq_1
def K171_6:C:=.seq (.block 1 (.seq (.pl <| .e 6 1 <|
 .m 6 5 <|
 .m 3 6 .done) K171_5)) K171_2
@[simp] def W171_6 := C.w K171_6.eq_1
def K171_7:C:=.seq (.cond 6 (.v 6) (.skip) (.exit 0)) K171_6
@[simp] def W171_7 := C.w K171_7.eq_1
def K171_8:C:=.seq (.pl <| .e 6 1 <|
 .x 6 (.bin .lss (.v 5) (.v 4)) .done) K171_7
@[simp] def W171_8 := C.w K171_8.eq_1
def K171_9:C:=.block 0 (.loop 6 [2,3] K171_8)
@[simp] def W171_9 := C.w K171_9.eq_1
def K171_10:C:=.seq (.seq (.pl <| .e 6 1 <|
 .m 6 0 <|
 .x 4 (.lenV (.v 6)) <|
 .x 5 (.mv (.c (.int .i64 0))) .done) K171_9) K171_1
@[simp] def W171_10 := C.w K171_10.eq_1
def B_slices_IndexFunc_S_impl_Formula_impl_Formula:C:=.seq (.pl <| .e 6 0 <|
 .x 2 (.mv (.c (.int .i64 0))) .done) K171_10
@[simp] def WB_slices_IndexFunc_S_impl_Formula_impl_Formula := C.w B_slices_IndexFunc_S_impl_Formula_impl_Formula.eq_1
def R_slices_IndexFunc_S_impl_Formula_impl_Formula:FIR:=⟨B_slices_IndexFunc_S_impl_Formula_impl_Formula,6,[(2,none)]⟩
theorem IR_slices_IndexFunc_S_impl_Formula_impl_Formula:cfun Tryz.prog H_slices_IndexFunc_S_impl_Formula_impl_Formula Tryz.f171=some R_slices_IndexFunc_S_impl_Formula_impl_Formula:=by kernel_rfl
theorem EN_slices_IndexFunc_S_impl_Formula_impl_Formula:ENT Tryz.prog B_slices_IndexFunc_S_impl_Formula_impl_Formula [(2,none)] 2 6 fn_slices_IndexFunc_S_impl_Formula_impl_Formula:=fun hargs hw=>enter Tryz.func171 rfl IR_slices_IndexFunc_S_impl_Formula_impl_Formula hargs hw
def H_slices_IndexFunc_S_impl_Transition_impl_Transition:Hint:=⟨[(0,false),(1,false),(4,false),(5,false),(7,false),(8,false)],[[2,3]]⟩
def K136_1:C:=.seq (.pl <| .e 6 0 <|
 .x 2 (.mv (.c (.int .i64 (-1)))) .done) (.ret)
@[simp] def W136_1 := C.w K136_1.eq_1
def K136_2:C:=.pl <| .e 6 1 <|
 .x 6 (.bin .add (.v 5) (.c (.int .i64 1))) <|
 .m 5 6 .done
@[simp] def W136_2 := C.w K136_2.eq_1
def K136_3:C:=.seq (.pl <| .e 6 1 <|
 .m 6 3 <|
 .m 2 6 .done) (.ret)
@[simp] def W136_3 := C.w K136_3.eq_1
def K136_4:C:=.cond 6 (.v 11) K136_3 (.skip)
@[simp] def W136_4 := C.w K136_4.eq_1
def K136_5:C:=.seq (.pl <| .e 6 6 <|
 .m 6 1 <|
 .m 7 0 <|
 .m 8 3 <|
 .x 9 (.ia 4 (.v 7) (.v 8)) <|
 .o (.ld (some 10) (.v 9) (some 4)) <|
 .c 11 (.callv (.v 6) [.v 10]) .done) K136_4
@[simp] def W136_5 := C.w K136_5.eq_1
def K136_6:C:=.seq (.block 1 (.seq (.pl <| .e 6 1 <|
 .m 6 5 <|
 .m 3 6 .done) K136_5)) K136_2
@[simp] def W136_6 := C.w K136_6.eq_1
def K136_7:C:=.seq (.cond 6 (.v 6) (.skip) (.exit 0)) K136_6
@[simp] def W136_7 := C.w K136_7.eq_1
def K136_8:C:=.seq (.pl <| .e 6 1 <|
 .x 6 (.bin .lss (.v 5) (.v 4)) .done) K136_7
@[simp] def W136_8 := C.w K136_8.eq_1
def K136_9:C:=.block 0 (.loop 6 [2,3] K136_8)
@[simp] def W136_9 := C.w K136_9.eq_1
def K136_10:C:=.seq (.seq (.pl <| .e 6 1 <|
 .m 6 0 <|
 .x 4 (.lenV (.v 6)) <|
 .x 5 (.mv (.c (.int .i64 0))) .done) K136_9) K136_1
@[simp] def W136_10 := C.w K136_10.eq_1
def B_slices_IndexFunc_S_impl_Transition_impl_Transition:C:=.seq (.pl <| .e 6 0 <|
 .x 2 (.mv (.c (.int .i64 0))) .done) K136_10
@[simp] def WB_slices_IndexFunc_S_impl_Transition_impl_Transition := C.w B_slices_IndexFunc_S_impl_Transition_impl_Transition.eq_1
def R_slices_IndexFunc_S_impl_Transition_impl_Transition:FIR:=⟨B_slices_IndexFunc_S_impl_Transition_impl_Transition,6,[(2,none)]⟩
theorem IR_slices_IndexFunc_S_impl_Transition_impl_Transition:cfun Tryz.prog H_slices_IndexFunc_S_impl_Transition_impl_Transition Tryz.f136=some R_slices_IndexFunc_S_impl_Transition_impl_Transition:=by kernel_rfl
theorem EN_slices_IndexFunc_S_impl_Transition_impl_Transition:ENT Tryz.prog B_slices_IndexFunc_S_impl_Transition_impl_Transition [(2,none)] 2 6 fn_slices_IndexFunc_S_impl_Transition_impl_Transition:=fun hargs hw=>enter Tryz.func136 rfl IR_slices_IndexFunc_S_impl_Transition_impl_Transition hargs hw
def H_slices_Index_S_int_int:Hint:=⟨[(0,false),(1,false),(4,false),(5,false),(7,false),(8,false)],[[2,3]]⟩
def K199_1:C:=.seq (.pl <| .e 6 0 <|
 .x 2 (.mv (.c (.int .i64 (-1)))) .done) (.ret)
@[simp] def W199_1 := C.w K199_1.eq_1
def K199_2:C:=.pl <| .e 6 1 <|
 .x 6 (.bin .add (.v 5) (.c (.int .i64 1))) <|
 .m 5 6 .done
@[simp] def W199_2 := C.w K199_2.eq_1
def K199_3:C:=.seq (.pl <| .e 6 1 <|
 .m 6 3 <|
 .m 2 6 .done) (.ret)
@[simp] def W199_3 := C.w K199_3.eq_1
def K199_4:C:=.cond 6 (.v 11) K199_3 (.skip)
@[simp] def W199_4 := C.w K199_4.eq_1
def K199_5:C:=.seq (.pl <| .e 6 6 <|
 .m 6 1 <|
 .m 7 0 <|
 .m 8 3 <|
 .x 9 (.ia 1 (.v 7) (.v 8)) <|
 .l 10 9 <|
 .x 11 (.bin .eql (.v 6) (.v 10)) .done) K199_4
@[simp] def W199_5 := C.w K199_5.eq_1
def K199_6:C:=.seq (.block 1 (.seq (.pl <| .e 6 1 <|
 .m 6 5 <|
 .m 3 6 .done) K199_5)) K199_2
@[simp] def W199_6 := C.w K199_6.eq_1
def K199_7:C:=.seq (.cond 6 (.v 6) (.skip) (.exit 0)) K199_6
@[simp] def W199_7 := C.w K199_7.eq_1
def K199_8:C:=.seq (.pl <| .e 6 1 <|
 .x 6 (.bin .lss (.v 5) (.v 4)) .done) K199_7
@[simp] def W199_8 := C.w K199_8.eq_1
def K199_9:C:=.block 0 (.loop 6 [2,3] K199_8)
@[simp] def W199_9 := C.w K199_9.eq_1
def K199_10:C:=.seq (.seq (.pl <| .e 6 1 <|
 .m 6 0 <|
 .x 4 (.lenV (.v 6)) <|
 .x 5 (.mv (.c (.int .i64 0))) .done) K199_9) K199_1
@[simp] def W199_10 := C.w K199_10.eq_1
def B_slices_Index_S_int_int:C:=.seq (.pl <| .e 6 0 <|
 .x 2 (.mv (.c (.int .i64 0))) .done) K199_10
@[simp] def WB_slices_Index_S_int_int := C.w B_slices_Index_S_int_int.eq_1
def R_slices_Index_S_int_int:FIR:=⟨B_slices_Index_S_int_int,6,[(2,none)]⟩
theorem IR_slices_Index_S_int_int:cfun Tryz.prog H_slices_Index_S_int_int Tryz.f199=some R_slices_Index_S_int_int:=by kernel_rfl
theorem EN_slices_Index_S_int_int:ENT Tryz.prog B_slices_Index_S_int_int [(2,none)] 2 6 fn_slices_Index_S_int_int:=fun hargs hw=>enter Tryz.func199 rfl IR_slices_Index_S_int_int hargs hw
def H_spec_BasicFormulas:Hint:=⟨[(0,false),(1,true),(2,false),(3,false),(4,true),(5,false),(6,false),(7,false),(8,false)],[[0,1,2,3,4,5]]⟩
def K58_1:C:=.seq (.pl <| .e 9 1 <|
 .m 9 6 <|
 .m 2 9 <|
 .x 3 (.mv (.c (.bool true))) .done) (.ret)
@[simp] def W58_1 := C.w K58_1.eq_1
def K58_2:Pl:=.m 2 9 <|
 .x 3 (.mv (.c (.bool false))) .done
@[simp] def W58_2 := Pl.w K58_2.eq_1
def K58_3:C:=.seq (.pl <| .e 9 1 <|
 .c 9 (.bls 3 0 [.int .i64 0,.int .i64 0,.slice none 0 0] []) K58_2) (.ret)
@[simp] def W58_3 := C.w K58_3.eq_1
def K58_4:C:=.cond 9 (.v 11) K58_3 (.skip)
@[simp] def W58_4 := C.w K58_4.eq_1
def K58_5:C:=.seq (.seq (.pl <| .e 9 3 <|
 .m 9 6 <|
 .x 10 (.lenV (.v 9)) <|
 .x 11 (.bin .gtr (.v 10) (.c (.int .i64 5))) .done) K58_4) K58_1
@[simp] def W58_5 := C.w K58_5.eq_1
def K58_6:C:=.pl <| .e 9 2 <|
 .m 9 8 <|
 .x 10 (.bin .add (.v 9) (.c (.int .i64 1))) <|
 .m 8 10 .done
@[simp] def W58_6 := C.w K58_6.eq_1
def K58_7:Pl:=.m 6 15 .done
@[simp] def W58_7 := Pl.w K58_7.eq_1
def K58_8:C:=.pl <| .e 9 7 <|
 .m 9 6 <|
 .m 10 7 <|
 .m 11 8 <|
 .x 12 (.ia 3 (.v 10) (.v 11)) <|
 .o (.ld (some 13) (.v 12) (some 3)) <|
 .o (.psl 14 [.int .i64 0,.int .i64 0,.slice none 0 0] [(0,3,.v 13)]) <|
 .c 15 (.app 40 3 [.int .i64 0,.int .i64 0,.slice none 0 0] (.o (.v 9)) (.p 1 14)) K58_7
@[simp] def W58_8 := C.w K58_8.eq_1
def K58_9:C:=.cond 9 (.v 13) K58_8 (.skip)
@[simp] def W58_9 := C.w K58_9.eq_1
def K58_10:C:=.seq (.block 1 (.seq (.pl <| .e 9 5 <|
 .m 9 7 <|
 .m 10 8 <|
 .x 11 (.ia 3 (.v 9) (.v 10)) <|
 .o (.ld (some 12) (.v 11) (some 3)) <|
 .c 13 (.call fn_spec_l7Basic [.v 12]) .done) K58_9)) K58_6
@[simp] def W58_10 := C.w K58_10.eq_1
def K58_11:C:=.cond 9 (.v 12) (.skip) (.exit 0)
@[simp] def W58_11 := C.w K58_11.eq_1
def K58_12:C:=.seq (.seq (.pl <| .e 9 4 <|
 .m 9 8 <|
 .m 10 7 <|
 .x 11 (.lenV (.v 10)) <|
 .x 12 (.bin .lss (.v 9) (.v 11)) .done) K58_11) K58_10
@[simp] def W58_12 := C.w K58_12.eq_1
def K58_13:C:=.block 0 (.loop 9 [0,1,2,3,4,5] K58_12)
@[simp] def W58_13 := C.w K58_13.eq_1
def K58_14:C:=.seq (.seq (.pl <| .e 9 0 <|
 .x 8 (.mv (.c (.int .i64 0))) .done) K58_13) K58_5
@[simp] def W58_14 := C.w K58_14.eq_1
def K58_15:Pl:=.m 7 10 .done
@[simp] def W58_15 := Pl.w K58_15.eq_1
def K58_16:C:=.seq (.pl <| .e 9 2 <|
 .o (.pget (some 9) none 4 0 (some 3)) <|
 .c 10 (.call fn_spec_l5Subs [.c (.slice none 0 0),.v 9]) K58_15) K58_14
@[simp] def W58_16 := C.w K58_16.eq_1
def K58_17:Pl:=.m 6 9 .done
@[simp] def W58_17 := Pl.w K58_17.eq_1
def K58_18:C:=.seq (.pl <| .e 9 1 <|
 .c 9 (.bls 3 0 [.int .i64 0,.int .i64 0,.slice none 0 0] []) K58_17) K58_16
@[simp] def W58_18 := C.w K58_18.eq_1
def K58_19:Pl:=.m 2 9 <|
 .x 3 (.mv (.c (.bool false))) .done
@[simp] def W58_19 := Pl.w K58_19.eq_1
def K58_20:C:=.seq (.pl <| .e 9 1 <|
 .c 9 (.bls 3 0 [.int .i64 0,.int .i64 0,.slice none 0 0] []) K58_19) (.ret)
@[simp] def W58_20 := C.w K58_20.eq_1
def K58_21:C:=.cond 9 (.v 10) K58_20 (.skip)
@[simp] def W58_21 := C.w K58_21.eq_1
def K58_22:C:=.seq (.seq (.pl <| .e 9 2 <|
 .m 9 5 <|
 .x 10 (.un .not (.v 9)) .done) K58_21) K58_18
@[simp] def W58_22 := C.w K58_22.eq_1
def K58_23:Pl:=.m 11 10 <|
 .x 12 (.extract 0 (.v 11)) <|
 .x 13 (.extract 1 (.v 11)) <|
 .o (.pnew 4 (.c (.agg #[.int .i64 0,.int .i64 0,.slice none 0 0])) []) <|
 .o (.pset none 4 0 3 (.v 12)) <|
 .m 5 13 .done
@[simp] def W58_23 := Pl.w K58_23.eq_1
def K58_24:C:=.seq (.pl <| .e 9 5 <|
 .o (.pget (some 9) none 1 0 (some 3)) <|
 .c 10 (.call fn_spec_NormalForm [.v 9]) K58_23) K58_22
@[simp] def W58_24 := C.w K58_24.eq_1
def B_spec_BasicFormulas:C:=.seq (.pl <| .e 9 0 <|
 .o (.pnew 1 (.v 0) []) <|
 .x 2 (.mv (.c (.slice none 0 0))) <|
 .x 3 (.mv (.c (.bool false))) .done) K58_24
@[simp] def WB_spec_BasicFormulas := C.w B_spec_BasicFormulas.eq_1
def R_spec_BasicFormulas:FIR:=⟨B_spec_BasicFormulas,9,[(2,none),(3,none)]⟩
theorem IR_spec_BasicFormulas:cfun Tryz.prog H_spec_BasicFormulas Tryz.f58=some R_spec_BasicFormulas:=by kernel_rfl
theorem EN_spec_BasicFormulas:ENT Tryz.prog B_spec_BasicFormulas [(2,none),(3,none)] 1 9 fn_spec_BasicFormulas:=fun hargs hw=>enter Tryz.func58 rfl IR_spec_BasicFormulas hargs hw
def H_spec_FormulaSame:Hint:=⟨[(0,false),(1,false),(2,true),(3,true),(4,false),(5,false)],[[0,1,4]]⟩
def K176_1:C:=.seq (.pl <| .e 6 0 <|
 .x 4 (.mv (.c (.bool true))) .done) (.ret)
@[simp] def W176_1 := C.w K176_1.eq_1
def K176_2:C:=.pl <| .e 6 2 <|
 .m 6 5 <|
 .x 7 (.bin .add (.v 6) (.c (.int .i64 1))) <|
 .m 5 7 .done
@[simp] def W176_2 := C.w K176_2.eq_1
def K176_3:C:=.seq (.pl <| .e 6 0 <|
 .x 4 (.mv (.c (.bool false))) .done) (.ret)
@[simp] def W176_3 := C.w K176_3.eq_1
def K176_4:C:=.cond 6 (.v 17) K176_3 (.skip)
@[simp] def W176_4 := C.w K176_4.eq_1
def K176_5:Pl:=.x 17 (.un .not (.v 16)) .done
@[simp] def W176_5 := Pl.w K176_5.eq_1
def K176_6:C:=.seq (.block 1 (.seq (.pl <| .e 6 12 <|
 .a 6 2 <|
 .g 7 6 2 2 <|
 .m 8 5 <|
 .x 9 (.ia 3 (.v 7) (.v 8)) <|
 .o (.ld (some 10) (.v 9) (some 3)) <|
 .a 11 3 <|
 .g 12 11 3 2 <|
 .m 13 5 <|
 .x 14 (.ia 3 (.v 12) (.v 13)) <|
 .o (.ld (some 15) (.v 14) (some 3)) <|
 .c 16 (.call fn_spec_FormulaSame [.v 10,.v 15]) K176_5) K176_4)) K176_2
@[simp] def W176_6 := C.w K176_6.eq_1
def K176_7:C:=.cond 6 (.v 10) (.skip) (.exit 0)
@[simp] def W176_7 := C.w K176_7.eq_1
def K176_8:C:=.seq (.seq (.pl <| .e 6 5 <|
 .m 6 5 <|
 .a 7 2 <|
 .g 8 7 2 2 <|
 .x 9 (.lenV (.v 8)) <|
 .x 10 (.bin .lss (.v 6) (.v 9)) .done) K176_7) K176_6
@[simp] def W176_8 := C.w K176_8.eq_1
def K176_9:C:=.block 0 (.loop 6 [0,1,4] K176_8)
@[simp] def W176_9 := C.w K176_9.eq_1
def K176_10:C:=.seq (.seq (.pl <| .e 6 0 <|
 .x 5 (.mv (.c (.int .i64 0))) .done) K176_9) K176_1
@[simp] def W176_10 := C.w K176_10.eq_1
def K176_11:C:=.seq (.pl <| .e 6 0 <|
 .x 4 (.mv (.c (.bool false))) .done) (.ret)
@[simp] def W176_11 := C.w K176_11.eq_1
def K176_12:C:=.cond 6 (.v 26) K176_11 (.skip)
@[simp] def W176_12 := C.w K176_12.eq_1
def K176_13:C:=.seq (.seq (.pl <| .e 6 21 <|
 .a 6 2 <|
 .g 7 6 2 0 <|
 .a 8 3 <|
 .g 9 8 3 0 <|
 .x 10 (.bin .neq (.v 7) (.v 9)) <|
 .m 11 10 <|
 .n 11 (.als 12 none 2) <|
 .n 11 (.pget (some 13) (some 12) 2 1 none) <|
 .n 11 (.als 14 none 3) <|
 .n 11 (.pget (some 15) (some 14) 3 1 none) <|
 .n 11 (.px (some 16) (.bin .neq (.v 13) (.v 15))) <|
 .x 17 (.pick (.v 11) (.c (.bool true)) (.v 16)) <|
 .m 18 17 <|
 .n 18 (.als 19 none 2) <|
 .n 18 (.pget (some 20) (some 19) 2 2 none) <|
 .n 18 (.px (some 21) (.lenV (.v 20))) <|
 .n 18 (.als 22 none 3) <|
 .n 18 (.pget (some 23) (some 22) 3 2 none) <|
 .n 18 (.px (some 24) (.lenV (.v 23))) <|
 .n 18 (.px (some 25) (.bin .neq (.v 21) (.v 24))) <|
 .x 26 (.pick (.v 18) (.c (.bool true)) (.v 25)) .done) K176_12) K176_10
@[simp] def W176_13 := C.w K176_13.eq_1
def B_spec_FormulaSame:C:=.seq (.pl <| .e 6 0 <|
 .o (.pnew 2 (.v 0) []) <|
 .o (.pnew 3 (.v 1) []) <|
 .x 4 (.mv (.c (.bool false))) .done) K176_13
@[simp] def WB_spec_FormulaSame := C.w B_spec_FormulaSame.eq_1
def R_spec_FormulaSame:FIR:=⟨B_spec_FormulaSame,6,[(4,none)]⟩
theorem IR_spec_FormulaSame:cfun Tryz.prog H_spec_FormulaSame Tryz.f176=some R_spec_FormulaSame:=by kernel_rfl
theorem EN_spec_FormulaSame:ENT Tryz.prog B_spec_FormulaSame [(4,none)] 2 6 fn_spec_FormulaSame:=fun hargs hw=>enter Tryz.func176 rfl IR_spec_FormulaSame hargs hw
def H_spec_FormulaValid:Hint:=⟨[(0,false),(1,true),(2,false)],[]⟩
def K101_1:Pl:=.y 5 (.px (some 8) (.bin .leq (.v 7) (.c (.int .i64 12)))) <|
 .x 9 (.pick (.v 5) (.v 8) (.c (.bool false))) <|
 .m 2 9 .done
@[simp] def W101_1 := Pl.w K101_1.eq_1
def K101_2:Pl:=.m 5 4 <|
 .y 5 (.pget (some 6) none 1 0 (some 3)) <|
 .st (.act (some (.v 5,true)) (.ex (some 7) (.call fn_spec_l5Count [.v 6,.c (.int .i64 6)]))) K101_1
@[simp] def W101_2 := Pl.w K101_2.eq_1
def K101_3:C:=.seq (.pl <| .e 3 7 <|
 .o (.pget (some 3) none 1 0 (some 3)) <|
 .c 4 (.call fn_spec_l5Shape [.v 3,.c (.int .i64 6)]) K101_2) (.ret)
@[simp] def W101_3 := C.w K101_3.eq_1
def B_spec_FormulaValid:C:=.seq (.pl <| .e 3 0 <|
 .o (.pnew 1 (.v 0) []) <|
 .x 2 (.mv (.c (.bool false))) .done) K101_3
@[simp] def WB_spec_FormulaValid := C.w B_spec_FormulaValid.eq_1
def R_spec_FormulaValid:FIR:=⟨B_spec_FormulaValid,3,[(2,none)]⟩
theorem IR_spec_FormulaValid:cfun Tryz.prog H_spec_FormulaValid Tryz.f101=some R_spec_FormulaValid:=by kernel_rfl
theorem EN_spec_FormulaValid:ENT Tryz.prog B_spec_FormulaValid [(2,none)] 1 3 fn_spec_FormulaValid:=fun hargs hw=>enter Tryz.func101 rfl IR_spec_FormulaValid hargs hw
def H_spec_NormalForm:Hint:=⟨[(0,false),(1,true),(2,true),(3,false),(4,true)],[]⟩
def K59_1:C:=.seq (.pl <| .e 5 1 <|
 .o (.pget (some 5) none 4 0 (some 3)) <|
 .o (.pset none 2 0 3 (.v 5)) <|
 .x 3 (.mv (.c (.bool true))) .done) (.ret)
@[simp] def W59_1 := C.w K59_1.eq_1
def K59_2:C:=.seq (.pl <| .e 5 1 <|
 .x 5 (.build [.int .i64 0,.int .i64 0,.slice none 0 0] []) <|
 .o (.pset none 2 0 3 (.v 5)) <|
 .x 3 (.mv (.c (.bool false))) .done) (.ret)
@[simp] def W59_2 := C.w K59_2.eq_1
def K59_3:C:=.cond 5 (.v 7) K59_2 (.skip)
@[simp] def W59_3 := C.w K59_3.eq_1
def K59_4:Pl:=.x 7 (.un .not (.v 6)) .done
@[simp] def W59_4 := Pl.w K59_4.eq_1
def K59_5:C:=.seq (.seq (.pl <| .e 5 3 <|
 .o (.pget (some 5) none 4 0 (some 3)) <|
 .c 6 (.call fn_spec_FormulaValid [.v 5]) K59_4) K59_3) K59_1
@[simp] def W59_5 := C.w K59_5.eq_1
def K59_6:Pl:=.o (.pnew 4 (.c (.agg #[.int .i64 0,.int .i64 0,.slice none 0 0])) []) <|
 .o (.pset none 4 0 3 (.v 6)) .done
@[simp] def W59_6 := Pl.w K59_6.eq_1
def K59_7:C:=.seq (.pl <| .e 5 2 <|
 .o (.pget (some 5) none 1 0 (some 3)) <|
 .c 6 (.call fn_spec_l5Push [.v 5,.c (.bool false)]) K59_6) K59_5
@[simp] def W59_7 := C.w K59_7.eq_1
def K59_8:C:=.seq (.pl <| .e 5 1 <|
 .x 5 (.build [.int .i64 0,.int .i64 0,.slice none 0 0] []) <|
 .o (.pset none 2 0 3 (.v 5)) <|
 .x 3 (.mv (.c (.bool false))) .done) (.ret)
@[simp] def W59_8 := C.w K59_8.eq_1
def K59_9:C:=.cond 5 (.v 7) K59_8 (.skip)
@[simp] def W59_9 := C.w K59_9.eq_1
def K59_10:Pl:=.x 7 (.un .not (.v 6)) .done
@[simp] def W59_10 := Pl.w K59_10.eq_1
def K59_11:C:=.seq (.seq (.pl <| .e 5 3 <|
 .o (.pget (some 5) none 1 0 (some 3)) <|
 .c 6 (.call fn_spec_FormulaValid [.v 5]) K59_10) K59_9) K59_7
@[simp] def W59_11 := C.w K59_11.eq_1
def B_spec_NormalForm:C:=.seq (.pl <| .e 5 0 <|
 .o (.pnew 1 (.v 0) []) <|
 .o (.pnew 2 (.c (.agg #[.int .i64 0,.int .i64 0,.slice none 0 0])) []) <|
 .x 3 (.mv (.c (.bool false))) .done) K59_11
@[simp] def WB_spec_NormalForm := C.w B_spec_NormalForm.eq_1
def R_spec_NormalForm:FIR:=⟨B_spec_NormalForm,5,[(2,some (some 3)),(3,none)]⟩
theorem IR_spec_NormalForm:cfun Tryz.prog H_spec_NormalForm Tryz.f59=some R_spec_NormalForm:=by kernel_rfl
theorem EN_spec_NormalForm:ENT Tryz.prog B_spec_NormalForm [(2,some (some 3)),(3,none)] 1 5 fn_spec_NormalForm:=fun hargs hw=>enter Tryz.func59 rfl IR_spec_NormalForm hargs hw
def H_spec_TranslateFormula:Hint:=⟨[(0,false),(1,true),(2,true),(3,false),(4,false),(5,false),(6,true),(8,false),(9,false),(10,true),(11,false),(12,false),(13,false),(14,false),(15,false),(16,false),(17,false),(18,false),(19,false),(20,false)],[[0,1,3,5,12,13,14,15,16,17,18,19],[0,1,3,5,6,11,13,14,15,16,17,18,19],[0,1,3,5,6,11,15,19]]⟩
def K17_1:C:=.seq (.pl <| .e 20 1 <|
 .o (.pget (some 20) none 9 0 (some 3)) <|
 .o (.pset none 2 0 3 (.v 20)) <|
 .x 3 (.mv (.c (.bool true))) .done) (.ret)
@[simp] def W17_1 := C.w K17_1.eq_1
def K17_2:Pl:=.a 21 9 <|
 .o (.pset (some 21) 9 1 1 (.v 20)) .done
@[simp] def W17_2 := Pl.w K17_2.eq_1
def K17_3:C:=.pl <| .e 20 2 <|
 .c 20 (.bls 1 1 [.bool false] [(0,1,.c (.bool false))]) K17_2
@[simp] def W17_3 := C.w K17_3.eq_1
def K17_4:C:=.cond 20 (.v 22) K17_3 (.skip)
@[simp] def W17_4 := C.w K17_4.eq_1
def K17_5:C:=.seq (.seq (.pl <| .e 20 3 <|
 .m 20 10 <|
 .x 21 (.lenV (.v 20)) <|
 .x 22 (.bin .eql (.v 21) (.c (.int .i64 0))) .done) K17_4) K17_1
@[simp] def W17_5 := C.w K17_5.eq_1
def K17_6:C:=.pl <| .e 20 2 <|
 .m 20 12 <|
 .x 21 (.bin .add (.v 20) (.c (.int .i64 1))) <|
 .m 12 21 .done
@[simp] def W17_6 := C.w K17_6.eq_1
def K17_7:C:=.pl <| .e 20 2 <|
 .m 20 18 <|
 .x 21 (.bin .add (.v 20) (.c (.int .i64 1))) <|
 .m 18 21 .done
@[simp] def W17_7 := C.w K17_7.eq_1
def K17_8:Pl:=.a 29 9 <|
 .o (.pset (some 29) 9 2 1 (.v 28)) .done
@[simp] def W17_8 := Pl.w K17_8.eq_1
def K17_9:C:=.pl <| .e 20 10 <|
 .a 20 9 <|
 .g 21 20 9 2 <|
 .m 22 12 <|
 .m 23 16 <|
 .m 24 17 <|
 .m 25 19 <|
 .x 26 (.build [.int .i64 0,.int .i64 0,.int .i64 0,.int .i64 0] [(0,1,.v 22),(1,1,.v 23),(2,1,.v 24),(3,1,.v 25)]) <|
 .o (.psl 27 [.int .i64 0,.int .i64 0,.int .i64 0,.int .i64 0] [(0,4,.v 26)]) <|
 .c 28 (.app 32 4 [.int .i64 0,.int .i64 0,.int .i64 0,.int .i64 0] (.o (.v 21)) (.p 1 27)) K17_8
@[simp] def W17_9 := C.w K17_9.eq_1
def K17_10:Pl:=.m 25 24 <|
 .x 26 (.extract 0 (.v 25)) <|
 .x 27 (.extract 1 (.v 25)) <|
 .m 10 26 <|
 .m 19 27 .done
@[simp] def W17_10 := Pl.w K17_10.eq_1
def K17_11:Pl:=.c 24 (.call fn_spec_l7Pair [.v 20,.v 23]) K17_10
@[simp] def W17_11 := Pl.w K17_11.eq_1
def K17_12:C:=.seq (.pl <| .e 20 8 <|
 .m 20 10 <|
 .m 21 18 <|
 .m 22 14 <|
 .c 23 (.bls 1 2 [.int .i64 0] [(0,1,.v 21),(1,1,.v 22)]) K17_11) K17_9
@[simp] def W17_12 := C.w K17_12.eq_1
def K17_13:C:=.seq (.pl <| .e 20 0 <|
 .x 19 (.mv (.c (.int .i64 0))) .done) K17_12
@[simp] def W17_13 := C.w K17_13.eq_1
def K17_14:C:=.cond 20 (.v 23) K17_13 (.skip)
@[simp] def W17_14 := C.w K17_14.eq_1
def K17_15:C:=.seq (.block 5 (.seq (.pl <| .e 20 4 <|
 .m 20 4 <|
 .m 21 13 <|
 .m 22 18 <|
 .c 23 (.call fn_spec_l7Follows [.v 20,.v 21,.v 22]) .done) K17_14)) K17_7
@[simp] def W17_15 := C.w K17_15.eq_1
def K17_16:C:=.cond 20 (.v 22) (.skip) (.exit 4)
@[simp] def W17_16 := C.w K17_16.eq_1
def K17_17:C:=.seq (.seq (.pl <| .e 20 3 <|
 .m 20 18 <|
 .m 21 7 <|
 .x 22 (.bin .lss (.v 20) (.v 21)) .done) K17_16) K17_15
@[simp] def W17_17 := C.w K17_17.eq_1
def K17_18:C:=.block 4 (.loop 20 [0,1,3,5,6,11,15,19] K17_17)
@[simp] def W17_18 := C.w K17_18.eq_1
def K17_19:C:=.seq (.pl <| .e 20 0 <|
 .x 18 (.mv (.c (.int .i64 0))) .done) K17_18
@[simp] def W17_19 := C.w K17_19.eq_1
def K17_20:Pl:=.m 23 22 <|
 .x 24 (.extract 0 (.v 23)) <|
 .x 25 (.extract 1 (.v 23)) <|
 .m 16 24 <|
 .m 17 25 .done
@[simp] def W17_20 := Pl.w K17_20.eq_1
def K17_21:C:=.seq (.pl <| .e 20 6 <|
 .m 20 4 <|
 .m 21 13 <|
 .c 22 (.call fn_spec_l7Letter [.v 20,.v 21]) K17_20) K17_19
@[simp] def W17_21 := C.w K17_21.eq_1
def K17_22:Pl:=.a 25 9 <|
 .o (.pset (some 25) 9 1 1 (.v 24)) .done
@[simp] def W17_22 := Pl.w K17_22.eq_1
def K17_23:C:=.seq (.pl <| .e 20 6 <|
 .a 20 9 <|
 .g 21 20 9 1 <|
 .m 22 15 <|
 .o (.psl 23 [.bool false] [(0,1,.v 22)]) <|
 .c 24 (.app 1 1 [.bool false] (.o (.v 21)) (.p 1 23)) K17_22) K17_21
@[simp] def W17_23 := C.w K17_23.eq_1
def K17_24:Pl:=.m 30 29 <|
 .x 31 (.extract 0 (.v 30)) <|
 .x 32 (.extract 1 (.v 30)) <|
 .m 14 31 <|
 .m 15 32 .done
@[simp] def W17_24 := Pl.w K17_24.eq_1
def K17_25:C:=.seq (.pl <| .e 20 13 <|
 .m 20 4 <|
 .m 21 8 <|
 .m 22 13 <|
 .m 23 10 <|
 .m 24 12 <|
 .x 25 (.ia 1 (.v 23) (.v 24)) <|
 .l 26 25 <|
 .x 27 (.ia 1 (.v 26) (.c (.int .i64 1))) <|
 .l 28 27 <|
 .c 29 (.call fn_spec_l7Phase [.v 20,.v 21,.v 22,.v 28]) K17_24) K17_23
@[simp] def W17_25 := C.w K17_25.eq_1
def K17_26:C:=.seq (.pl <| .e 20 6 <|
 .m 20 10 <|
 .m 21 12 <|
 .x 22 (.ia 1 (.v 20) (.v 21)) <|
 .l 23 22 <|
 .x 24 (.ia 1 (.v 23) (.c (.int .i64 0))) <|
 .l 25 24 <|
 .m 13 25 .done) K17_25
@[simp] def W17_26 := C.w K17_26.eq_1
def K17_27:C:=.seq (.pl <| .e 20 1 <|
 .x 20 (.build [.slice none 0 0,.slice none 0 0,.slice none 0 0] []) <|
 .o (.pset none 2 0 3 (.v 20)) <|
 .x 3 (.mv (.c (.bool false))) .done) (.ret)
@[simp] def W17_27 := C.w K17_27.eq_1
def K17_28:C:=.cond 20 (.v 22) K17_27 (.skip)
@[simp] def W17_28 := C.w K17_28.eq_1
def K17_29:C:=.seq (.block 3 (.seq (.seq (.pl <| .e 20 3 <|
 .m 20 10 <|
 .x 21 (.lenV (.v 20)) <|
 .x 22 (.bin .gtr (.v 21) (.c (.int .i64 64))) .done) K17_28) K17_26)) K17_6
@[simp] def W17_29 := C.w K17_29.eq_1
def K17_30:C:=.cond 20 (.v 23) (.skip) (.exit 2)
@[simp] def W17_30 := C.w K17_30.eq_1
def K17_31:C:=.seq (.seq (.pl <| .e 20 4 <|
 .m 20 12 <|
 .m 21 10 <|
 .x 22 (.lenV (.v 21)) <|
 .x 23 (.bin .lss (.v 20) (.v 22)) .done) K17_30) K17_29
@[simp] def W17_31 := C.w K17_31.eq_1
def K17_32:C:=.block 2 (.loop 20 [0,1,3,5,6,11,13,14,15,16,17,18,19] K17_31)
@[simp] def W17_32 := C.w K17_32.eq_1
def K17_33:C:=.seq (.seq (.pl <| .e 20 0 <|
 .x 12 (.mv (.c (.int .i64 0))) .done) K17_32) K17_5
@[simp] def W17_33 := C.w K17_33.eq_1
def K17_34:C:=.pl <| .e 20 2 <|
 .m 20 11 <|
 .x 21 (.bin .add (.v 20) (.c (.int .i64 1))) <|
 .m 11 21 .done
@[simp] def W17_34 := C.w K17_34.eq_1
def K17_35:Pl:=.m 10 24 .done
@[simp] def W17_35 := Pl.w K17_35.eq_1
def K17_36:Pl:=.o (.psl 23 [.slice none 0 0] [(0,1,.v 22)]) <|
 .c 24 (.app 24 1 [.slice none 0 0] (.o (.v 20)) (.p 1 23)) K17_35
@[simp] def W17_36 := Pl.w K17_36.eq_1
def K17_37:C:=.pl <| .e 20 5 <|
 .m 20 10 <|
 .m 21 11 <|
 .c 22 (.bls 1 2 [.int .i64 0] [(0,1,.v 21),(1,1,.c (.int .i64 0))]) K17_36
@[simp] def W17_37 := C.w K17_37.eq_1
def K17_38:Pl:=.a 26 9 <|
 .o (.pset (some 26) 9 0 1 (.v 25)) .done
@[simp] def W17_38 := Pl.w K17_38.eq_1
def K17_39:C:=.seq (.pl <| .e 20 7 <|
 .a 20 9 <|
 .g 21 20 9 0 <|
 .m 22 10 <|
 .x 23 (.lenV (.v 22)) <|
 .o (.psl 24 [.int .i64 0] [(0,1,.v 23)]) <|
 .c 25 (.app 8 1 [.int .i64 0] (.o (.v 21)) (.p 1 24)) K17_38) K17_37
@[simp] def W17_39 := C.w K17_39.eq_1
def K17_40:C:=.cond 20 (.v 23) K17_39 (.skip)
@[simp] def W17_40 := C.w K17_40.eq_1
def K17_41:C:=.seq (.block 1 (.seq (.pl <| .e 20 4 <|
 .m 20 4 <|
 .m 21 11 <|
 .o (.pget (some 22) none 6 0 (some 3)) <|
 .c 23 (.call fn_spec_l7Value [.v 20,.v 21,.v 22]) .done) K17_40)) K17_34
@[simp] def W17_41 := C.w K17_41.eq_1
def K17_42:C:=.cond 20 (.v 22) (.skip) (.exit 0)
@[simp] def W17_42 := C.w K17_42.eq_1
def K17_43:C:=.seq (.seq (.pl <| .e 20 3 <|
 .m 20 11 <|
 .m 21 7 <|
 .x 22 (.bin .lss (.v 20) (.v 21)) .done) K17_42) K17_41
@[simp] def W17_43 := C.w K17_43.eq_1
def K17_44:C:=.block 0 (.loop 20 [0,1,3,5,12,13,14,15,16,17,18,19] K17_43)
@[simp] def W17_44 := C.w K17_44.eq_1
def K17_45:C:=.seq (.seq (.pl <| .e 20 0 <|
 .x 11 (.mv (.c (.int .i64 0))) .done) K17_44) K17_33
@[simp] def W17_45 := C.w K17_45.eq_1
def K17_46:Pl:=.m 10 20 .done
@[simp] def W17_46 := Pl.w K17_46.eq_1
def K17_47:C:=.seq (.pl <| .e 20 1 <|
 .c 20 (.bls 1 0 [.slice none 0 0] []) K17_46) K17_45
@[simp] def W17_47 := C.w K17_47.eq_1
def K17_48:C:=.seq (.pl <| .e 20 1 <|
 .x 20 (.build [.slice none 0 0,.slice none 0 0,.slice none 0 0] []) <|
 .o (.pnew 9 (.c (.agg #[.slice none 0 0,.slice none 0 0,.slice none 0 0])) []) <|
 .o (.pset none 9 0 3 (.v 20)) .done) K17_47
@[simp] def W17_48 := C.w K17_48.eq_1
def K17_49:Pl:=.m 8 21 .done
@[simp] def W17_49 := Pl.w K17_49.eq_1
def K17_50:C:=.seq (.pl <| .e 20 2 <|
 .m 20 4 <|
 .c 21 (.call fn_spec_l7Untils [.v 20]) K17_49) K17_48
@[simp] def W17_50 := C.w K17_50.eq_1
def K17_51:C:=.seq (.pl <| .e 20 4 <|
 .m 20 4 <|
 .x 21 (.lenV (.v 20)) <|
 .x 22 (.conv .u64 (.v 21)) <|
 .x 23 (.bin .shl (.c (.int .i64 1)) (.v 22)) <|
 .m 7 23 .done) K17_50
@[simp] def W17_51 := C.w K17_51.eq_1
def K17_52:Pl:=.m 22 21 <|
 .x 23 (.extract 0 (.v 22)) <|
 .x 24 (.extract 1 (.v 22)) <|
 .o (.pnew 6 (.c (.agg #[.int .i64 0,.int .i64 0,.slice none 0 0])) []) <|
 .o (.pset none 6 0 3 (.v 23)) <|
 .m 25 24 .done
@[simp] def W17_52 := Pl.w K17_52.eq_1
def K17_53:C:=.seq (.pl <| .e 20 6 <|
 .o (.pget (some 20) none 1 0 (some 3)) <|
 .c 21 (.call fn_spec_NormalForm [.v 20]) K17_52) K17_51
@[simp] def W17_53 := C.w K17_53.eq_1
def K17_54:C:=.seq (.pl <| .e 20 1 <|
 .x 20 (.build [.slice none 0 0,.slice none 0 0,.slice none 0 0] []) <|
 .o (.pset none 2 0 3 (.v 20)) <|
 .x 3 (.mv (.c (.bool false))) .done) (.ret)
@[simp] def W17_54 := C.w K17_54.eq_1
def K17_55:C:=.cond 20 (.v 21) K17_54 (.skip)
@[simp] def W17_55 := C.w K17_55.eq_1
def K17_56:C:=.seq (.seq (.pl <| .e 20 2 <|
 .m 20 5 <|
 .x 21 (.un .not (.v 20)) .done) K17_55) K17_53
@[simp] def W17_56 := C.w K17_56.eq_1
def K17_57:Pl:=.m 22 21 <|
 .x 23 (.extract 0 (.v 22)) <|
 .x 24 (.extract 1 (.v 22)) <|
 .m 4 23 <|
 .m 5 24 .done
@[simp] def W17_57 := Pl.w K17_57.eq_1
def K17_58:C:=.seq (.pl <| .e 20 5 <|
 .o (.pget (some 20) none 1 0 (some 3)) <|
 .c 21 (.call fn_spec_BasicFormulas [.v 20]) K17_57) K17_56
@[simp] def W17_58 := C.w K17_58.eq_1
def B_spec_TranslateFormula:C:=.seq (.pl <| .e 20 0 <|
 .o (.pnew 1 (.v 0) []) <|
 .o (.pnew 2 (.c (.agg #[.slice none 0 0,.slice none 0 0,.slice none 0 0])) []) <|
 .x 3 (.mv (.c (.bool false))) .done) K17_58
@[simp] def WB_spec_TranslateFormula := C.w B_spec_TranslateFormula.eq_1
def R_spec_TranslateFormula:FIR:=⟨B_spec_TranslateFormula,20,[(2,some (some 3)),(3,none)]⟩
theorem IR_spec_TranslateFormula:cfun Tryz.prog H_spec_TranslateFormula Tryz.f17=some R_spec_TranslateFormula:=by kernel_rfl
theorem EN_spec_TranslateFormula:ENT Tryz.prog B_spec_TranslateFormula [(2,some (some 3)),(3,none)] 1 20 fn_spec_TranslateFormula:=fun hargs hw=>enter Tryz.func17 rfl IR_spec_TranslateFormula hargs hw
def H_spec_l2Ints:Hint:=⟨[(0,false),(1,false),(4,false),(5,false)],[[2]]⟩
def K123_1:C:=.seq (.pl <| .e 4 0 <|
 .x 2 (.mv (.c (.bool true))) .done) (.ret)
@[simp] def W123_1 := C.w K123_1.eq_1
def K123_2:C:=.pl <| .e 4 2 <|
 .m 4 3 <|
 .x 5 (.bin .add (.v 4) (.c (.int .i64 1))) <|
 .m 3 5 .done
@[simp] def W123_2 := C.w K123_2.eq_1
def K123_3:C:=.seq (.pl <| .e 4 0 <|
 .x 2 (.mv (.c (.bool false))) .done) (.ret)
@[simp] def W123_3 := C.w K123_3.eq_1
def K123_4:C:=.cond 4 (.v 12) K123_3 (.skip)
@[simp] def W123_4 := C.w K123_4.eq_1
def K123_5:C:=.seq (.block 1 (.seq (.pl <| .e 4 9 <|
 .m 4 0 <|
 .m 5 3 <|
 .x 6 (.ia 1 (.v 4) (.v 5)) <|
 .l 7 6 <|
 .m 8 1 <|
 .m 9 3 <|
 .x 10 (.ia 1 (.v 8) (.v 9)) <|
 .l 11 10 <|
 .x 12 (.bin .neq (.v 7) (.v 11)) .done) K123_4)) K123_2
@[simp] def W123_5 := C.w K123_5.eq_1
def K123_6:C:=.cond 4 (.v 7) (.skip) (.exit 0)
@[simp] def W123_6 := C.w K123_6.eq_1
def K123_7:C:=.seq (.seq (.pl <| .e 4 4 <|
 .m 4 3 <|
 .m 5 0 <|
 .x 6 (.lenV (.v 5)) <|
 .x 7 (.bin .lss (.v 4) (.v 6)) .done) K123_6) K123_5
@[simp] def W123_7 := C.w K123_7.eq_1
def K123_8:C:=.block 0 (.loop 4 [2] K123_7)
@[simp] def W123_8 := C.w K123_8.eq_1
def K123_9:C:=.seq (.seq (.pl <| .e 4 0 <|
 .x 3 (.mv (.c (.int .i64 0))) .done) K123_8) K123_1
@[simp] def W123_9 := C.w K123_9.eq_1
def K123_10:C:=.seq (.pl <| .e 4 0 <|
 .x 2 (.mv (.c (.bool false))) .done) (.ret)
@[simp] def W123_10 := C.w K123_10.eq_1
def K123_11:C:=.cond 4 (.v 8) K123_10 (.skip)
@[simp] def W123_11 := C.w K123_11.eq_1
def K123_12:C:=.seq (.seq (.pl <| .e 4 5 <|
 .m 4 0 <|
 .x 5 (.lenV (.v 4)) <|
 .m 6 1 <|
 .x 7 (.lenV (.v 6)) <|
 .x 8 (.bin .neq (.v 5) (.v 7)) .done) K123_11) K123_9
@[simp] def W123_12 := C.w K123_12.eq_1
def B_spec_l2Ints:C:=.seq (.pl <| .e 4 0 <|
 .x 2 (.mv (.c (.bool false))) .done) K123_12
@[simp] def WB_spec_l2Ints := C.w B_spec_l2Ints.eq_1
def R_spec_l2Ints:FIR:=⟨B_spec_l2Ints,4,[(2,none)]⟩
theorem IR_spec_l2Ints:cfun Tryz.prog H_spec_l2Ints Tryz.f123=some R_spec_l2Ints:=by kernel_rfl
theorem EN_spec_l2Ints:ENT Tryz.prog B_spec_l2Ints [(2,none)] 2 4 fn_spec_l2Ints:=fun hargs hw=>enter Tryz.func123 rfl IR_spec_l2Ints hargs hw
def H_spec_l5Arity:Hint:=⟨[(0,false),(2,false),(3,false),(4,false),(7,false),(12,false)],[]⟩
def K191_1:C:=.seq (.pl <| .e 6 0 <|
 .x 1 (.mv (.c (.int .i64 (-1)))) .done) (.ret)
@[simp] def W191_1 := C.w K191_1.eq_1
def K191_2:C:=.seq (.pl <| .e 6 0 <|
 .x 1 (.mv (.c (.int .i64 0))) .done) (.ret)
@[simp] def W191_2 := C.w K191_2.eq_1
def K191_3:C:=.seq (.pl <| .e 6 0 <|
 .x 1 (.mv (.c (.int .i64 1))) .done) (.ret)
@[simp] def W191_3 := C.w K191_3.eq_1
def K191_4:C:=.seq (.pl <| .e 6 0 <|
 .x 1 (.mv (.c (.int .i64 2))) .done) (.ret)
@[simp] def W191_4 := C.w K191_4.eq_1
def K191_5:C:=.cond 6 (.v 5) K191_4 (.skip)
@[simp] def W191_5 := C.w K191_5.eq_1
def K191_6:C:=.pl <| .e 6 1 <|
 .x 6 (.bin .eql (.v 2) (.c (.int .i64 8))) <|
 .m 5 6 .done
@[simp] def W191_6 := C.w K191_6.eq_1
def K191_7:C:=.cond 6 (.v 5) (.skip) K191_6
@[simp] def W191_7 := C.w K191_7.eq_1
def K191_8:C:=.seq (.pl <| .e 6 1 <|
 .x 6 (.bin .eql (.v 2) (.c (.int .i64 7))) <|
 .m 5 6 .done) K191_7
@[simp] def W191_8 := C.w K191_8.eq_1
def K191_9:C:=.cond 6 (.v 5) (.skip) K191_8
@[simp] def W191_9 := C.w K191_9.eq_1
def K191_10:C:=.seq (.pl <| .e 6 1 <|
 .x 6 (.bin .eql (.v 2) (.c (.int .i64 5))) <|
 .m 5 6 .done) K191_9
@[simp] def W191_10 := C.w K191_10.eq_1
def K191_11:C:=.cond 6 (.v 5) (.skip) K191_10
@[simp] def W191_11 := C.w K191_11.eq_1
def K191_12:C:=.seq (.seq (.pl <| .e 6 1 <|
 .x 6 (.bin .eql (.v 2) (.c (.int .i64 4))) <|
 .m 5 6 .done) K191_11) K191_5
@[simp] def W191_12 := C.w K191_12.eq_1
def K191_13:C:=.cond 6 (.v 4) K191_3 K191_12
@[simp] def W191_13 := C.w K191_13.eq_1
def K191_14:C:=.pl <| .e 6 1 <|
 .x 6 (.bin .eql (.v 2) (.c (.int .i64 10))) <|
 .m 4 6 .done
@[simp] def W191_14 := C.w K191_14.eq_1
def K191_15:C:=.cond 6 (.v 4) (.skip) K191_14
@[simp] def W191_15 := C.w K191_15.eq_1
def K191_16:C:=.seq (.pl <| .e 6 1 <|
 .x 6 (.bin .eql (.v 2) (.c (.int .i64 9))) <|
 .m 4 6 .done) K191_15
@[simp] def W191_16 := C.w K191_16.eq_1
def K191_17:C:=.cond 6 (.v 4) (.skip) K191_16
@[simp] def W191_17 := C.w K191_17.eq_1
def K191_18:C:=.seq (.pl <| .e 6 1 <|
 .x 6 (.bin .eql (.v 2) (.c (.int .i64 6))) <|
 .m 4 6 .done) K191_17
@[simp] def W191_18 := C.w K191_18.eq_1
def K191_19:C:=.cond 6 (.v 4) (.skip) K191_18
@[simp] def W191_19 := C.w K191_19.eq_1
def K191_20:C:=.seq (.seq (.pl <| .e 6 1 <|
 .x 6 (.bin .eql (.v 2) (.c (.int .i64 3))) <|
 .m 4 6 .done) K191_19) K191_13
@[simp] def W191_20 := C.w K191_20.eq_1
def K191_21:C:=.cond 6 (.v 3) K191_2 K191_20
@[simp] def W191_21 := C.w K191_21.eq_1
def K191_22:C:=.pl <| .e 6 1 <|
 .x 6 (.bin .eql (.v 2) (.c (.int .i64 2))) <|
 .m 3 6 .done
@[simp] def W191_22 := C.w K191_22.eq_1
def K191_23:C:=.cond 6 (.v 3) (.skip) K191_22
@[simp] def W191_23 := C.w K191_23.eq_1
def K191_24:C:=.block 0 (.seq (.seq (.pl <| .e 6 1 <|
 .x 6 (.bin .eql (.v 2) (.c (.int .i64 1))) <|
 .m 3 6 .done) K191_23) K191_21)
@[simp] def W191_24 := C.w K191_24.eq_1
def K191_25:C:=.seq (.seq (.pl <| .e 6 0 <|
 .m 2 0 .done) K191_24) K191_1
@[simp] def W191_25 := C.w K191_25.eq_1
def B_spec_l5Arity:C:=.seq (.pl <| .e 6 0 <|
 .x 1 (.mv (.c (.int .i64 0))) .done) K191_25
@[simp] def WB_spec_l5Arity := C.w B_spec_l5Arity.eq_1
def R_spec_l5Arity:FIR:=⟨B_spec_l5Arity,6,[(1,none)]⟩
theorem IR_spec_l5Arity:cfun Tryz.prog H_spec_l5Arity Tryz.f191=some R_spec_l5Arity:=by kernel_rfl
theorem EN_spec_l5Arity:ENT Tryz.prog B_spec_l5Arity [(1,none)] 1 6 fn_spec_l5Arity:=fun hargs hw=>enter Tryz.func191 rfl IR_spec_l5Arity hargs hw
def H_spec_l5Copy:Hint:=⟨[(0,false),(1,true),(2,true),(3,true),(4,false)],[[0]]⟩
def K164_1:C:=.seq (.pl <| .e 5 1 <|
 .o (.pget (some 5) none 3 0 (some 3)) <|
 .o (.pset none 2 0 3 (.v 5)) .done) (.ret)
@[simp] def W164_1 := C.w K164_1.eq_1
def K164_2:C:=.pl <| .e 5 2 <|
 .m 5 4 <|
 .x 6 (.bin .add (.v 5) (.c (.int .i64 1))) <|
 .m 4 6 .done
@[simp] def W164_2 := C.w K164_2.eq_1
def K164_3:Pl:=.a 15 3 <|
 .o (.pset (some 15) 3 2 1 (.v 14)) .done
@[simp] def W164_3 := Pl.w K164_3.eq_1
def K164_4:Pl:=.o (.psl 13 [.int .i64 0,.int .i64 0,.slice none 0 0] [(0,3,.v 12)]) <|
 .c 14 (.app 40 3 [.int .i64 0,.int .i64 0,.slice none 0 0] (.o (.v 6)) (.p 1 13)) K164_3
@[simp] def W164_4 := Pl.w K164_4.eq_1
def K164_5:C:=.seq (.block 1 (.pl <| .e 5 11 <|
 .a 5 3 <|
 .g 6 5 3 2 <|
 .a 7 1 <|
 .g 8 7 1 2 <|
 .m 9 4 <|
 .x 10 (.ia 3 (.v 8) (.v 9)) <|
 .o (.ld (some 11) (.v 10) (some 3)) <|
 .c 12 (.call fn_spec_l5Copy [.v 11]) K164_4)) K164_2
@[simp] def W164_5 := C.w K164_5.eq_1
def K164_6:C:=.cond 5 (.v 9) (.skip) (.exit 0)
@[simp] def W164_6 := C.w K164_6.eq_1
def K164_7:C:=.seq (.seq (.pl <| .e 5 5 <|
 .m 5 4 <|
 .a 6 1 <|
 .g 7 6 1 2 <|
 .x 8 (.lenV (.v 7)) <|
 .x 9 (.bin .lss (.v 5) (.v 8)) .done) K164_6) K164_5
@[simp] def W164_7 := C.w K164_7.eq_1
def K164_8:C:=.block 0 (.loop 5 [0] K164_7)
@[simp] def W164_8 := C.w K164_8.eq_1
def K164_9:C:=.seq (.seq (.pl <| .e 5 0 <|
 .x 4 (.mv (.c (.int .i64 0))) .done) K164_8) K164_1
@[simp] def W164_9 := C.w K164_9.eq_1
def K164_10:C:=.seq (.pl <| .e 5 5 <|
 .a 5 1 <|
 .g 6 5 1 0 <|
 .a 7 1 <|
 .g 8 7 1 1 <|
 .x 9 (.build [.int .i64 0,.int .i64 0,.slice none 0 0] [(0,1,.v 6),(1,1,.v 8)]) <|
 .o (.pnew 3 (.c (.agg #[.int .i64 0,.int .i64 0,.slice none 0 0])) []) <|
 .o (.pset none 3 0 3 (.v 9)) .done) K164_9
@[simp] def W164_10 := C.w K164_10.eq_1
def B_spec_l5Copy:C:=.seq (.pl <| .e 5 0 <|
 .o (.pnew 1 (.v 0) []) <|
 .o (.pnew 2 (.c (.agg #[.int .i64 0,.int .i64 0,.slice none 0 0])) []) .done) K164_10
@[simp] def WB_spec_l5Copy := C.w B_spec_l5Copy.eq_1
def R_spec_l5Copy:FIR:=⟨B_spec_l5Copy,5,[(2,some (some 3))]⟩
theorem IR_spec_l5Copy:cfun Tryz.prog H_spec_l5Copy Tryz.f164=some R_spec_l5Copy:=by kernel_rfl
theorem EN_spec_l5Copy:ENT Tryz.prog B_spec_l5Copy [(2,some (some 3))] 1 5 fn_spec_l5Copy:=fun hargs hw=>enter Tryz.func164 rfl IR_spec_l5Copy hargs hw
def H_spec_l5Count:Hint:=⟨[(0,false),(1,false),(2,true),(4,false),(5,false),(6,false)],[[0,3]]⟩
def K159_1:C:=.seq (.pl <| .e 6 1 <|
 .m 6 4 <|
 .m 3 6 .done) (.ret)
@[simp] def W159_1 := C.w K159_1.eq_1
def K159_2:C:=.pl <| .e 6 2 <|
 .m 6 5 <|
 .x 7 (.bin .add (.v 6) (.c (.int .i64 1))) <|
 .m 5 7 .done
@[simp] def W159_2 := C.w K159_2.eq_1
def K159_3:Pl:=.x 15 (.bin .add (.v 6) (.v 14)) <|
 .m 4 15 .done
@[simp] def W159_3 := Pl.w K159_3.eq_1
def K159_4:C:=.seq (.block 1 (.pl <| .e 6 10 <|
 .m 6 4 <|
 .a 7 2 <|
 .g 8 7 2 2 <|
 .m 9 5 <|
 .x 10 (.ia 3 (.v 8) (.v 9)) <|
 .o (.ld (some 11) (.v 10) (some 3)) <|
 .m 12 1 <|
 .x 13 (.bin .sub (.v 12) (.c (.int .i64 1))) <|
 .c 14 (.call fn_spec_l5Count [.v 11,.v 13]) K159_3)) K159_2
@[simp] def W159_4 := C.w K159_4.eq_1
def K159_5:C:=.cond 6 (.v 14) (.skip) (.exit 0)
@[simp] def W159_5 := C.w K159_5.eq_1
def K159_6:C:=.seq (.seq (.pl <| .e 6 9 <|
 .m 6 5 <|
 .a 7 2 <|
 .g 8 7 2 2 <|
 .x 9 (.lenV (.v 8)) <|
 .x 10 (.bin .lss (.v 6) (.v 9)) <|
 .m 11 10 <|
 .y 11 (.px (some 12) (.mv (.v 1))) <|
 .y 11 (.px (some 13) (.bin .gtr (.v 12) (.c (.int .i64 0)))) <|
 .x 14 (.pick (.v 11) (.v 13) (.c (.bool false))) .done) K159_5) K159_4
@[simp] def W159_6 := C.w K159_6.eq_1
def K159_7:C:=.block 0 (.loop 6 [0,3] K159_6)
@[simp] def W159_7 := C.w K159_7.eq_1
def K159_8:C:=.seq (.seq (.pl <| .e 6 0 <|
 .x 5 (.mv (.c (.int .i64 0))) .done) K159_7) K159_1
@[simp] def W159_8 := C.w K159_8.eq_1
def K159_9:C:=.seq (.pl <| .e 6 0 <|
 .x 4 (.mv (.c (.int .i64 1))) .done) K159_8
@[simp] def W159_9 := C.w K159_9.eq_1
def B_spec_l5Count:C:=.seq (.pl <| .e 6 0 <|
 .o (.pnew 2 (.v 0) []) <|
 .x 3 (.mv (.c (.int .i64 0))) .done) K159_9
@[simp] def WB_spec_l5Count := C.w B_spec_l5Count.eq_1
def R_spec_l5Count:FIR:=⟨B_spec_l5Count,6,[(3,none)]⟩
theorem IR_spec_l5Count:cfun Tryz.prog H_spec_l5Count Tryz.f159=some R_spec_l5Count:=by kernel_rfl
theorem EN_spec_l5Count:ENT Tryz.prog B_spec_l5Count [(3,none)] 2 6 fn_spec_l5Count:=fun hargs hw=>enter Tryz.func159 rfl IR_spec_l5Count hargs hw
def H_spec_l5Dual:Hint:=⟨[(0,false),(2,false),(3,false)],[]⟩
def K175_1:C:=.seq (.pl <| .e 3 0 <|
 .x 1 (.mv (.c (.int .i64 7))) .done) (.ret)
@[simp] def W175_1 := C.w K175_1.eq_1
def K175_2:C:=.seq (.pl <| .e 3 0 <|
 .x 1 (.mv (.c (.int .i64 5))) .done) (.ret)
@[simp] def W175_2 := C.w K175_2.eq_1
def K175_3:C:=.seq (.pl <| .e 3 0 <|
 .x 1 (.mv (.c (.int .i64 4))) .done) (.ret)
@[simp] def W175_3 := C.w K175_3.eq_1
def K175_4:C:=.seq (.pl <| .e 3 0 <|
 .x 1 (.mv (.c (.int .i64 8))) .done) (.ret)
@[simp] def W175_4 := C.w K175_4.eq_1
def K175_5:C:=.cond 3 (.v 4) K175_4 (.skip)
@[simp] def W175_5 := C.w K175_5.eq_1
def K175_6:C:=.seq (.pl <| .e 3 2 <|
 .x 3 (.bin .eql (.v 2) (.c (.int .i64 7))) <|
 .m 4 3 .done) K175_5
@[simp] def W175_6 := C.w K175_6.eq_1
def K175_7:C:=.cond 3 (.v 4) K175_3 K175_6
@[simp] def W175_7 := C.w K175_7.eq_1
def K175_8:C:=.seq (.pl <| .e 3 2 <|
 .x 3 (.bin .eql (.v 2) (.c (.int .i64 5))) <|
 .m 4 3 .done) K175_7
@[simp] def W175_8 := C.w K175_8.eq_1
def K175_9:C:=.cond 3 (.v 4) K175_2 K175_8
@[simp] def W175_9 := C.w K175_9.eq_1
def K175_10:C:=.block 0 (.seq (.pl <| .e 3 2 <|
 .x 3 (.bin .eql (.v 2) (.c (.int .i64 4))) <|
 .m 4 3 .done) K175_9)
@[simp] def W175_10 := C.w K175_10.eq_1
def K175_11:C:=.seq (.seq (.pl <| .e 3 0 <|
 .m 2 0 .done) K175_10) K175_1
@[simp] def W175_11 := C.w K175_11.eq_1
def B_spec_l5Dual:C:=.seq (.pl <| .e 3 0 <|
 .x 1 (.mv (.c (.int .i64 0))) .done) K175_11
@[simp] def WB_spec_l5Dual := C.w B_spec_l5Dual.eq_1
def R_spec_l5Dual:FIR:=⟨B_spec_l5Dual,3,[(1,none)]⟩
theorem IR_spec_l5Dual:cfun Tryz.prog H_spec_l5Dual Tryz.f175=some R_spec_l5Dual:=by kernel_rfl
theorem EN_spec_l5Dual:ENT Tryz.prog B_spec_l5Dual [(1,none)] 1 3 fn_spec_l5Dual:=fun hargs hw=>enter Tryz.func175 rfl IR_spec_l5Dual hargs hw
def H_spec_l5Find:Hint:=⟨[(0,false),(1,false),(3,true),(4,false),(5,false)],[[1,3]]⟩
def K121_1:C:=.seq (.pl <| .e 5 0 <|
 .x 3 (.mv (.c (.int .i64 (-1)))) .done) (.ret)
@[simp] def W121_1 := C.w K121_1.eq_1
def K121_2:C:=.pl <| .e 5 2 <|
 .m 5 4 <|
 .x 6 (.bin .add (.v 5) (.c (.int .i64 1))) <|
 .m 4 6 .done
@[simp] def W121_2 := C.w K121_2.eq_1
def K121_3:C:=.seq (.pl <| .e 5 1 <|
 .m 5 4 <|
 .m 3 5 .done) (.ret)
@[simp] def W121_3 := C.w K121_3.eq_1
def K121_4:C:=.cond 5 (.v 10) K121_3 (.skip)
@[simp] def W121_4 := C.w K121_4.eq_1
def K121_5:C:=.seq (.block 1 (.seq (.pl <| .e 5 6 <|
 .m 5 0 <|
 .m 6 4 <|
 .x 7 (.ia 3 (.v 5) (.v 6)) <|
 .o (.ld (some 8) (.v 7) (some 3)) <|
 .o (.pget (some 9) none 2 0 (some 3)) <|
 .c 10 (.call fn_spec_FormulaSame [.v 8,.v 9]) .done) K121_4)) K121_2
@[simp] def W121_5 := C.w K121_5.eq_1
def K121_6:C:=.cond 5 (.v 8) (.skip) (.exit 0)
@[simp] def W121_6 := C.w K121_6.eq_1
def K121_7:C:=.seq (.seq (.pl <| .e 5 4 <|
 .m 5 4 <|
 .m 6 0 <|
 .x 7 (.lenV (.v 6)) <|
 .x 8 (.bin .lss (.v 5) (.v 7)) .done) K121_6) K121_5
@[simp] def W121_7 := C.w K121_7.eq_1
def K121_8:C:=.block 0 (.loop 5 [1,3] K121_7)
@[simp] def W121_8 := C.w K121_8.eq_1
def K121_9:C:=.seq (.seq (.pl <| .e 5 0 <|
 .x 4 (.mv (.c (.int .i64 0))) .done) K121_8) K121_1
@[simp] def W121_9 := C.w K121_9.eq_1
def B_spec_l5Find:C:=.seq (.pl <| .e 5 0 <|
 .o (.pnew 2 (.v 1) []) <|
 .x 3 (.mv (.c (.int .i64 0))) .done) K121_9
@[simp] def WB_spec_l5Find := C.w B_spec_l5Find.eq_1
def R_spec_l5Find:FIR:=⟨B_spec_l5Find,5,[(3,none)]⟩
theorem IR_spec_l5Find:cfun Tryz.prog H_spec_l5Find Tryz.f121=some R_spec_l5Find:=by kernel_rfl
theorem EN_spec_l5Find:ENT Tryz.prog B_spec_l5Find [(3,none)] 2 5 fn_spec_l5Find:=fun hargs hw=>enter Tryz.func121 rfl IR_spec_l5Find hargs hw
def H_spec_l5Not:Hint:=⟨[(0,false),(1,true),(2,true)],[]⟩
def K174_1:Pl:=.x 5 (.build [.int .i64 0,.int .i64 0,.slice none 0 0] [(0,1,.c (.int .i64 3)),(2,1,.v 4)]) <|
 .o (.pset none 2 0 3 (.v 5)) .done
@[simp] def W174_1 := Pl.w K174_1.eq_1
def K174_2:C:=.seq (.pl <| .e 3 3 <|
 .o (.pget (some 3) none 1 0 (some 3)) <|
 .c 4 (.bls 3 1 [.int .i64 0,.int .i64 0,.slice none 0 0] [(0,3,.v 3)]) K174_1) (.ret)
@[simp] def W174_2 := C.w K174_2.eq_1
def B_spec_l5Not:C:=.seq (.pl <| .e 3 0 <|
 .o (.pnew 1 (.v 0) []) <|
 .o (.pnew 2 (.c (.agg #[.int .i64 0,.int .i64 0,.slice none 0 0])) []) .done) K174_2
@[simp] def WB_spec_l5Not := C.w B_spec_l5Not.eq_1
def R_spec_l5Not:FIR:=⟨B_spec_l5Not,3,[(2,some (some 3))]⟩
theorem IR_spec_l5Not:cfun Tryz.prog H_spec_l5Not Tryz.f174=some R_spec_l5Not:=by kernel_rfl
theorem EN_spec_l5Not:ENT Tryz.prog B_spec_l5Not [(2,some (some 3))] 1 3 fn_spec_l5Not:=fun hargs hw=>enter Tryz.func174 rfl IR_spec_l5Not hargs hw
def H_spec_l5Push:Hint:=⟨[(0,false),(1,false),(2,true),(4,true),(5,true),(6,false),(8,false),(9,false),(43,false)],[]⟩
def K119_1:Pl:=.x 23 (.build [.int .i64 0,.int .i64 0,.slice none 0 0] [(0,1,.v 9),(2,1,.v 22)]) <|
 .o (.pset none 3 0 3 (.v 23)) .done
@[simp] def W119_1 := Pl.w K119_1.eq_1
def K119_2:Pl:=.c 22 (.bls 3 2 [.int .i64 0,.int .i64 0,.slice none 0 0] [(0,3,.v 15),(3,3,.v 21)]) K119_1
@[simp] def W119_2 := Pl.w K119_2.eq_1
def K119_3:Pl:=.st (.re 19 (.v 18) (some 3) none) <|
 .c 21 (.call fn_spec_l5Push [.v 19,.v 20]) K119_2
@[simp] def W119_3 := Pl.w K119_3.eq_1
def K119_4:C:=.seq (.pl <| .e 9 15 <|
 .m 9 5 <|
 .a 10 2 <|
 .g 11 10 2 2 <|
 .x 12 (.ia 3 (.v 11) (.c (.int .i64 0))) <|
 .o (.ld (some 13) (.v 12) (some 3)) <|
 .m 14 1 <|
 .a 16 2 <|
 .g 17 16 2 2 <|
 .x 18 (.ia 3 (.v 17) (.c (.int .i64 1))) <|
 .o (.ld (some 19) (.v 18) (some 3)) <|
 .m 20 1 <|
 .c 15 (.call fn_spec_l5Push [.v 13,.v 14]) K119_3) (.ret)
@[simp] def W119_4 := C.w K119_4.eq_1
def K119_5:Pl:=.m 5 10 .done
@[simp] def W119_5 := Pl.w K119_5.eq_1
def K119_6:C:=.pl <| .e 9 2 <|
 .m 9 5 <|
 .c 10 (.call fn_spec_l5Dual [.v 9]) K119_5
@[simp] def W119_6 := C.w K119_6.eq_1
def K119_7:C:=.cond 9 (.v 9) K119_6 (.skip)
@[simp] def W119_7 := C.w K119_7.eq_1
def K119_8:C:=.seq (.seq (.pl <| .e 9 1 <|
 .m 9 1 .done) K119_7) K119_4
@[simp] def W119_8 := C.w K119_8.eq_1
def K119_9:C:=.seq (.pl <| .e 9 2 <|
 .a 9 2 <|
 .g 10 9 2 0 <|
 .m 5 10 .done) K119_8
@[simp] def W119_9 := C.w K119_9.eq_1
def K119_10:C:=.seq (.pl <| .e 9 5 <|
 .a 9 2 <|
 .g 10 9 2 0 <|
 .a 11 2 <|
 .g 12 11 2 1 <|
 .x 13 (.build [.int .i64 0,.int .i64 0,.slice none 0 0] [(0,1,.v 10),(1,1,.v 12)]) <|
 .o (.pset none 3 0 3 (.v 13)) .done) (.ret)
@[simp] def W119_10 := C.w K119_10.eq_1
def K119_11:Pl:=.o (.pset none 3 0 3 (.v 14)) .done
@[simp] def W119_11 := Pl.w K119_11.eq_1
def K119_12:C:=.seq (.pl <| .e 9 6 <|
 .a 9 2 <|
 .g 10 9 2 0 <|
 .a 11 2 <|
 .g 12 11 2 1 <|
 .x 13 (.build [.int .i64 0,.int .i64 0,.slice none 0 0] [(0,1,.v 10),(1,1,.v 12)]) <|
 .c 14 (.call fn_spec_l5Not [.v 13]) K119_11) (.ret)
@[simp] def W119_12 := C.w K119_12.eq_1
def K119_13:C:=.cond 9 (.v 9) K119_12 (.skip)
@[simp] def W119_13 := C.w K119_13.eq_1
def K119_14:C:=.seq (.seq (.pl <| .e 9 1 <|
 .m 9 1 .done) K119_13) K119_10
@[simp] def W119_14 := C.w K119_14.eq_1
def K119_15:Pl:=.o (.pset none 3 0 3 (.v 15)) .done
@[simp] def W119_15 := Pl.w K119_15.eq_1
def K119_16:C:=.seq (.pl <| .e 9 7 <|
 .a 9 2 <|
 .g 10 9 2 2 <|
 .x 11 (.ia 3 (.v 10) (.c (.int .i64 0))) <|
 .o (.ld (some 12) (.v 11) (some 3)) <|
 .m 13 1 <|
 .x 14 (.un .not (.v 13)) <|
 .c 15 (.call fn_spec_l5Push [.v 12,.v 14]) K119_15) (.ret)
@[simp] def W119_16 := C.w K119_16.eq_1
def K119_17:Pl:=.x 16 (.build [.int .i64 0,.int .i64 0,.slice none 0 0] [(0,1,.c (.int .i64 6)),(2,1,.v 15)]) <|
 .o (.pset none 3 0 3 (.v 16)) .done
@[simp] def W119_17 := Pl.w K119_17.eq_1
def K119_18:Pl:=.c 15 (.bls 3 1 [.int .i64 0,.int .i64 0,.slice none 0 0] [(0,3,.v 14)]) K119_17
@[simp] def W119_18 := Pl.w K119_18.eq_1
def K119_19:C:=.seq (.pl <| .e 9 8 <|
 .a 9 2 <|
 .g 10 9 2 2 <|
 .x 11 (.ia 3 (.v 10) (.c (.int .i64 0))) <|
 .o (.ld (some 12) (.v 11) (some 3)) <|
 .m 13 1 <|
 .c 14 (.call fn_spec_l5Push [.v 12,.v 13]) K119_18) (.ret)
@[simp] def W119_19 := C.w K119_19.eq_1
def K119_20:Pl:=.x 13 (.build [.int .i64 0,.int .i64 0,.slice none 0 0] [(0,1,.c (.int .i64 8)),(2,1,.v 12)]) <|
 .o (.pset none 3 0 3 (.v 13)) .done
@[simp] def W119_20 := Pl.w K119_20.eq_1
def K119_21:Pl:=.c 12 (.bls 3 2 [.int .i64 0,.int .i64 0,.slice none 0 0] [(0,3,.v 10),(3,3,.v 11)]) K119_20
@[simp] def W119_21 := Pl.w K119_21.eq_1
def K119_22:Pl:=.c 10 (.call fn_spec_l5Not [.v 9]) K119_21
@[simp] def W119_22 := Pl.w K119_22.eq_1
def K119_23:C:=.seq (.pl <| .e 9 5 <|
 .o (.pget (some 11) none 4 0 (some 3)) <|
 .c 9 (.call fn_spec_l5True []) K119_22) (.ret)
@[simp] def W119_23 := C.w K119_23.eq_1
def K119_24:Pl:=.x 12 (.build [.int .i64 0,.int .i64 0,.slice none 0 0] [(0,1,.c (.int .i64 7)),(2,1,.v 11)]) <|
 .o (.pset none 3 0 3 (.v 12)) .done
@[simp] def W119_24 := Pl.w K119_24.eq_1
def K119_25:Pl:=.c 11 (.bls 3 2 [.int .i64 0,.int .i64 0,.slice none 0 0] [(0,3,.v 9),(3,3,.v 10)]) K119_24
@[simp] def W119_25 := Pl.w K119_25.eq_1
def K119_26:C:=.seq (.pl <| .e 9 4 <|
 .o (.pget (some 10) none 4 0 (some 3)) <|
 .c 9 (.call fn_spec_l5True []) K119_25) (.ret)
@[simp] def W119_26 := C.w K119_26.eq_1
def K119_27:C:=.cond 9 (.v 13) K119_26 (.skip)
@[simp] def W119_27 := C.w K119_27.eq_1
def K119_28:C:=.seq (.seq (.pl <| .e 9 5 <|
 .a 9 2 <|
 .g 10 9 2 0 <|
 .x 11 (.bin .eql (.v 10) (.c (.int .i64 9))) <|
 .m 12 1 <|
 .x 13 (.eqb true (.v 11) (.v 12)) .done) K119_27) K119_23
@[simp] def W119_28 := C.w K119_28.eq_1
def K119_29:Pl:=.o (.pnew 4 (.c (.agg #[.int .i64 0,.int .i64 0,.slice none 0 0])) []) <|
 .o (.pset none 4 0 3 (.v 14)) .done
@[simp] def W119_29 := Pl.w K119_29.eq_1
def K119_30:C:=.seq (.pl <| .e 9 6 <|
 .a 9 2 <|
 .g 10 9 2 2 <|
 .x 11 (.ia 3 (.v 10) (.c (.int .i64 0))) <|
 .o (.ld (some 12) (.v 11) (some 3)) <|
 .m 13 1 <|
 .c 14 (.call fn_spec_l5Push [.v 12,.v 13]) K119_29) K119_28
@[simp] def W119_30 := C.w K119_30.eq_1
def K119_31:C:=.cond 9 (.v 8) K119_30 (.skip)
@[simp] def W119_31 := C.w K119_31.eq_1
def K119_32:C:=.pl <| .e 9 1 <|
 .x 9 (.bin .eql (.v 6) (.c (.int .i64 10))) <|
 .m 8 9 .done
@[simp] def W119_32 := C.w K119_32.eq_1
def K119_33:C:=.cond 9 (.v 8) (.skip) K119_32
@[simp] def W119_33 := C.w K119_33.eq_1
def K119_34:C:=.seq (.seq (.pl <| .e 9 1 <|
 .x 9 (.bin .eql (.v 6) (.c (.int .i64 9))) <|
 .m 8 9 .done) K119_33) K119_31
@[simp] def W119_34 := C.w K119_34.eq_1
def K119_35:C:=.cond 9 (.v 10) K119_19 K119_34
@[simp] def W119_35 := C.w K119_35.eq_1
def K119_36:C:=.seq (.pl <| .e 9 2 <|
 .x 9 (.bin .eql (.v 6) (.c (.int .i64 6))) <|
 .m 10 9 .done) K119_35
@[simp] def W119_36 := C.w K119_36.eq_1
def K119_37:C:=.cond 9 (.v 10) K119_16 K119_36
@[simp] def W119_37 := C.w K119_37.eq_1
def K119_38:C:=.seq (.pl <| .e 9 2 <|
 .x 9 (.bin .eql (.v 6) (.c (.int .i64 3))) <|
 .m 10 9 .done) K119_37
@[simp] def W119_38 := C.w K119_38.eq_1
def K119_39:C:=.cond 9 (.v 7) K119_14 K119_38
@[simp] def W119_39 := C.w K119_39.eq_1
def K119_40:C:=.pl <| .e 9 1 <|
 .x 9 (.bin .eql (.v 6) (.c (.int .i64 2))) <|
 .m 7 9 .done
@[simp] def W119_40 := C.w K119_40.eq_1
def K119_41:C:=.cond 9 (.v 7) (.skip) K119_40
@[simp] def W119_41 := C.w K119_41.eq_1
def K119_42:C:=.block 0 (.seq (.seq (.pl <| .e 9 1 <|
 .x 9 (.bin .eql (.v 6) (.c (.int .i64 1))) <|
 .m 7 9 .done) K119_41) K119_39)
@[simp] def W119_42 := C.w K119_42.eq_1
def K119_43:C:=.seq (.seq (.pl <| .e 9 1 <|
 .a 9 2 <|
 .g 6 9 2 0 .done) K119_42) K119_9
@[simp] def W119_43 := C.w K119_43.eq_1
def B_spec_l5Push:C:=.seq (.pl <| .e 9 0 <|
 .o (.pnew 2 (.v 0) []) <|
 .o (.pnew 3 (.c (.agg #[.int .i64 0,.int .i64 0,.slice none 0 0])) []) .done) K119_43
@[simp] def WB_spec_l5Push := C.w B_spec_l5Push.eq_1
def R_spec_l5Push:FIR:=⟨B_spec_l5Push,9,[(3,some (some 3))]⟩
theorem IR_spec_l5Push:cfun Tryz.prog H_spec_l5Push Tryz.f119=some R_spec_l5Push:=by kernel_rfl
theorem EN_spec_l5Push:ENT Tryz.prog B_spec_l5Push [(3,some (some 3))] 2 9 fn_spec_l5Push:=fun hargs hw=>enter Tryz.func119 rfl IR_spec_l5Push hargs hw
def H_spec_l5Shape:Hint:=⟨[(0,false),(1,false),(2,true),(4,false),(5,false)],[[0,3]]⟩
def K158_1:C:=.seq (.pl <| .e 5 0 <|
 .x 3 (.mv (.c (.bool true))) .done) (.ret)
@[simp] def W158_1 := C.w K158_1.eq_1
def K158_2:C:=.pl <| .e 5 2 <|
 .m 5 4 <|
 .x 6 (.bin .add (.v 5) (.c (.int .i64 1))) <|
 .m 4 6 .done
@[simp] def W158_2 := C.w K158_2.eq_1
def K158_3:C:=.seq (.pl <| .e 5 0 <|
 .x 3 (.mv (.c (.bool false))) .done) (.ret)
@[simp] def W158_3 := C.w K158_3.eq_1
def K158_4:C:=.cond 5 (.v 13) K158_3 (.skip)
@[simp] def W158_4 := C.w K158_4.eq_1
def K158_5:Pl:=.x 13 (.un .not (.v 12)) .done
@[simp] def W158_5 := Pl.w K158_5.eq_1
def K158_6:C:=.seq (.block 1 (.seq (.pl <| .e 5 9 <|
 .a 5 2 <|
 .g 6 5 2 2 <|
 .m 7 4 <|
 .x 8 (.ia 3 (.v 6) (.v 7)) <|
 .o (.ld (some 9) (.v 8) (some 3)) <|
 .m 10 1 <|
 .x 11 (.bin .sub (.v 10) (.c (.int .i64 1))) <|
 .c 12 (.call fn_spec_l5Shape [.v 9,.v 11]) K158_5) K158_4)) K158_2
@[simp] def W158_6 := C.w K158_6.eq_1
def K158_7:C:=.cond 5 (.v 9) (.skip) (.exit 0)
@[simp] def W158_7 := C.w K158_7.eq_1
def K158_8:C:=.seq (.seq (.pl <| .e 5 5 <|
 .m 5 4 <|
 .a 6 2 <|
 .g 7 6 2 2 <|
 .x 8 (.lenV (.v 7)) <|
 .x 9 (.bin .lss (.v 5) (.v 8)) .done) K158_7) K158_6
@[simp] def W158_8 := C.w K158_8.eq_1
def K158_9:C:=.block 0 (.loop 5 [0,3] K158_8)
@[simp] def W158_9 := C.w K158_9.eq_1
def K158_10:C:=.seq (.seq (.pl <| .e 5 0 <|
 .x 4 (.mv (.c (.int .i64 0))) .done) K158_9) K158_1
@[simp] def W158_10 := C.w K158_10.eq_1
def K158_11:C:=.seq (.pl <| .e 5 0 <|
 .x 3 (.mv (.c (.bool false))) .done) (.ret)
@[simp] def W158_11 := C.w K158_11.eq_1
def K158_12:C:=.cond 5 (.v 22) K158_11 (.skip)
@[simp] def W158_12 := C.w K158_12.eq_1
def K158_13:C:=.seq (.seq (.pl <| .e 5 18 <|
 .a 5 2 <|
 .g 6 5 2 1 <|
 .x 7 (.bin .lss (.v 6) (.c (.int .i64 0))) <|
 .m 8 7 <|
 .n 8 (.als 9 none 2) <|
 .n 8 (.pget (some 10) (some 9) 2 1 none) <|
 .n 8 (.px (some 11) (.bin .geq (.v 10) (.c (.int .i64 3)))) <|
 .x 12 (.pick (.v 8) (.c (.bool true)) (.v 11)) <|
 .m 13 12 <|
 .n 13 (.als 14 none 2) <|
 .n 13 (.pget (some 15) (some 14) 2 0 none) <|
 .n 13 (.px (some 16) (.bin .neq (.v 15) (.c (.int .i64 2)))) <|
 .n 13 (.px (some 17) (.mv (.v 16))) <|
 .y 17 (.als 18 none 2) <|
 .y 17 (.pget (some 19) (some 18) 2 1 none) <|
 .y 17 (.px (some 20) (.bin .neq (.v 19) (.c (.int .i64 0)))) <|
 .n 13 (.px (some 21) (.pick (.v 17) (.v 20) (.c (.bool false)))) <|
 .x 22 (.pick (.v 13) (.c (.bool true)) (.v 21)) .done) K158_12) K158_10
@[simp] def W158_13 := C.w K158_13.eq_1
def K158_14:C:=.seq (.pl <| .e 5 0 <|
 .x 3 (.mv (.c (.bool false))) .done) (.ret)
@[simp] def W158_14 := C.w K158_14.eq_1
def K158_15:C:=.cond 5 (.v 15) K158_14 (.skip)
@[simp] def W158_15 := C.w K158_15.eq_1
def K158_16:Pl:=.n 7 (.px (some 14) (.bin .neq (.v 10) (.v 13))) <|
 .x 15 (.pick (.v 7) (.c (.bool true)) (.v 14)) .done
@[simp] def W158_16 := Pl.w K158_16.eq_1
def K158_17:C:=.seq (.seq (.pl <| .e 5 11 <|
 .m 5 1 <|
 .x 6 (.bin .lss (.v 5) (.c (.int .i64 1))) <|
 .m 7 6 <|
 .n 7 (.als 8 none 2) <|
 .n 7 (.pget (some 9) (some 8) 2 2 none) <|
 .n 7 (.px (some 10) (.lenV (.v 9))) <|
 .n 7 (.als 11 none 2) <|
 .n 7 (.pget (some 12) (some 11) 2 0 none) <|
 .st (.act (some (.v 7,false)) (.ex (some 13) (.call fn_spec_l5Arity [.v 12]))) K158_16) K158_15) K158_13
@[simp] def W158_17 := C.w K158_17.eq_1
def B_spec_l5Shape:C:=.seq (.pl <| .e 5 0 <|
 .o (.pnew 2 (.v 0) []) <|
 .x 3 (.mv (.c (.bool false))) .done) K158_17
@[simp] def WB_spec_l5Shape := C.w B_spec_l5Shape.eq_1
def R_spec_l5Shape:FIR:=⟨B_spec_l5Shape,5,[(3,none)]⟩
theorem IR_spec_l5Shape:cfun Tryz.prog H_spec_l5Shape Tryz.f158=some R_spec_l5Shape:=by kernel_rfl
theorem EN_spec_l5Shape:ENT Tryz.prog B_spec_l5Shape [(3,none)] 2 5 fn_spec_l5Shape:=fun hargs hw=>enter Tryz.func158 rfl IR_spec_l5Shape hargs hw
def H_spec_l5Subs:Hint:=⟨[(0,false),(1,false),(3,true),(4,false),(5,false)],[[1,3]]⟩
def K117_1:C:=.seq (.pl <| .e 5 1 <|
 .m 5 0 <|
 .m 3 5 .done) (.ret)
@[simp] def W117_1 := C.w K117_1.eq_1
def K117_2:Pl:=.m 0 9 .done
@[simp] def W117_2 := Pl.w K117_2.eq_1
def K117_3:Pl:=.o (.psl 8 [.int .i64 0,.int .i64 0,.slice none 0 0] [(0,3,.v 7)]) <|
 .c 9 (.app 40 3 [.int .i64 0,.int .i64 0,.slice none 0 0] (.o (.v 5)) (.p 1 8)) K117_2
@[simp] def W117_3 := Pl.w K117_3.eq_1
def K117_4:C:=.pl <| .e 5 5 <|
 .m 5 0 <|
 .o (.pget (some 6) none 2 0 (some 3)) <|
 .c 7 (.call fn_spec_l5Copy [.v 6]) K117_3
@[simp] def W117_4 := C.w K117_4.eq_1
def K117_5:C:=.cond 5 (.v 8) K117_4 (.skip)
@[simp] def W117_5 := C.w K117_5.eq_1
def K117_6:Pl:=.x 8 (.bin .lss (.v 7) (.c (.int .i64 0))) .done
@[simp] def W117_6 := Pl.w K117_6.eq_1
def K117_7:C:=.seq (.seq (.pl <| .e 5 4 <|
 .m 5 0 <|
 .o (.pget (some 6) none 2 0 (some 3)) <|
 .c 7 (.call fn_spec_l5Find [.v 5,.v 6]) K117_6) K117_5) K117_1
@[simp] def W117_7 := C.w K117_7.eq_1
def K117_8:C:=.pl <| .e 5 2 <|
 .m 5 4 <|
 .x 6 (.bin .add (.v 5) (.c (.int .i64 1))) <|
 .m 4 6 .done
@[simp] def W117_8 := C.w K117_8.eq_1
def K117_9:Pl:=.m 0 11 .done
@[simp] def W117_9 := Pl.w K117_9.eq_1
def K117_10:C:=.seq (.block 1 (.pl <| .e 5 7 <|
 .m 5 0 <|
 .a 6 2 <|
 .g 7 6 2 2 <|
 .m 8 4 <|
 .x 9 (.ia 3 (.v 7) (.v 8)) <|
 .o (.ld (some 10) (.v 9) (some 3)) <|
 .c 11 (.call fn_spec_l5Subs [.v 5,.v 10]) K117_9)) K117_8
@[simp] def W117_10 := C.w K117_10.eq_1
def K117_11:C:=.cond 5 (.v 9) (.skip) (.exit 0)
@[simp] def W117_11 := C.w K117_11.eq_1
def K117_12:C:=.seq (.seq (.pl <| .e 5 5 <|
 .m 5 4 <|
 .a 6 2 <|
 .g 7 6 2 2 <|
 .x 8 (.lenV (.v 7)) <|
 .x 9 (.bin .lss (.v 5) (.v 8)) .done) K117_11) K117_10
@[simp] def W117_12 := C.w K117_12.eq_1
def K117_13:C:=.block 0 (.loop 5 [1,3] K117_12)
@[simp] def W117_13 := C.w K117_13.eq_1
def K117_14:C:=.seq (.seq (.pl <| .e 5 0 <|
 .x 4 (.mv (.c (.int .i64 0))) .done) K117_13) K117_7
@[simp] def W117_14 := C.w K117_14.eq_1
def B_spec_l5Subs:C:=.seq (.pl <| .e 5 0 <|
 .o (.pnew 2 (.v 1) []) <|
 .x 3 (.mv (.c (.slice none 0 0))) .done) K117_14
@[simp] def WB_spec_l5Subs := C.w B_spec_l5Subs.eq_1
def R_spec_l5Subs:FIR:=⟨B_spec_l5Subs,5,[(3,none)]⟩
theorem IR_spec_l5Subs:cfun Tryz.prog H_spec_l5Subs Tryz.f117=some R_spec_l5Subs:=by kernel_rfl
theorem EN_spec_l5Subs:ENT Tryz.prog B_spec_l5Subs [(3,none)] 2 5 fn_spec_l5Subs:=fun hargs hw=>enter Tryz.func117 rfl IR_spec_l5Subs hargs hw
def H_spec_l5True:Hint:=⟨[(0,true)],[]⟩
def K165_1:C:=.seq (.pl <| .e 1 1 <|
 .x 1 (.build [.int .i64 0,.int .i64 0,.slice none 0 0] [(0,1,.c (.int .i64 1))]) <|
 .o (.pset none 0 0 3 (.v 1)) .done) (.ret)
@[simp] def W165_1 := C.w K165_1.eq_1
def B_spec_l5True:C:=.seq (.pl <| .e 1 0 <|
 .o (.pnew 0 (.c (.agg #[.int .i64 0,.int .i64 0,.slice none 0 0])) []) .done) K165_1
@[simp] def WB_spec_l5True := C.w B_spec_l5True.eq_1
def R_spec_l5True:FIR:=⟨B_spec_l5True,1,[(0,some (some 3))]⟩
theorem IR_spec_l5True:cfun Tryz.prog H_spec_l5True Tryz.f165=some R_spec_l5True:=by kernel_rfl
theorem EN_spec_l5True:ENT Tryz.prog B_spec_l5True [(0,some (some 3))] 0 1 fn_spec_l5True:=fun hargs hw=>enter Tryz.func165 rfl IR_spec_l5True hargs hw
def H_spec_l6Has:Hint:=⟨[(0,false),(1,false),(4,false)],[]⟩
def K120_1:C:=.seq (.pl <| .e 3 6 <|
 .m 3 0 <|
 .m 4 1 <|
 .x 5 (.conv .u64 (.v 4)) <|
 .x 6 (.bin .shr (.v 3) (.v 5)) <|
 .x 7 (.bin .and (.v 6) (.c (.int .i64 1))) <|
 .x 8 (.bin .eql (.v 7) (.c (.int .i64 1))) <|
 .m 2 8 .done) (.ret)
@[simp] def W120_1 := C.w K120_1.eq_1
def B_spec_l6Has:C:=.seq (.pl <| .e 3 0 <|
 .x 2 (.mv (.c (.bool false))) .done) K120_1
@[simp] def WB_spec_l6Has := C.w B_spec_l6Has.eq_1
def R_spec_l6Has:FIR:=⟨B_spec_l6Has,3,[(2,none)]⟩
theorem IR_spec_l6Has:cfun Tryz.prog H_spec_l6Has Tryz.f120=some R_spec_l6Has:=by kernel_rfl
theorem EN_spec_l6Has:ENT Tryz.prog B_spec_l6Has [(2,none)] 2 3 fn_spec_l6Has:=fun hargs hw=>enter Tryz.func120 rfl IR_spec_l6Has hargs hw
def H_spec_l7Basic:Hint:=⟨[(0,false),(1,true),(2,false)],[]⟩
def K118_1:C:=.seq (.pl <| .e 3 18 <|
 .a 3 1 <|
 .g 4 3 1 0 <|
 .x 5 (.bin .eql (.v 4) (.c (.int .i64 2))) <|
 .m 6 5 <|
 .n 6 (.als 7 none 1) <|
 .n 6 (.pget (some 8) (some 7) 1 0 none) <|
 .n 6 (.px (some 9) (.bin .eql (.v 8) (.c (.int .i64 6)))) <|
 .x 10 (.pick (.v 6) (.c (.bool true)) (.v 9)) <|
 .m 11 10 <|
 .n 11 (.als 12 none 1) <|
 .n 11 (.pget (some 13) (some 12) 1 0 none) <|
 .n 11 (.px (some 14) (.bin .eql (.v 13) (.c (.int .i64 7)))) <|
 .x 15 (.pick (.v 11) (.c (.bool true)) (.v 14)) <|
 .m 16 15 <|
 .n 16 (.als 17 none 1) <|
 .n 16 (.pget (some 18) (some 17) 1 0 none) <|
 .n 16 (.px (some 19) (.bin .eql (.v 18) (.c (.int .i64 8)))) <|
 .x 20 (.pick (.v 16) (.c (.bool true)) (.v 19)) <|
 .m 2 20 .done) (.ret)
@[simp] def W118_1 := C.w K118_1.eq_1
def B_spec_l7Basic:C:=.seq (.pl <| .e 3 0 <|
 .o (.pnew 1 (.v 0) []) <|
 .x 2 (.mv (.c (.bool false))) .done) K118_1
@[simp] def WB_spec_l7Basic := C.w B_spec_l7Basic.eq_1
def R_spec_l7Basic:FIR:=⟨B_spec_l7Basic,3,[(2,none)]⟩
theorem IR_spec_l7Basic:cfun Tryz.prog H_spec_l7Basic Tryz.f118=some R_spec_l7Basic:=by kernel_rfl
theorem EN_spec_l7Basic:ENT Tryz.prog B_spec_l7Basic [(2,none)] 1 3 fn_spec_l7Basic:=fun hargs hw=>enter Tryz.func118 rfl IR_spec_l7Basic hargs hw
end Go.Proofs.YtbanccfdojgocaaGreat

namespace Go.Proofs.YtbanccfdojgocaaGreat
open Go
def H_spec_l7Follows:Hint:=⟨[(0,false),(1,false),(2,false),(6,false),(7,false),(8,true),(9,false),(10,false),(26,false)],[[3,5,6,7,8]]⟩
def K64_1:C:=.seq (.pl <| .e 9 0 <|
 .x 3 (.mv (.c (.bool true))) .done) (.ret)
@[simp] def W64_1 := C.w K64_1.eq_1
def K64_2:C:=.pl <| .e 9 2 <|
 .m 9 4 <|
 .x 10 (.bin .add (.v 9) (.c (.int .i64 1))) <|
 .m 4 10 .done
@[simp] def W64_2 := C.w K64_2.eq_1
def K64_3:C:=.seq (.pl <| .e 9 0 <|
 .x 3 (.mv (.c (.bool false))) .done) (.ret)
@[simp] def W64_3 := C.w K64_3.eq_1
def K64_4:C:=.cond 9 (.v 11) K64_3 (.skip)
@[simp] def W64_4 := C.w K64_4.eq_1
def K64_5:C:=.seq (.pl <| .e 9 3 <|
 .m 9 7 <|
 .m 10 6 <|
 .x 11 (.eqb true (.v 9) (.v 10)) .done) K64_4
@[simp] def W64_5 := C.w K64_5.eq_1
def K64_6:Pl:=.m 7 15 .done
@[simp] def W64_6 := Pl.w K64_6.eq_1
def K64_7:C:=.pl <| .e 9 7 <|
 .m 9 0 <|
 .m 10 2 <|
 .a 11 5 <|
 .g 12 11 5 2 <|
 .x 13 (.ia 3 (.v 12) (.c (.int .i64 0))) <|
 .o (.ld (some 14) (.v 13) (some 3)) <|
 .c 15 (.call fn_spec_l7Value [.v 9,.v 10,.v 14]) K64_6
@[simp] def W64_7 := C.w K64_7.eq_1
def K64_8:Pl:=.n 16 (.px (some 28) (.pick (.v 24) (.v 27) (.c (.bool false)))) <|
 .x 29 (.pick (.v 16) (.c (.bool true)) (.v 28)) <|
 .m 7 29 .done
@[simp] def W64_8 := Pl.w K64_8.eq_1
def K64_9:Pl:=.n 16 (.px (some 24) (.mv (.v 23))) <|
 .y 24 (.px (some 25) (.mv (.v 2))) <|
 .y 24 (.px (some 26) (.mv (.v 4))) <|
 .st (.act (some (.v 24,true)) (.ex (some 27) (.call fn_spec_l6Has [.v 25,.v 26]))) K64_8
@[simp] def W64_9 := Pl.w K64_9.eq_1
def K64_10:Pl:=.m 16 15 <|
 .n 16 (.px (some 17) (.mv (.v 0))) <|
 .n 16 (.px (some 18) (.mv (.v 1))) <|
 .n 16 (.als 19 none 5) <|
 .n 16 (.pget (some 20) (some 19) 5 2 none) <|
 .n 16 (.px (some 21) (.ia 3 (.v 20) (.c (.int .i64 0)))) <|
 .n 16 (.ld (some 22) (.v 21) (some 3)) <|
 .st (.act (some (.v 16,false)) (.ex (some 23) (.call fn_spec_l7Value [.v 17,.v 18,.v 22]))) K64_9
@[simp] def W64_10 := Pl.w K64_10.eq_1
def K64_11:C:=.pl <| .e 9 21 <|
 .m 9 0 <|
 .m 10 1 <|
 .a 11 5 <|
 .g 12 11 5 2 <|
 .x 13 (.ia 3 (.v 12) (.c (.int .i64 1))) <|
 .o (.ld (some 14) (.v 13) (some 3)) <|
 .c 15 (.call fn_spec_l7Value [.v 9,.v 10,.v 14]) K64_10
@[simp] def W64_11 := C.w K64_11.eq_1
def K64_12:Pl:=.y 16 (.px (some 28) (.pick (.v 24) (.c (.bool true)) (.v 27))) <|
 .x 29 (.pick (.v 16) (.v 28) (.c (.bool false))) <|
 .m 7 29 .done
@[simp] def W64_12 := Pl.w K64_12.eq_1
def K64_13:Pl:=.y 16 (.px (some 24) (.mv (.v 23))) <|
 .n 24 (.px (some 25) (.mv (.v 2))) <|
 .n 24 (.px (some 26) (.mv (.v 4))) <|
 .st (.act (some (.v 24,false)) (.ex (some 27) (.call fn_spec_l6Has [.v 25,.v 26]))) K64_12
@[simp] def W64_13 := Pl.w K64_13.eq_1
def K64_14:Pl:=.m 16 15 <|
 .y 16 (.px (some 17) (.mv (.v 0))) <|
 .y 16 (.px (some 18) (.mv (.v 1))) <|
 .y 16 (.als 19 none 5) <|
 .y 16 (.pget (some 20) (some 19) 5 2 none) <|
 .y 16 (.px (some 21) (.ia 3 (.v 20) (.c (.int .i64 0)))) <|
 .y 16 (.ld (some 22) (.v 21) (some 3)) <|
 .st (.act (some (.v 16,true)) (.ex (some 23) (.call fn_spec_l7Value [.v 17,.v 18,.v 22]))) K64_13
@[simp] def W64_14 := Pl.w K64_14.eq_1
def K64_15:C:=.pl <| .e 9 21 <|
 .m 9 0 <|
 .m 10 1 <|
 .a 11 5 <|
 .g 12 11 5 2 <|
 .x 13 (.ia 3 (.v 12) (.c (.int .i64 1))) <|
 .o (.ld (some 14) (.v 13) (some 3)) <|
 .c 15 (.call fn_spec_l7Value [.v 9,.v 10,.v 14]) K64_14
@[simp] def W64_15 := C.w K64_15.eq_1
def K64_16:C:=.cond 9 (.v 10) K64_15 (.skip)
@[simp] def W64_16 := C.w K64_16.eq_1
def K64_17:C:=.seq (.pl <| .e 9 2 <|
 .x 9 (.bin .eql (.v 8) (.c (.int .i64 8))) <|
 .m 10 9 .done) K64_16
@[simp] def W64_17 := C.w K64_17.eq_1
def K64_18:C:=.cond 9 (.v 10) K64_11 K64_17
@[simp] def W64_18 := C.w K64_18.eq_1
def K64_19:C:=.seq (.pl <| .e 9 2 <|
 .x 9 (.bin .eql (.v 8) (.c (.int .i64 7))) <|
 .m 10 9 .done) K64_18
@[simp] def W64_19 := C.w K64_19.eq_1
def K64_20:C:=.cond 9 (.v 10) K64_7 K64_19
@[simp] def W64_20 := C.w K64_20.eq_1
def K64_21:C:=.block 2 (.seq (.pl <| .e 9 2 <|
 .x 9 (.bin .eql (.v 8) (.c (.int .i64 6))) <|
 .m 10 9 .done) K64_20)
@[simp] def W64_21 := C.w K64_21.eq_1
def K64_22:C:=.seq (.seq (.pl <| .e 9 1 <|
 .a 9 5 <|
 .g 8 9 5 0 .done) K64_21) K64_5
@[simp] def W64_22 := C.w K64_22.eq_1
def K64_23:C:=.seq (.pl <| .e 9 1 <|
 .m 9 6 <|
 .m 7 9 .done) K64_22
@[simp] def W64_23 := C.w K64_23.eq_1
def K64_24:Pl:=.m 6 11 .done
@[simp] def W64_24 := Pl.w K64_24.eq_1
def K64_25:C:=.seq (.pl <| .e 9 3 <|
 .m 9 1 <|
 .m 10 4 <|
 .c 11 (.call fn_spec_l6Has [.v 9,.v 10]) K64_24) K64_23
@[simp] def W64_25 := C.w K64_25.eq_1
def K64_26:C:=.seq (.block 1 (.seq (.pl <| .e 9 4 <|
 .m 9 0 <|
 .m 10 4 <|
 .x 11 (.ia 3 (.v 9) (.v 10)) <|
 .o (.ld (some 12) (.v 11) (some 3)) <|
 .o (.pnew 5 (.c (.agg #[.int .i64 0,.int .i64 0,.slice none 0 0])) []) <|
 .o (.pset none 5 0 3 (.v 12)) .done) K64_25)) K64_2
@[simp] def W64_26 := C.w K64_26.eq_1
def K64_27:C:=.cond 9 (.v 12) (.skip) (.exit 0)
@[simp] def W64_27 := C.w K64_27.eq_1
def K64_28:C:=.seq (.seq (.pl <| .e 9 4 <|
 .m 9 4 <|
 .m 10 0 <|
 .x 11 (.lenV (.v 10)) <|
 .x 12 (.bin .lss (.v 9) (.v 11)) .done) K64_27) K64_26
@[simp] def W64_28 := C.w K64_28.eq_1
def K64_29:C:=.block 0 (.loop 9 [3,5,6,7,8] K64_28)
@[simp] def W64_29 := C.w K64_29.eq_1
def K64_30:C:=.seq (.seq (.pl <| .e 9 0 <|
 .x 4 (.mv (.c (.int .i64 0))) .done) K64_29) K64_1
@[simp] def W64_30 := C.w K64_30.eq_1
def B_spec_l7Follows:C:=.seq (.pl <| .e 9 0 <|
 .x 3 (.mv (.c (.bool false))) .done) K64_30
@[simp] def WB_spec_l7Follows := C.w B_spec_l7Follows.eq_1
def R_spec_l7Follows:FIR:=⟨B_spec_l7Follows,9,[(3,none)]⟩
theorem IR_spec_l7Follows:cfun Tryz.prog H_spec_l7Follows Tryz.f64=some R_spec_l7Follows:=by kernel_rfl
theorem EN_spec_l7Follows:ENT Tryz.prog B_spec_l7Follows [(3,none)] 3 9 fn_spec_l7Follows:=fun hargs hw=>enter Tryz.func64 rfl IR_spec_l7Follows hargs hw
def H_spec_l7Fulfils:Hint:=⟨[(0,false),(1,false),(2,false),(6,false)],[]⟩
def K122_1:Pl:=.x 19 (.pick (.v 8) (.c (.bool true)) (.v 18)) <|
 .m 3 19 .done
@[simp] def W122_1 := Pl.w K122_1.eq_1
def K122_2:Pl:=.x 7 (.un .not (.v 6)) <|
 .m 8 7 <|
 .n 8 (.px (some 9) (.mv (.v 0))) <|
 .n 8 (.px (some 10) (.mv (.v 1))) <|
 .n 8 (.px (some 11) (.mv (.v 0))) <|
 .n 8 (.px (some 12) (.mv (.v 2))) <|
 .n 8 (.px (some 13) (.ia 3 (.v 11) (.v 12))) <|
 .n 8 (.px (some 14) (.fa 2 (.v 13))) <|
 .n 8 (.ld (some 15) (.v 14) none) <|
 .n 8 (.px (some 16) (.ia 3 (.v 15) (.c (.int .i64 1)))) <|
 .n 8 (.ld (some 17) (.v 16) (some 3)) <|
 .st (.act (some (.v 8,false)) (.ex (some 18) (.call fn_spec_l7Value [.v 9,.v 10,.v 17]))) K122_1
@[simp] def W122_2 := Pl.w K122_2.eq_1
def K122_3:C:=.seq (.pl <| .e 4 16 <|
 .m 4 1 <|
 .m 5 2 <|
 .c 6 (.call fn_spec_l6Has [.v 4,.v 5]) K122_2) (.ret)
@[simp] def W122_3 := C.w K122_3.eq_1
def B_spec_l7Fulfils:C:=.seq (.pl <| .e 4 0 <|
 .x 3 (.mv (.c (.bool false))) .done) K122_3
@[simp] def WB_spec_l7Fulfils := C.w B_spec_l7Fulfils.eq_1
def R_spec_l7Fulfils:FIR:=⟨B_spec_l7Fulfils,4,[(3,none)]⟩
theorem IR_spec_l7Fulfils:cfun Tryz.prog H_spec_l7Fulfils Tryz.f122=some R_spec_l7Fulfils:=by kernel_rfl
theorem EN_spec_l7Fulfils:ENT Tryz.prog B_spec_l7Fulfils [(3,none)] 3 4 fn_spec_l7Fulfils:=fun hargs hw=>enter Tryz.func122 rfl IR_spec_l7Fulfils hargs hw
def H_spec_l7Letter:Hint:=⟨[(0,false),(1,false),(4,false),(5,false),(6,false),(7,false),(8,false)],[[2,3]]⟩
def K63_1:C:=.seq (.pl <| .e 7 2 <|
 .m 7 4 <|
 .m 8 5 <|
 .m 2 7 <|
 .m 3 8 .done) (.ret)
@[simp] def W63_1 := C.w K63_1.eq_1
def K63_2:C:=.pl <| .e 7 2 <|
 .m 7 6 <|
 .x 8 (.bin .add (.v 7) (.c (.int .i64 1))) <|
 .m 6 8 .done
@[simp] def W63_2 := C.w K63_2.eq_1
def K63_3:C:=.pl <| .e 7 9 <|
 .m 7 5 <|
 .m 8 0 <|
 .m 9 6 <|
 .x 10 (.ia 3 (.v 8) (.v 9)) <|
 .x 11 (.fa 1 (.v 10)) <|
 .l 12 11 <|
 .x 13 (.conv .u64 (.v 12)) <|
 .x 14 (.bin .shl (.c (.int .i64 1)) (.v 13)) <|
 .x 15 (.bin .or (.v 7) (.v 14)) <|
 .m 5 15 .done
@[simp] def W63_3 := C.w K63_3.eq_1
def K63_4:C:=.cond 7 (.v 9) K63_3 (.skip)
@[simp] def W63_4 := C.w K63_4.eq_1
def K63_5:C:=.seq (.pl <| .e 7 3 <|
 .m 7 1 <|
 .m 8 6 <|
 .c 9 (.call fn_spec_l6Has [.v 7,.v 8]) .done) K63_4
@[simp] def W63_5 := C.w K63_5.eq_1
def K63_6:C:=.seq (.pl <| .e 7 9 <|
 .m 7 4 <|
 .m 8 0 <|
 .m 9 6 <|
 .x 10 (.ia 3 (.v 8) (.v 9)) <|
 .x 11 (.fa 1 (.v 10)) <|
 .l 12 11 <|
 .x 13 (.conv .u64 (.v 12)) <|
 .x 14 (.bin .shl (.c (.int .i64 1)) (.v 13)) <|
 .x 15 (.bin .or (.v 7) (.v 14)) <|
 .m 4 15 .done) K63_5
@[simp] def W63_6 := C.w K63_6.eq_1
def K63_7:C:=.cond 7 (.v 12) K63_6 (.skip)
@[simp] def W63_7 := C.w K63_7.eq_1
def K63_8:C:=.seq (.block 1 (.seq (.pl <| .e 7 6 <|
 .m 7 0 <|
 .m 8 6 <|
 .x 9 (.ia 3 (.v 7) (.v 8)) <|
 .x 10 (.fa 0 (.v 9)) <|
 .l 11 10 <|
 .x 12 (.bin .eql (.v 11) (.c (.int .i64 2))) .done) K63_7)) K63_2
@[simp] def W63_8 := C.w K63_8.eq_1
def K63_9:C:=.cond 7 (.v 10) (.skip) (.exit 0)
@[simp] def W63_9 := C.w K63_9.eq_1
def K63_10:C:=.seq (.seq (.pl <| .e 7 4 <|
 .m 7 6 <|
 .m 8 0 <|
 .x 9 (.lenV (.v 8)) <|
 .x 10 (.bin .lss (.v 7) (.v 9)) .done) K63_9) K63_8
@[simp] def W63_10 := C.w K63_10.eq_1
def K63_11:C:=.block 0 (.loop 7 [2,3] K63_10)
@[simp] def W63_11 := C.w K63_11.eq_1
def K63_12:C:=.seq (.seq (.pl <| .e 7 0 <|
 .x 6 (.mv (.c (.int .i64 0))) .done) K63_11) K63_1
@[simp] def W63_12 := C.w K63_12.eq_1
def K63_13:C:=.seq (.pl <| .e 7 0 <|
 .x 5 (.mv (.c (.int .i64 0))) .done) K63_12
@[simp] def W63_13 := C.w K63_13.eq_1
def K63_14:C:=.seq (.pl <| .e 7 0 <|
 .x 4 (.mv (.c (.int .i64 0))) .done) K63_13
@[simp] def W63_14 := C.w K63_14.eq_1
def B_spec_l7Letter:C:=.seq (.pl <| .e 7 0 <|
 .x 2 (.mv (.c (.int .i64 0))) <|
 .x 3 (.mv (.c (.int .i64 0))) .done) K63_14
@[simp] def WB_spec_l7Letter := C.w B_spec_l7Letter.eq_1
def R_spec_l7Letter:FIR:=⟨B_spec_l7Letter,7,[(2,none),(3,none)]⟩
theorem IR_spec_l7Letter:cfun Tryz.prog H_spec_l7Letter Tryz.f63=some R_spec_l7Letter:=by kernel_rfl
theorem EN_spec_l7Letter:ENT Tryz.prog B_spec_l7Letter [(2,none),(3,none)] 2 7 fn_spec_l7Letter:=fun hargs hw=>enter Tryz.func63 rfl IR_spec_l7Letter hargs hw
def H_spec_l7Pair:Hint:=⟨[(0,false),(1,false),(4,false),(5,false),(6,false)],[[2,3]]⟩
def K65_1:Pl:=.m 9 0 <|
 .x 10 (.lenV (.v 9)) <|
 .m 2 8 <|
 .m 3 10 .done
@[simp] def W65_1 := Pl.w K65_1.eq_1
def K65_2:C:=.seq (.pl <| .e 5 6 <|
 .m 5 0 <|
 .m 6 1 <|
 .o (.psl 7 [.slice none 0 0] [(0,1,.v 6)]) <|
 .c 8 (.app 24 1 [.slice none 0 0] (.o (.v 5)) (.p 1 7)) K65_1) (.ret)
@[simp] def W65_2 := C.w K65_2.eq_1
def K65_3:C:=.pl <| .e 5 2 <|
 .m 5 4 <|
 .x 6 (.bin .add (.v 5) (.c (.int .i64 1))) <|
 .m 4 6 .done
@[simp] def W65_3 := C.w K65_3.eq_1
def K65_4:C:=.seq (.pl <| .e 5 2 <|
 .m 5 0 <|
 .m 6 4 <|
 .m 2 5 <|
 .m 3 6 .done) (.ret)
@[simp] def W65_4 := C.w K65_4.eq_1
def K65_5:C:=.cond 5 (.v 10) K65_4 (.skip)
@[simp] def W65_5 := C.w K65_5.eq_1
def K65_6:C:=.seq (.block 1 (.seq (.pl <| .e 5 6 <|
 .m 5 0 <|
 .m 6 4 <|
 .x 7 (.ia 1 (.v 5) (.v 6)) <|
 .l 8 7 <|
 .m 9 1 <|
 .c 10 (.call fn_spec_l2Ints [.v 8,.v 9]) .done) K65_5)) K65_3
@[simp] def W65_6 := C.w K65_6.eq_1
def K65_7:C:=.cond 5 (.v 8) (.skip) (.exit 0)
@[simp] def W65_7 := C.w K65_7.eq_1
def K65_8:C:=.seq (.seq (.pl <| .e 5 4 <|
 .m 5 4 <|
 .m 6 0 <|
 .x 7 (.lenV (.v 6)) <|
 .x 8 (.bin .lss (.v 5) (.v 7)) .done) K65_7) K65_6
@[simp] def W65_8 := C.w K65_8.eq_1
def K65_9:C:=.block 0 (.loop 5 [2,3] K65_8)
@[simp] def W65_9 := C.w K65_9.eq_1
def K65_10:C:=.seq (.seq (.pl <| .e 5 0 <|
 .x 4 (.mv (.c (.int .i64 0))) .done) K65_9) K65_2
@[simp] def W65_10 := C.w K65_10.eq_1
def B_spec_l7Pair:C:=.seq (.pl <| .e 5 0 <|
 .x 2 (.mv (.c (.slice none 0 0))) <|
 .x 3 (.mv (.c (.int .i64 0))) .done) K65_10
@[simp] def WB_spec_l7Pair := C.w B_spec_l7Pair.eq_1
def R_spec_l7Pair:FIR:=⟨B_spec_l7Pair,5,[(2,none),(3,none)]⟩
theorem IR_spec_l7Pair:cfun Tryz.prog H_spec_l7Pair Tryz.f65=some R_spec_l7Pair:=by kernel_rfl
theorem EN_spec_l7Pair:ENT Tryz.prog B_spec_l7Pair [(2,none),(3,none)] 2 5 fn_spec_l7Pair:=fun hargs hw=>enter Tryz.func65 rfl IR_spec_l7Pair hargs hw
def H_spec_l7Phase:Hint:=⟨[(0,false),(1,false),(2,false),(3,false),(8,false),(9,false)],[]⟩
def K62_1:C:=.seq (.pl <| .e 6 1 <|
 .m 6 3 <|
 .m 4 6 <|
 .x 5 (.mv (.c (.bool false))) .done) (.ret)
@[simp] def W62_1 := C.w K62_1.eq_1
def K62_2:C:=.seq (.pl <| .e 6 7 <|
 .m 6 3 <|
 .x 7 (.bin .add (.v 6) (.c (.int .i64 1))) <|
 .m 8 1 <|
 .x 9 (.lenV (.v 8)) <|
 .x 10 (.bin .rem (.v 7) (.v 9)) <|
 .m 11 3 <|
 .x 12 (.bin .eql (.v 11) (.c (.int .i64 0))) <|
 .m 4 10 <|
 .m 5 12 .done) (.ret)
@[simp] def W62_2 := C.w K62_2.eq_1
def K62_3:C:=.cond 6 (.v 12) K62_2 (.skip)
@[simp] def W62_3 := C.w K62_3.eq_1
def K62_4:C:=.seq (.seq (.pl <| .e 6 7 <|
 .m 6 0 <|
 .m 7 2 <|
 .m 8 1 <|
 .m 9 3 <|
 .x 10 (.ia 1 (.v 8) (.v 9)) <|
 .l 11 10 <|
 .c 12 (.call fn_spec_l7Fulfils [.v 6,.v 7,.v 11]) .done) K62_3) K62_1
@[simp] def W62_4 := C.w K62_4.eq_1
def K62_5:C:=.seq (.pl <| .e 6 0 <|
 .x 4 (.mv (.c (.int .i64 0))) <|
 .x 5 (.mv (.c (.bool true))) .done) (.ret)
@[simp] def W62_5 := C.w K62_5.eq_1
def K62_6:C:=.cond 6 (.v 8) K62_5 (.skip)
@[simp] def W62_6 := C.w K62_6.eq_1
def K62_7:C:=.seq (.seq (.pl <| .e 6 3 <|
 .m 6 1 <|
 .x 7 (.lenV (.v 6)) <|
 .x 8 (.bin .eql (.v 7) (.c (.int .i64 0))) .done) K62_6) K62_4
@[simp] def W62_7 := C.w K62_7.eq_1
def B_spec_l7Phase:C:=.seq (.pl <| .e 6 0 <|
 .x 4 (.mv (.c (.int .i64 0))) <|
 .x 5 (.mv (.c (.bool false))) .done) K62_7
@[simp] def WB_spec_l7Phase := C.w B_spec_l7Phase.eq_1
def R_spec_l7Phase:FIR:=⟨B_spec_l7Phase,6,[(4,none),(5,none)]⟩
theorem IR_spec_l7Phase:cfun Tryz.prog H_spec_l7Phase Tryz.f62=some R_spec_l7Phase:=by kernel_rfl
theorem EN_spec_l7Phase:ENT Tryz.prog B_spec_l7Phase [(4,none),(5,none)] 4 6 fn_spec_l7Phase:=fun hargs hw=>enter Tryz.func62 rfl IR_spec_l7Phase hargs hw
def H_spec_l7Untils:Hint:=⟨[(0,false),(2,false),(3,false),(4,false)],[[1]]⟩
def K60_1:C:=.seq (.pl <| .e 4 1 <|
 .m 4 2 <|
 .m 1 4 .done) (.ret)
@[simp] def W60_1 := C.w K60_1.eq_1
def K60_2:C:=.pl <| .e 4 2 <|
 .m 4 3 <|
 .x 5 (.bin .add (.v 4) (.c (.int .i64 1))) <|
 .m 3 5 .done
@[simp] def W60_2 := C.w K60_2.eq_1
def K60_3:Pl:=.m 2 7 .done
@[simp] def W60_3 := Pl.w K60_3.eq_1
def K60_4:C:=.pl <| .e 4 4 <|
 .m 4 2 <|
 .m 5 3 <|
 .o (.psl 6 [.int .i64 0] [(0,1,.v 5)]) <|
 .c 7 (.app 8 1 [.int .i64 0] (.o (.v 4)) (.p 1 6)) K60_3
@[simp] def W60_4 := C.w K60_4.eq_1
def K60_5:C:=.cond 4 (.v 9) K60_4 (.skip)
@[simp] def W60_5 := C.w K60_5.eq_1
def K60_6:C:=.seq (.block 1 (.seq (.pl <| .e 4 6 <|
 .m 4 0 <|
 .m 5 3 <|
 .x 6 (.ia 3 (.v 4) (.v 5)) <|
 .x 7 (.fa 0 (.v 6)) <|
 .l 8 7 <|
 .x 9 (.bin .eql (.v 8) (.c (.int .i64 7))) .done) K60_5)) K60_2
@[simp] def W60_6 := C.w K60_6.eq_1
def K60_7:C:=.cond 4 (.v 7) (.skip) (.exit 0)
@[simp] def W60_7 := C.w K60_7.eq_1
def K60_8:C:=.seq (.seq (.pl <| .e 4 4 <|
 .m 4 3 <|
 .m 5 0 <|
 .x 6 (.lenV (.v 5)) <|
 .x 7 (.bin .lss (.v 4) (.v 6)) .done) K60_7) K60_6
@[simp] def W60_8 := C.w K60_8.eq_1
def K60_9:C:=.block 0 (.loop 4 [1] K60_8)
@[simp] def W60_9 := C.w K60_9.eq_1
def K60_10:C:=.seq (.seq (.pl <| .e 4 0 <|
 .x 3 (.mv (.c (.int .i64 0))) .done) K60_9) K60_1
@[simp] def W60_10 := C.w K60_10.eq_1
def K60_11:Pl:=.m 2 4 .done
@[simp] def W60_11 := Pl.w K60_11.eq_1
def K60_12:C:=.seq (.pl <| .e 4 1 <|
 .c 4 (.bls 1 0 [.int .i64 0] []) K60_11) K60_10
@[simp] def W60_12 := C.w K60_12.eq_1
def B_spec_l7Untils:C:=.seq (.pl <| .e 4 0 <|
 .x 1 (.mv (.c (.slice none 0 0))) .done) K60_12
@[simp] def WB_spec_l7Untils := C.w B_spec_l7Untils.eq_1
def R_spec_l7Untils:FIR:=⟨B_spec_l7Untils,4,[(1,none)]⟩
theorem IR_spec_l7Untils:cfun Tryz.prog H_spec_l7Untils Tryz.f60=some R_spec_l7Untils:=by kernel_rfl
theorem EN_spec_l7Untils:ENT Tryz.prog B_spec_l7Untils [(1,none)] 1 4 fn_spec_l7Untils:=fun hargs hw=>enter Tryz.func60 rfl IR_spec_l7Untils hargs hw
def H_spec_l7Value:Hint:=⟨[(0,false),(1,false),(2,false),(5,true),(6,false),(8,false)],[]⟩
def K61_1:Pl:=.m 4 10 .done
@[simp] def W61_1 := Pl.w K61_1.eq_1
def K61_2:Pl:=.c 10 (.call fn_spec_l6Has [.v 6,.v 9]) K61_1
@[simp] def W61_2 := Pl.w K61_2.eq_1
def K61_3:C:=.seq (.pl <| .e 6 5 <|
 .m 6 1 <|
 .m 7 0 <|
 .o (.pget (some 8) none 3 0 (some 3)) <|
 .c 9 (.call fn_spec_l5Find [.v 7,.v 8]) K61_2) (.ret)
@[simp] def W61_3 := C.w K61_3.eq_1
def K61_4:C:=.seq (.pl <| .e 6 0 <|
 .x 4 (.mv (.c (.bool true))) .done) (.ret)
@[simp] def W61_4 := C.w K61_4.eq_1
def K61_5:Pl:=.x 13 (.un .not (.v 12)) <|
 .m 4 13 .done
@[simp] def W61_5 := Pl.w K61_5.eq_1
def K61_6:C:=.seq (.pl <| .e 6 8 <|
 .m 6 0 <|
 .m 7 1 <|
 .a 8 3 <|
 .g 9 8 3 2 <|
 .x 10 (.ia 3 (.v 9) (.c (.int .i64 0))) <|
 .o (.ld (some 11) (.v 10) (some 3)) <|
 .c 12 (.call fn_spec_l7Value [.v 6,.v 7,.v 11]) K61_5) (.ret)
@[simp] def W61_6 := C.w K61_6.eq_1
def K61_7:Pl:=.x 21 (.pick (.v 13) (.v 20) (.c (.bool false))) <|
 .m 4 21 .done
@[simp] def W61_7 := Pl.w K61_7.eq_1
def K61_8:Pl:=.m 13 12 <|
 .y 13 (.px (some 14) (.mv (.v 0))) <|
 .y 13 (.px (some 15) (.mv (.v 1))) <|
 .y 13 (.als 16 none 3) <|
 .y 13 (.pget (some 17) (some 16) 3 2 none) <|
 .y 13 (.px (some 18) (.ia 3 (.v 17) (.c (.int .i64 1)))) <|
 .y 13 (.ld (some 19) (.v 18) (some 3)) <|
 .st (.act (some (.v 13,true)) (.ex (some 20) (.call fn_spec_l7Value [.v 14,.v 15,.v 19]))) K61_7
@[simp] def W61_8 := Pl.w K61_8.eq_1
def K61_9:C:=.seq (.pl <| .e 6 16 <|
 .m 6 0 <|
 .m 7 1 <|
 .a 8 3 <|
 .g 9 8 3 2 <|
 .x 10 (.ia 3 (.v 9) (.c (.int .i64 0))) <|
 .o (.ld (some 11) (.v 10) (some 3)) <|
 .c 12 (.call fn_spec_l7Value [.v 6,.v 7,.v 11]) K61_8) (.ret)
@[simp] def W61_9 := C.w K61_9.eq_1
def K61_10:Pl:=.x 21 (.pick (.v 13) (.c (.bool true)) (.v 20)) <|
 .m 4 21 .done
@[simp] def W61_10 := Pl.w K61_10.eq_1
def K61_11:Pl:=.m 13 12 <|
 .n 13 (.px (some 14) (.mv (.v 0))) <|
 .n 13 (.px (some 15) (.mv (.v 1))) <|
 .n 13 (.als 16 none 3) <|
 .n 13 (.pget (some 17) (some 16) 3 2 none) <|
 .n 13 (.px (some 18) (.ia 3 (.v 17) (.c (.int .i64 1)))) <|
 .n 13 (.ld (some 19) (.v 18) (some 3)) <|
 .st (.act (some (.v 13,false)) (.ex (some 20) (.call fn_spec_l7Value [.v 14,.v 15,.v 19]))) K61_10
@[simp] def W61_11 := Pl.w K61_11.eq_1
def K61_12:C:=.seq (.pl <| .e 6 16 <|
 .m 6 0 <|
 .m 7 1 <|
 .a 8 3 <|
 .g 9 8 3 2 <|
 .x 10 (.ia 3 (.v 9) (.c (.int .i64 0))) <|
 .o (.ld (some 11) (.v 10) (some 3)) <|
 .c 12 (.call fn_spec_l7Value [.v 6,.v 7,.v 11]) K61_11) (.ret)
@[simp] def W61_12 := C.w K61_12.eq_1
def K61_13:C:=.cond 6 (.v 7) K61_12 (.skip)
@[simp] def W61_13 := C.w K61_13.eq_1
def K61_14:C:=.seq (.pl <| .e 6 2 <|
 .x 6 (.bin .eql (.v 5) (.c (.int .i64 5))) <|
 .m 7 6 .done) K61_13
@[simp] def W61_14 := C.w K61_14.eq_1
def K61_15:C:=.cond 6 (.v 7) K61_9 K61_14
@[simp] def W61_15 := C.w K61_15.eq_1
def K61_16:C:=.seq (.pl <| .e 6 2 <|
 .x 6 (.bin .eql (.v 5) (.c (.int .i64 4))) <|
 .m 7 6 .done) K61_15
@[simp] def W61_16 := C.w K61_16.eq_1
def K61_17:C:=.cond 6 (.v 7) K61_6 K61_16
@[simp] def W61_17 := C.w K61_17.eq_1
def K61_18:C:=.seq (.pl <| .e 6 2 <|
 .x 6 (.bin .eql (.v 5) (.c (.int .i64 3))) <|
 .m 7 6 .done) K61_17
@[simp] def W61_18 := C.w K61_18.eq_1
def K61_19:C:=.cond 6 (.v 7) K61_4 K61_18
@[simp] def W61_19 := C.w K61_19.eq_1
def K61_20:C:=.block 0 (.seq (.pl <| .e 6 2 <|
 .x 6 (.bin .eql (.v 5) (.c (.int .i64 1))) <|
 .m 7 6 .done) K61_19)
@[simp] def W61_20 := C.w K61_20.eq_1
def K61_21:C:=.seq (.seq (.pl <| .e 6 1 <|
 .a 6 3 <|
 .g 5 6 3 0 .done) K61_20) K61_3
@[simp] def W61_21 := C.w K61_21.eq_1
def B_spec_l7Value:C:=.seq (.pl <| .e 6 0 <|
 .o (.pnew 3 (.v 2) []) <|
 .x 4 (.mv (.c (.bool false))) .done) K61_21
@[simp] def WB_spec_l7Value := C.w B_spec_l7Value.eq_1
def R_spec_l7Value:FIR:=⟨B_spec_l7Value,6,[(4,none)]⟩
theorem IR_spec_l7Value:cfun Tryz.prog H_spec_l7Value Tryz.f61=some R_spec_l7Value:=by kernel_rfl
theorem EN_spec_l7Value:ENT Tryz.prog B_spec_l7Value [(4,none)] 3 6 fn_spec_l7Value:=fun hargs hw=>enter Tryz.func61 rfl IR_spec_l7Value hargs hw
end Go.Proofs.YtbanccfdojgocaaGreat

namespace Go.Proofs.YtbanccfdojgocaaGreat
open Go
namespace Fm
def arity (k:Int):Int:=if k=1∨k=2 then 0 else if k=3∨k=6∨k=9∨k=10 then 1 else if k=4∨k=5∨k=7∨k=8 then 2 else -1
structure Nd (x:Exq):Prop where
 ar:(x.kids.length:Int)=arity x.kind
 lo:0≤x.val
 hi:x.val<3
 ze:x.kind≠2→x.val=0
def Shp:Nat→Exq→Prop
 | 0,_=>False
 | n+1,x=>Nd x∧∀y∈x.kids,Shp n y
noncomputable instance {n:Nat}{x:Exq}:Decidable (Shp n x):=Classical.propDecidable _
def Ok (x:Exq):Prop:=Shp 6 x∧x.nod≤12
noncomputable instance {x:Exq}:Decidable (Ok x):=Classical.propDecidable _
theorem Nd.kind {x:Exq}(h:Nd x):1≤x.kind∧x.kind≤10:=by
 have:=h.ar
 unfold arity at this
 split at this <;> (try split at this) <;> (try split at this) <;> omega
theorem arity_le {k:Int}:arity k≤2:=by
 unfold arity
 split <;> (try split) <;> (try split) <;> omega
theorem arity_ge {k:Int}:-1≤arity k:=by
 unfold arity
 split <;> (try split) <;> (try split) <;> omega
theorem Shp.nd {n:Nat}{x:Exq}(h:Shp n x):Nd x:=by
 cases n with
 | zero=>exact h.elim
 | succ n=>exact h.1
theorem Shp.kid {n:Nat}{x:Exq}(h:Shp (n+1) x) {i:Nat}(hi:i<x.kids.length):Shp n x.kids[i]:=h.2 _ (List.getElem_mem hi)
theorem Shp.le2 {n:Nat}{x:Exq}(h:Shp n x):x.kids.length≤2:=by
 have h1:=h.nd.ar
 have h2:=arity_le (k:=x.kind)
 omega
theorem Shp.two {n:Nat}{x:Exq}(h:Shp n x) (hk:x.kind=4∨x.kind=5∨x.kind=7∨x.kind=8):x.kids.length=2:=by
 have h1:=h.nd.ar
 unfold arity at h1
 split at h1 <;> (try split at h1) <;> (try split at h1) <;> omega
theorem Shp.one {n:Nat}{x:Exq}(h:Shp n x) (hk:x.kind=3∨x.kind=6∨x.kind=9∨x.kind=10):x.kids.length=1:=by
 have h1:=h.nd.ar
 unfold arity at h1
 split at h1 <;> (try split at h1) <;> (try split at h1) <;> omega
theorem Shp.none {n:Nat}{x:Exq}(h:Shp n x) (hk:x.kind=1∨x.kind=2):x.kids=[]:=by
 have h1:=h.nd.ar
 rw[arity,if_pos hk] at h1
 exact List.length_eq_zero_iff.1 (by omega)
theorem Shp.mono:∀{n:Nat}{x:Exq},Shp n x→Shp (n+1) x
 | 0,_,h=>h.elim
 | n+1,_,h=>⟨h.1,fun y hy=>(h.2 y hy).mono⟩
theorem Shp.bnd:∀{n:Nat}{x:Exq},Shp n x→x.nod<2 ^ n
 | 0,_,h=>h.elim
 | n+1,x,h=>by
  have h2:=h.le2
  rw[Exq.nod_eq]
  have h4:Exq.nods x.kids+x.kids.length≤x.kids.length*2 ^ n:=by
   have key:∀l:List Exq,(∀y∈l,y.nod<2 ^ n)→Exq.nods l+l.length≤l.length*2 ^ n:=by
    intro l
    induction l with
    | nil=>intro _; simp[Exq.nods]
    | cons y l ih=>
     intro hy
     have e1:=hy y (by simp)
     have e2:=ih fun z hz=>hy z (by simp[hz])
     simp only[Exq.nods,List.length_cons,Nat.add_mul]
     omega
   exact key x.kids fun y hy=>(h.2 y hy).bnd
  have h5:0<2 ^ n:=Nat.two_pow_pos n
  have h6:2 ^ (n+1)=2*2 ^ n:=by rw[Nat.pow_succ]; omega
  rw[h6]
  obtain h7 | h7 | h7:x.kids.length=0∨x.kids.length=1∨x.kids.length=2:=by omega
  all_goals (rw[h7] at h4; omega)
def tru:Exq:=.mk 1 0 []
def neg (x:Exq):Exq:=.mk 3 0 [x]
def dual (k:Int):Int:=if k=4 then 5 else if k=5 then 4 else if k=7 then 8 else 7
mutual
def push:Exq→Bool→Exq
 | .mk k v l,n=>if k=1∨k=2 then (if n then neg (.mk k v []) else .mk k v [])
  else if k=3 then (pushes l (!n)).getD 0 Exq.zero
  else if k=6 then .mk 6 0 [(pushes l n).getD 0 Exq.zero]
  else if k=9∨k=10 then (if decide (k=9) != n then .mk 7 0 [tru,(pushes l n).getD 0 Exq.zero] else .mk 8 0 [neg tru,(pushes l n).getD 0 Exq.zero])
  else .mk (if n then dual k else k) 0 [(pushes l n).getD 0 Exq.zero,(pushes l n).getD 1 Exq.zero]
def pushes:List Exq→Bool→List Exq
 | [],_=>[]
 | x::l,n=>push x n::pushes l n
end
theorem pushes_eq {n:Bool}:∀l,pushes l n=l.map fun x=>push x n
 | []=>rfl
 | x::l=>by simp only[pushes,List.map_cons,pushes_eq l]
def kp (x:Exq) (n:Bool) (j:Nat):Exq:=(x.kids.map fun y=>push y n).getD j Exq.zero
theorem kp_at {x:Exq}{n:Bool}{j:Nat}(hj:j<x.kids.length):kp x n j=push x.kids[j] n:=by simp[kp,hj]
theorem push_eq (x:Exq) (n:Bool):push x n=if x.kind=1∨x.kind=2 then (if n then neg (.mk x.kind x.val []) else .mk x.kind x.val [])
  else if x.kind=3 then kp x (!n) 0
  else if x.kind=6 then .mk 6 0 [kp x n 0]
  else if x.kind=9∨x.kind=10 then (if decide (x.kind=9) != n then .mk 7 0 [tru,kp x n 0] else .mk 8 0 [neg tru,kp x n 0])
  else .mk (if n then dual x.kind else x.kind) 0 [kp x n 0,kp x n 1]:=by
 cases x with
 | mk k v l=>simp only[push,pushes_eq]; rfl
noncomputable def nfR (x:Exq):Exq:=if Ok x∧Ok (push x false) then push x false else Exq.zero
noncomputable def fx (l:List Exq) (x:Exq):Int:=match l.findIdx? (fun y=>decide (y=x)) with | some i=>(i:Int) | .none=>-1
theorem fx_at {xs:List Exq}{st:Exq}{i:Nat}(hi:i<xs.length) (he:xs[i]=st) (hn:∀(j:Nat) (hj:j<xs.length),j<i→xs[j]≠st):fx xs st=i:=by
 have:xs.findIdx? (fun y=>decide (y=st))=some i:=by
  rw[List.findIdx?_eq_some_iff_getElem]
  exact⟨hi,by simpa using he,fun j hj=>by simpa using hn j (by omega) hj⟩
 rw[fx,this]
theorem fx_not {xs:List Exq}{st:Exq}(h:st∉xs):fx xs st = -1:=by
 have:xs.findIdx? (fun y=>decide (y=st))=.none:=by
  rw[List.findIdx?_eq_none_iff]
  intro y hy
  simp only[decide_eq_false_iff_not]
  rintro rfl
  exact h hy
 rw[fx,this]
theorem fx_mem {xs:List Exq}{st:Exq}(h:st∈xs):∃(i:Nat) (hi:i<xs.length),fx xs st=i∧xs[i]=st:=by
 obtain⟨i,hi⟩:∃i,xs.findIdx? (fun y=>decide (y=st))=some i:=by
  rcases hf:xs.findIdx? (fun y=>decide (y=st)) with _ | i
  ·rw[List.findIdx?_eq_none_iff] at hf
   have:=hf st h
   simp at this
  ·exact⟨i,rfl⟩
 have h2:=hi
 rw[List.findIdx?_eq_some_iff_getElem] at h2
 obtain⟨h3,h4,_⟩:=h2
 exact⟨i,h3,by rw[fx,hi],by simpa using h4⟩
theorem fx_neg {xs:List Exq}{st:Exq}:fx xs st<0↔st∉xs:=by
 constructor
 ·intro h hm
  obtain⟨i,_,e,_⟩:=fx_mem hm
  omega
 ·intro h
  rw[fx_not h]
  decide
noncomputable def ins (o:List Exq) (x:Exq):List Exq:=if x∈o then o else o++[x]
mutual
noncomputable def subs:Exq→List Exq→List Exq
 | .mk k v l,o=>ins (subsL l o) (.mk k v l)
noncomputable def subsL:List Exq→List Exq→List Exq
 | [],o=>o
 | x::l,o=>subsL l (subs x o)
end
theorem subsL_eq:∀(l:List Exq) (o:List Exq),subsL l o=l.foldl (fun o x=>subs x o) o
 | [],_=>rfl
 | x::l,o=>by rw[subsL,subsL_eq l,List.foldl_cons]
theorem subs_eq (x:Exq) (o:List Exq):subs x o=ins (x.kids.foldl (fun o x=>subs x o) o) x:=by
 cases x with
 | mk k v l=>rw[subs,subsL_eq]; rfl
theorem ins_len {o:List Exq}{x:Exq}:(ins o x).length≤o.length+1:=by unfold ins; split <;> simp
theorem subsL_len:∀(l:List Exq),(∀x∈l,∀o,(subs x o).length≤o.length+x.nod)→∀o,(l.foldl (fun o x=>subs x o) o).length≤o.length+Exq.nods l
 | [],_,o=>by simp[Exq.nods]
 | x::l,h,o=>by
  have h1:=h x (by simp) o
  have h2:=subsL_len l (fun y hy=>h y (by simp[hy])) (subs x o)
  simp only[List.foldl_cons,Exq.nods]
  omega
theorem subs_len:∀(x:Exq) (o:List Exq),(subs x o).length≤o.length+x.nod:=by
 have key:∀(n:Nat) (x:Exq),x.nod≤n→∀o,(subs x o).length≤o.length+x.nod:=by
  intro n
  induction n with
  | zero=>intro x h; rw[Exq.nod_eq] at h; omega
  | succ n ih=>
   intro x hx o
   rw[Exq.nod_eq] at hx ⊢
   rw[subs_eq]
   have h1:=subsL_len x.kids (fun y hy=>ih y (by
    obtain⟨i,hi,rfl⟩:=List.mem_iff_getElem.1 hy
    have e1:=Exq.nods_take hi
    have e2:=Exq.nods_le x.kids (i+1)
    omega)) o
   have h2:=ins_len (o:=x.kids.foldl (fun o x=>subs x o) o) (x:=x)
   omega
 exact fun x o=>key x.nod x (Nat.le_refl _) o
theorem subs_all {P:Exq→Prop}:∀(n:Nat) (x:Exq),(∀y,P y→∀z∈y.kids,P z)→x.nod≤n→P x→∀(o:List Exq),(∀y∈o,P y)→∀y∈subs x o,P y:=by
 intro n
 induction n with
 | zero=>intro x _ h; rw[Exq.nod_eq] at h; omega
 | succ n ih=>
  intro x hP hx hPx o ho
  rw[Exq.nod_eq] at hx
  rw[subs_eq]
  have hl:∀(l:List Exq),(∀z∈l,P z∧z.nod≤n)→∀(o:List Exq),(∀y∈o,P y)→∀y∈l.foldl (fun o x=>subs x o) o,P y:=by
   intro l
   induction l with
   | nil=>intro _ o ho; exact ho
   | cons z l ihl=>
    intro hz o ho
    rw[List.foldl_cons]
    exact ihl (fun w hw=>hz w (by simp[hw])) _ (ih z hP (hz z (by simp)).2 (hz z (by simp)).1 o ho)
  have h1:=hl x.kids (fun z hz=>⟨hP x hPx z hz,by
   obtain⟨i,hi,rfl⟩:=List.mem_iff_getElem.1 hz
   have e1:=Exq.nods_take hi
   have e2:=Exq.nods_le x.kids (i+1)
   omega⟩) o ho
  intro y hy
  unfold ins at hy
  split at hy
  ·exact h1 y hy
  ·rcases List.mem_append.1 hy with hy | hy
   ·exact h1 y hy
   ·simp at hy; subst hy; exact hPx
def bas (x:Exq):Bool:=decide (x.kind=2∨x.kind=6∨x.kind=7∨x.kind=8)
noncomputable def basics (x:Exq):List Exq:=(subs (push x false) []).filter bas
def bOk (x:Exq):Prop:=(Ok x∧Ok (push x false))∧(basics x).length≤5
noncomputable instance {x:Exq}:Decidable (bOk x):=Classical.propDecidable _
noncomputable def basR (x:Exq):List Exq:=if bOk x then basics x else []
theorem Shp.kids6 {x:Exq}(h:∃n,n≤6∧Shp n x):∀y∈x.kids,∃n,n≤6∧Shp n y:=by
 obtain⟨n,hn,hs⟩:=h
 cases n with
 | zero=>exact hs.elim
 | succ n=>exact fun y hy=>⟨n,by omega,hs.2 y hy⟩
theorem Shp.up {n m:Nat}{x:Exq}(h:Shp n x) (hm:n≤m):Shp m x:=by
 induction m with
 | zero=>have:n=0:=by omega
         subst this; exact h
 | succ m ih=>
  by_cases e:n=m+1
  ·subst e; exact h
  ·exact (ih (by omega)).mono
theorem basics_ok {x:Exq}(h:bOk x):∀y∈basics x,Shp 6 y∧bas y=true:=by
 intro y hy
 obtain⟨h1,h2⟩:=List.mem_filter.1 hy
 obtain⟨n,hn,h3⟩:=subs_all (P:=fun y=>∃n,n≤6∧Shp n y) _ (push x false) (fun y hy=>Shp.kids6 hy) (Nat.le_refl _) ⟨6,Nat.le_refl _,h.1.2.1⟩ [] (fun y hy=>by simp at hy) y h1
 exact⟨h3.up hn,h2⟩
end Fm
end Go.Proofs.YtbanccfdojgocaaGreat

namespace Go.Proofs.YtbanccfdojgocaaGreat
open Go
theorem c_l5Arity {h:Heap}{n:Int}:CallE Tryz.prog fn_spec_l5Arity [.int .i64 n] h (fun u h'=>h'=h∧u=.int .i64 (Fm.arity n)):=by
 refine CallE.gen fun k hk=>EN_spec_l5Arity rfl ?_
 by_cases c1:n=1
 ·simp -implicitDefEqProofs (disch:=first|omega|(simp only[LnZ];omega))[wrap64,c1]
  exact RetK.keep (hk _ _ ⟨rfl,by simp[Fm.arity,c1]⟩)
 by_cases c2:n=2
 ·simp -implicitDefEqProofs (disch:=first|omega|(simp only[LnZ];omega))[wrap64,c1,c2]
  exact RetK.keep (hk _ _ ⟨rfl,by simp[Fm.arity,c2]⟩)
 by_cases c3:n=3
 ·simp -implicitDefEqProofs (disch:=first|omega|(simp only[LnZ];omega))[wrap64,c1,c2,c3]
  exact RetK.keep (hk _ _ ⟨rfl,by simp[Fm.arity,c3]⟩)
 by_cases c6:n=6
 ·simp -implicitDefEqProofs (disch:=first|omega|(simp only[LnZ];omega))[wrap64,c1,c2,c3,c6]
  exact RetK.keep (hk _ _ ⟨rfl,by simp[Fm.arity,c6]⟩)
 by_cases c9:n=9
 ·simp -implicitDefEqProofs (disch:=first|omega|(simp only[LnZ];omega))[wrap64,c1,c2,c3,c6,c9]
  exact RetK.keep (hk _ _ ⟨rfl,by simp[Fm.arity,c9]⟩)
 by_cases c10:n=10
 ·simp -implicitDefEqProofs (disch:=first|omega|(simp only[LnZ];omega))[wrap64,c1,c2,c3,c6,c9,c10]
  exact RetK.keep (hk _ _ ⟨rfl,by simp[Fm.arity,c10]⟩)
 by_cases c4:n=4
 ·simp -implicitDefEqProofs (disch:=first|omega|(simp only[LnZ];omega))[wrap64,c1,c2,c3,c6,c9,c10,c4]
  exact RetK.keep (hk _ _ ⟨rfl,by simp[Fm.arity,c4]⟩)
 by_cases c5:n=5
 ·simp -implicitDefEqProofs (disch:=first|omega|(simp only[LnZ];omega))[wrap64,c1,c2,c3,c6,c9,c10,c4,c5]
  exact RetK.keep (hk _ _ ⟨rfl,by simp[Fm.arity,c5]⟩)
 by_cases c7:n=7
 ·simp -implicitDefEqProofs (disch:=first|omega|(simp only[LnZ];omega))[wrap64,c1,c2,c3,c6,c9,c10,c4,c5,c7]
  exact RetK.keep (hk _ _ ⟨rfl,by simp[Fm.arity,c7]⟩)
 by_cases c8:n=8
 ·simp -implicitDefEqProofs (disch:=first|omega|(simp only[LnZ];omega))[wrap64,c1,c2,c3,c6,c9,c10,c4,c5,c7,c8]
  exact RetK.keep (hk _ _ ⟨rfl,by simp[Fm.arity,c8]⟩)
 simp -implicitDefEqProofs (disch:=first|omega|(simp only[LnZ];omega))[wrap64,c1,c2,c3,c4,c5,c6,c7,c8,c9,c10]
 exact RetK.keep (hk _ _ ⟨rfl,by simp[Fm.arity,c1,c2,c3,c4,c5,c6,c7,c8,c9,c10]⟩)
theorem c_l5Shape:∀(n:Nat) {x:Exq}{h:Heap}{v:Value}{dv:Int},dv=n→n≤6→Rep h v x→CallE Tryz.prog fn_spec_l5Shape [v,.int .i64 dv] h (fun u h'=>h'=h∧u=.bool (decide (Fm.Shp n x))):=by
 intro n
 induction n with
 | zero=>
  intro x h v dv hd _ R
  have hd:dv=0:=hd
  obtain⟨w,rfl,k1,k2,R1⟩:=Rep_Exq.1 R
  refine CallE.gen fun k hk=>EN_spec_l5Shape rfl ?_
  simp -implicitDefEqProofs (disch:=first|omega|(simp only[LnZ];omega))[wrap64,hd]
  exact RetK.keep (hk _ _ ⟨rfl,by rw[decide_eq_false (fun hh:Fm.Shp 0 x=>hh)]⟩)
 | succ n ih=>
  intro x h v dv hd hd6 R
  obtain⟨w,rfl,k1,k2,R1⟩:=Rep_Exq.1 R
  have hL:=R1.lt
  obtain⟨ln,hln⟩:∃ln:Int,ln=x.kids.length:=⟨_,rfl⟩
  have hlen:=R1.len
  rw[← hln] at hlen
  refine CallE.gen fun k hk=>EN_spec_l5Shape rfl ?_
  have hno:¬Fm.Shp (n+1) x→k (.bool false) h:=fun hh=>hk _ _ ⟨rfl,by rw[decide_eq_false hh]⟩
  simp -implicitDefEqProofs (disch:=first|omega|(simp only[LnZ];omega))[wrap64,hlen,show ¬dv<1 by omega]
  refine c_l5Arity.go ?_
  rintro _ h ⟨rfl,rfl⟩
  by_cases q1:ln=Fm.arity x.kind
  case neg=>simp -implicitDefEqProofs (disch:=first|omega|(simp only[LnZ];omega))[wrap64,q1]; exact RetK.keep (hno fun hh=>q1 (by rw[hln]; exact hh.1.ar))
  by_cases q2:x.val<0
  ·simp -implicitDefEqProofs (disch:=first|omega|(simp only[LnZ];omega))[wrap64,q1,q2]; exact RetK.keep (hno fun hh=>by have:=hh.1.lo; omega)
  by_cases q3:3≤x.val
  ·simp -implicitDefEqProofs (disch:=first|omega|(simp only[LnZ];omega))[wrap64,q1,q2,q3]; exact RetK.keep (hno fun hh=>by have:=hh.1.hi; omega)
  have hz:(x.kind=2)∨(x.kind≠2∧x.val≠0)∨(x.kind≠2∧x.val=0):=by omega
  rcases hz with c1 | ⟨c1,c2⟩ | ⟨c1,c2⟩
  case inr.inl=>simp -implicitDefEqProofs (disch:=first|omega|(simp only[LnZ];omega))[wrap64,q1,q2,q3,c1,c2]; exact RetK.keep (hno fun hh=>c2 (hh.1.ze c1))
  ·simp -implicitDefEqProofs (disch:=first|omega|(simp only[LnZ];omega))[wrap64,q1,q2,q3,c1]
   refine wp_count x.kids.length (fun i e h'=>h'=h∧(∃kd vl:Int,kd=x.kind∧vl=x.val∧e=[none,some (.int .i64 dv),some (.agg #[.int .i64 kd,.int .i64 vl,w]),none,some (.int .i64 i)])∧∀y∈x.kids.take i,Fm.Shp n y) ⟨rfl,⟨_,_,rfl,rfl,by simp[c1]⟩,by simp⟩ ?_
   rintro J i _ _ hJ hi ⟨rfl,⟨kd,vl,hkd,hvl,rfl⟩,hall⟩
   simp -implicitDefEqProofs (disch:=first|omega|(simp only[LnZ];omega))[wrap64,R1.len]
   refine IteW.mk (fun hlt=>?_) (fun hge=>?_)
   ·have hlx:i<x.kids.length:=by omega
    obtain⟨u,hu,Ru⟩:=R1.ld hlx
    change hload _ (some (elp 3 w i)) (some 3)=some u at hu
    simp -implicitDefEqProofs (disch:=first|omega|(simp only[LnZ];omega))[wrap64,R1.X (n:=3) rfl,hu]
    refine (ih (dv:=dv-1) (by omega) (by omega) Ru).go ?_
    rintro _ _ ⟨rfl,rfl⟩
    by_cases q4:Fm.Shp n x.kids[i]
    case neg=>simp -implicitDefEqProofs (disch:=first|omega|(simp only[LnZ];omega))[wrap64,q4]; exact RetK.keep (hno fun hh=>q4 (hh.kid hlx))
    simp -implicitDefEqProofs (disch:=first|omega|(simp only[LnZ];omega))[wrap64,q4]
    refine hJ _ _ hlx ⟨rfl,⟨kd,vl,hkd,hvl,by simp⟩,fun y hy=>?_⟩
    rw[List.take_add_one,List.getElem?_eq_getElem hlx] at hy
    rcases List.mem_append.1 hy with hy | hy
    ·exact hall y hy
    ·simp at hy; subst hy; exact q4
   ·simp -implicitDefEqProofs (disch:=first|omega|(simp only[LnZ];omega))[wrap64]
    rw[List.take_of_length_le (by omega)] at hall
    refine RetK.keep (hk _ _ ⟨rfl,?_⟩)
    rw[decide_eq_true (show Fm.Shp (n+1) x from ⟨⟨by omega,by omega,by omega,by omega⟩,hall⟩)]
  ·simp -implicitDefEqProofs (disch:=first|omega|(simp only[LnZ];omega))[wrap64,q1,q2,q3,c1,c2]
   refine wp_count x.kids.length (fun i e h'=>h'=h∧(∃kd vl:Int,kd=x.kind∧vl=x.val∧e=[none,some (.int .i64 dv),some (.agg #[.int .i64 kd,.int .i64 vl,w]),none,some (.int .i64 i)])∧∀y∈x.kids.take i,Fm.Shp n y) ⟨rfl,⟨_,_,rfl,rfl,by simp[c1,c2]⟩,by simp⟩ ?_
   rintro J i _ _ hJ hi ⟨rfl,⟨kd,vl,hkd,hvl,rfl⟩,hall⟩
   simp -implicitDefEqProofs (disch:=first|omega|(simp only[LnZ];omega))[wrap64,R1.len]
   refine IteW.mk (fun hlt=>?_) (fun hge=>?_)
   ·have hlx:i<x.kids.length:=by omega
    obtain⟨u,hu,Ru⟩:=R1.ld hlx
    change hload _ (some (elp 3 w i)) (some 3)=some u at hu
    simp -implicitDefEqProofs (disch:=first|omega|(simp only[LnZ];omega))[wrap64,R1.X (n:=3) rfl,hu]
    refine (ih (dv:=dv-1) (by omega) (by omega) Ru).go ?_
    rintro _ _ ⟨rfl,rfl⟩
    by_cases q4:Fm.Shp n x.kids[i]
    case neg=>simp -implicitDefEqProofs (disch:=first|omega|(simp only[LnZ];omega))[wrap64,q4]; exact RetK.keep (hno fun hh=>q4 (hh.kid hlx))
    simp -implicitDefEqProofs (disch:=first|omega|(simp only[LnZ];omega))[wrap64,q4]
    refine hJ _ _ hlx ⟨rfl,⟨kd,vl,hkd,hvl,by simp⟩,fun y hy=>?_⟩
    rw[List.take_add_one,List.getElem?_eq_getElem hlx] at hy
    rcases List.mem_append.1 hy with hy | hy
    ·exact hall y hy
    ·simp at hy; subst hy; exact q4
   ·simp -implicitDefEqProofs (disch:=first|omega|(simp only[LnZ];omega))[wrap64]
    rw[List.take_of_length_le (by omega)] at hall
    refine RetK.keep (hk _ _ ⟨rfl,?_⟩)
    rw[decide_eq_true (show Fm.Shp (n+1) x from ⟨⟨by omega,by omega,by omega,by omega⟩,hall⟩)]
theorem c_l5Count:∀(n:Nat) {x:Exq}{h:Heap}{v:Value}{dv:Int},dv=n→n≤6→Fm.Shp n x→Rep h v x→CallE Tryz.prog fn_spec_l5Count [v,.int .i64 dv] h (fun u h'=>h'=h∧u=.int .i64 x.nod):=by
 intro n
 induction n with
 | zero=>intro x h v dv hd _ hs; exact hs.elim
 | succ n ih=>
  intro x h v dv hd hd6 hs R
  obtain⟨w,rfl,k1,k2,R1⟩:=Rep_Exq.1 R
  have hL:=R1.lt
  have hbnd:=hs.bnd
  have hpow:2 ^ (n+1)≤2 ^ 6:=Nat.pow_le_pow_right (by decide) hd6
  have hnod:=x.nod_eq
  refine CallE.gen fun k hk=>EN_spec_l5Count rfl ?_
  simp -implicitDefEqProofs (disch:=first|omega|(simp only[LnZ];omega))[wrap64]
  refine wp_count x.kids.length (fun i e h'=>h'=h∧e=[none,some (.int .i64 dv),some (.agg #[.int .i64 x.kind,.int .i64 x.val,w]),none,some (.int .i64 ((1+Exq.nods (x.kids.take i):Nat):Int)),some (.int .i64 i)]) ⟨rfl,by simp[Exq.nods]⟩ ?_
  rintro J i _ _ hJ hi ⟨rfl,rfl⟩
  by_cases hlt:i<x.kids.length
  ·obtain⟨u,hu,Ru⟩:=R1.ld hlt
   change hload _ (some (elp 3 w i)) (some 3)=some u at hu
   have hn1:=Exq.nods_take hlt
   have hn2:=Exq.nods_le x.kids (i+1)
   simp -implicitDefEqProofs (disch:=first|omega|(simp only[LnZ];omega))[wrap64,hlt,R1.len,R1.X (n:=3) rfl,hu,show 0<dv by omega]
   refine (ih (dv:=dv-1) (by omega) (by omega) (hs.kid hlt) Ru).go ?_
   rintro _ _ ⟨rfl,rfl⟩
   simp -implicitDefEqProofs (disch:=first|omega|(simp only[LnZ];omega))[wrap64]
   refine hJ _ _ hlt ⟨rfl,?_⟩
   simp[hn1]; omega
  ·simp -implicitDefEqProofs (disch:=first|omega|(simp only[LnZ];omega))[wrap64,hlt,R1.len]
   rw[List.take_of_length_le (by omega)]
   refine RetK.keep (hk _ _ ⟨rfl,?_⟩)
   rw[hnod]; push_cast; rfl
theorem c_spec_FormulaValid {h:Heap}{v:Value}{x:Exq}(R:Rep h v x):CallE Tryz.prog fn_spec_FormulaValid [v] h (fun u h'=>h'=h∧u=.bool (decide (Fm.Ok x))):=by
 have F:=R.aExq
 refine CallE.gen fun k hk=>EN_spec_FormulaValid rfl ?_
 simp -implicitDefEqProofs (disch:=first|omega|(simp only[LnZ];omega))[wrap64,F]
 refine (c_l5Shape 6 (dv:=6) rfl (by omega) R).go ?_
 rintro _ _ ⟨rfl,rfl⟩
 by_cases q1:Fm.Shp 6 x
 case neg=>simp -implicitDefEqProofs (disch:=first|omega|(simp only[LnZ];omega))[wrap64,q1]; exact RetK.keep (hk _ _ ⟨rfl,by rw[decide_eq_false (fun hh:Fm.Ok x=>q1 hh.1)]⟩)
 simp -implicitDefEqProofs (disch:=first|omega|(simp only[LnZ];omega))[wrap64,q1,F]
 refine (c_l5Count 6 (dv:=6) rfl (by omega) q1 R).go ?_
 rintro _ _ ⟨rfl,rfl⟩
 simp -implicitDefEqProofs (disch:=first|omega|(simp only[LnZ];omega))[wrap64]
 refine RetK.keep (hk _ _ ⟨rfl,?_⟩)
 congr 1
 rw[Bool.eq_iff_iff]
 simp[Fm.Ok,q1]
 omega
end Go.Proofs.YtbanccfdojgocaaGreat

namespace Go.Proofs.YtbanccfdojgocaaGreat
open Go
theorem c_spec_FormulaSame:∀(x:Exq) {h:Heap}{a b:Value}{y:Exq},Rep h a x→Rep h b y→CallE Tryz.prog fn_spec_FormulaSame [a,b] h (fun u h'=>h'=h∧u=.bool (decide (x=y))):=by
 refine Exq.ind fun x ih h a b y Ra Rb=>?_
 obtain⟨w,rfl,k1,k2,R1⟩:=Rep_Exq.1 Ra
 obtain⟨w2,rfl,k3,k4,R2⟩:=Rep_Exq.1 Rb
 have hL:=R1.lt
 refine CallE.gen fun k hk=>EN_spec_FormulaSame rfl ?_
 by_cases h1:x.kind=y.kind
 case neg=>
  simp -implicitDefEqProofs (disch:=first|omega|(simp only[LnZ];omega))[wrap64,h1]
  exact RetK.keep (hk _ _ ⟨rfl,by simp[Exq.ext_iff',h1]⟩)
 by_cases h2:x.val=y.val
 case neg=>
  simp -implicitDefEqProofs (disch:=first|omega|(simp only[LnZ];omega))[wrap64,h1,h2]
  exact RetK.keep (hk _ _ ⟨rfl,by simp[Exq.ext_iff',h2]⟩)
 by_cases h3:(x.kids.length:Int)=y.kids.length
 case neg=>
  simp -implicitDefEqProofs (disch:=first|omega|(simp only[LnZ];omega))[wrap64,h1,h2,R1.len,R2.len,h3]
  exact RetK.keep (hk _ _ ⟨rfl,by rw[eq_comm,Value.bool.injEq,decide_eq_false_iff_not]; intro e; rw[e] at h3; exact h3 rfl⟩)
 simp -implicitDefEqProofs (disch:=first|omega|(simp only[LnZ];omega))[wrap64,h1,h2,R1.len,R2.len,h3]
 refine wp_count x.kids.length (fun i e h'=>h'=h∧e=[none,none,some (.agg #[.int .i64 y.kind,.int .i64 y.val,w]),some (.agg #[.int .i64 y.kind,.int .i64 y.val,w2]),none,some (.int .i64 i)]∧x.kids.take i=y.kids.take i) ⟨rfl,by simp[h1,h2],rfl⟩ ?_
 rintro J i _ _ hJ hi ⟨rfl,rfl,hq⟩
 simp -implicitDefEqProofs (disch:=first|omega|(simp only[LnZ];omega))[wrap64,R1.len]
 refine IteW.mk (fun hlt=>?_) (fun hge=>?_)
 ·have hlx:i<x.kids.length:=by omega
  have hly:i<y.kids.length:=by omega
  obtain⟨u,hu,Ru⟩:=R1.ld hlx
  obtain⟨t,ht,Rt⟩:=R2.ld hly
  change hload _ (some (elp 3 w i)) (some 3)=some u at hu
  change hload _ (some (elp 3 w2 i)) (some 3)=some t at ht
  simp -implicitDefEqProofs (disch:=first|omega|(simp only[LnZ];omega))[wrap64,R1.X (n:=3) rfl,R2.X (n:=3) rfl,hu,ht,Ru.aExq,Rt.aExq]
  refine (ih _ (List.getElem_mem hlx) Ru Rt).go ?_
  rintro _ _ ⟨rfl,rfl⟩
  by_cases he:x.kids[i]=y.kids[i]
  ·simp -implicitDefEqProofs (disch:=first|omega|(simp only[LnZ];omega))[wrap64,he]
   exact hJ _ _ hlx ⟨rfl,by simp,take_step hq hlx hly he⟩
  ·simp -implicitDefEqProofs (disch:=first|omega|(simp only[LnZ];omega))[wrap64,he]
   exact RetK.keep (hk _ _ ⟨rfl,by rw[eq_comm,Value.bool.injEq,decide_eq_false_iff_not]; intro e; subst e; exact he rfl⟩)
 ·simp -implicitDefEqProofs (disch:=first|omega|(simp only[LnZ];omega))[wrap64]
  rw[List.take_of_length_le (by omega),List.take_of_length_le (by omega)] at hq
  exact RetK.keep (hk _ _ ⟨rfl,by simp[Exq.ext_iff',h1,h2,hq]⟩)
theorem c_l5Find {h:Heap}{v w:Value}{xs:List Exq}{x:Exq}(R:Rep h v xs) (Rx:Rep h w x):CallE Tryz.prog fn_spec_l5Find [v,w] h (fun u h'=>h'=h∧u=.int .i64 (Fm.fx xs x)):=by
 have hL:=R.lt
 have FX:=Rx.aExq
 refine CallE.gen fun k hk=>EN_spec_l5Find rfl ?_
 simp -implicitDefEqProofs (disch:=first|omega|(simp only[LnZ];omega))[wrap64,FX]
 refine wp_count xs.length (fun i e h'=>e=[some v,none,some w,none,some (.int .i64 i)]∧h'=h∧∀(j:Nat) (hj:j<xs.length),j<i→xs[j]≠x) ⟨by simp,rfl,fun j _ hj=>absurd hj (Nat.not_lt_zero j)⟩ ?_
 rintro J i _ h hJ hi ⟨rfl,rfl,hn⟩
 simp -implicitDefEqProofs (disch:=first|omega|(simp only[LnZ];omega))[wrap64,R.len]
 refine IteW.mk (fun hlt=>?_) (fun hge=>?_)
 ·have hlx:i<xs.length:=by omega
  obtain⟨u,hu,Ru⟩:=R.ld hlx
  change hload _ (some (elp 3 v i)) (some 3)=some u at hu
  simp -implicitDefEqProofs (disch:=first|omega|(simp only[LnZ];omega))[wrap64,R.X (n:=3) rfl,hu,FX,Ru.aExq]
  refine (c_spec_FormulaSame _ Ru Rx).go ?_
  rintro _ h ⟨rfl,rfl⟩
  by_cases e:xs[i]=x
  ·simp -implicitDefEqProofs (disch:=first|omega|(simp only[LnZ];omega))[wrap64,e]
   exact RetK.keep (hk _ _ ⟨rfl,by rw[Fm.fx_at hlx e hn]⟩)
  ·simp -implicitDefEqProofs (disch:=first|omega|(simp only[LnZ];omega))[wrap64,e]
   refine hJ _ _ hlx ⟨by simp,rfl,fun j hj hji=>?_⟩
   by_cases hji2:j=i
   ·subst hji2; exact e
   ·exact hn j hj (by omega)
 ·simp -implicitDefEqProofs (disch:=first|omega|(simp only[LnZ];omega))[wrap64]
  refine RetK.keep (hk _ _ ⟨rfl,?_⟩)
  rw[Fm.fx_not]
  intro hm
  obtain⟨j,hj,h1⟩:=List.mem_iff_getElem.1 hm
  exact hn j hj (by omega) h1
theorem nod_kid {x:Exq}{i:Nat}(hi:i<x.kids.length):x.kids[i].nod+1≤x.nod:=by
 have e1:=Exq.nods_take hi
 have e2:=Exq.nods_le x.kids (i+1)
 rw[Exq.nod_eq x]
 omega
theorem nods_len:∀l:List Exq,l.length≤Exq.nods l
 | []=>by simp
 | x::l=>by
  have:=nods_len l
  have:=x.nod_eq
  simp only[List.length_cons,Exq.nods]
  omega
theorem c_l5Copy:∀(x:Exq) {h:Heap}{v:Value},x.nod≤1048576→Rep h v x→CallE Tryz.prog fn_spec_l5Copy [v] h (fun u h'=>HS h [ow u x] h'):=by
 refine Exq.ind fun x ih h v hs R=>?_
 obtain⟨w,rfl,k1,k2,R1⟩:=Rep_Exq.1 R
 have hL:=R1.lt
 have hkl:=nods_len x.kids
 have hne:=x.nod_eq
 refine CallE.gen fun k hk=>EN_spec_l5Copy rfl ?_
 simp -implicitDefEqProofs (disch:=first|omega|(simp only[LnZ];omega))[wrap64,setC]
 refine wp_count x.kids.length (fun i e h'=>∃o:Value,e=[none,some (.agg #[.int .i64 x.kind,.int .i64 x.val,w]),some (.agg #[.int .i64 0,.int .i64 0,.slice none 0 0]),some (.agg #[.int .i64 x.kind,.int .i64 x.val,o]),some (.int .i64 i)]∧HS h [ow o (x.kids.take i)] h') ⟨.slice none 0 0,by simp,by simpa using HS.init.nil_ow (α:=Exq)⟩ ?_
 rintro J i _ h2 hJ hi ⟨o,rfl,H⟩
 simp -implicitDefEqProofs (disch:=first|omega|(simp only[LnZ];omega))[wrap64,R1.len]
 refine IteW.mk (fun hlt=>?_) (fun hge=>?_)
 ·have hlx:i<x.kids.length:=by omega
  have hnk:=nod_kid hlx
  obtain⟨u,hu,Ru⟩:=R1.ld hlx
  have hu2:=hload_le H.base hu
  change hload _ (some (elp 3 w i)) (some 3)=some u at hu2
  simp -implicitDefEqProofs (disch:=first|omega|(simp only[LnZ];omega))[wrap64,R1.X (n:=3) rfl,hu2]
  refine (ih _ (List.getElem_mem hlx) (by omega) (Ru.on H)).go ?_
  intro y h3 G
  have H:=G.app H
  have FG:=G.rep.aExq
  obtain⟨y1,rfl,_,_,_⟩:=G.unExq
  simp -implicitDefEqProofs (disch:=first|omega|(simp only[LnZ];omega))[wrap64,FG,setC]
  refine HS.appO (bytes:=40) H rfl rfl rfl rfl rfl (by simp; omega) (by simp; omega) fun o' h4 H=>?_
  simp -implicitDefEqProofs (disch:=first|omega|(simp only[LnZ];omega))[wrap64,H.rep.cells,H.rep.one,setC]
  refine hJ _ _ hlx ⟨o',by simp,?_⟩
  rw[List.take_add_one,List.getElem?_eq_getElem hlx]
  exact H
 ·simp -implicitDefEqProofs (disch:=first|omega|(simp only[LnZ];omega))[wrap64,H.rep.one,setC]
  rw[List.take_of_length_le (by omega)] at H
  exact RetK.keep (hk _ _ (H.mkExq k1 k2))
theorem c_l5Subs:∀(x:Exq) {g h:Heap}{Γ:List HP}{v o:Value}{out:List Exq},out.length+x.nod≤1048576→Rep g v x→HS g (ow o out::Γ) h →
  CallE Tryz.prog fn_spec_l5Subs [o,v] h (fun u h'=>HS g (ow u (Fm.subs x out)::Γ) h'):=by
 refine Exq.ind fun x ih g h Γ v o out hs R H=>?_
 have R0:=R
 obtain⟨w,rfl,k1,k2,R1⟩:=Rep_Exq.1 R
 have hL:=R1.lt
 have hkl:=nods_len x.kids
 have hne:=x.nod_eq
 have hse:=Fm.subs_eq x out
 refine CallE.gen fun k hk=>EN_spec_l5Subs rfl ?_
 simp -implicitDefEqProofs (disch:=first|omega|(simp only[LnZ];omega))[wrap64]
 refine wp_count x.kids.length (fun i e h'=>∃o:Value,e=[some o,none,some (.agg #[.int .i64 x.kind,.int .i64 x.val,w]),none,some (.int .i64 i)]∧HS g (ow o ((x.kids.take i).foldl (fun o x=>Fm.subs x o) out)::Γ) h') ⟨o,by simp,by simpa using H⟩ ?_
 clear H
 rintro J i _ h2 hJ hi ⟨o,rfl,H⟩
 simp -implicitDefEqProofs (disch:=first|omega|(simp only[LnZ];omega))[wrap64,R1.len]
 refine IteW.mk (fun hlt=>?_) (fun hge=>?_)
 ·have hlx:i<x.kids.length:=by omega
  have hnk:=Exq.nods_take hlx
  have hnl:=Exq.nods_le x.kids (i+1)
  have hfl:=Fm.subsL_len (x.kids.take i) (fun y _ o=>Fm.subs_len y o) out
  have hft:=foldl_tk (f:=fun o x=>Fm.subs x o) (b:=out) hlx
  generalize (x.kids.take i).foldl (fun o x=>Fm.subs x o) out=D at *
  obtain⟨u,hu,Ru⟩:=R1.ld hlx
  have hu2:=hload_le H.base hu
  change hload _ (some (elp 3 w i)) (some 3)=some u at hu2
  simp -implicitDefEqProofs (disch:=first|omega|(simp only[LnZ];omega))[wrap64,R1.X (n:=3) rfl,hu2]
  refine (ih _ (List.getElem_mem hlx) (by omega) Ru H).go ?_
  intro o' h3 H
  simp -implicitDefEqProofs (disch:=first|omega|(simp only[LnZ];omega))[wrap64]
  exact hJ _ _ hlx ⟨o',by simp,by rw[hft]; exact H⟩
 have hfl:=Fm.subsL_len x.kids (fun y _ o=>Fm.subs_len y o) out
 rw[List.take_of_length_le (by omega)] at H
 generalize x.kids.foldl (fun o x=>Fm.subs x o) out=D at *
 have FX:=R0.aExq
 simp -implicitDefEqProofs (disch:=first|omega|(simp only[LnZ];omega))[wrap64,FX]
 refine (c_l5Find H.rep (R0.on H)).go ?_
 rintro _ h3 ⟨rfl,rfl⟩
 rw[hse] at hk
 by_cases hm:x∈D
 ·have hf:¬Fm.fx D x<0:=fun e=>Fm.fx_neg.1 e hm
  simp -implicitDefEqProofs (disch:=first|omega|(simp only[LnZ];omega))[wrap64,hf]
  exact RetK.keep (hk _ _ (by rw[Fm.ins,if_pos hm]; exact H))
 ·have hf:=Fm.fx_neg.2 hm
  simp -implicitDefEqProofs (disch:=first|omega|(simp only[LnZ];omega))[wrap64,hf,FX]
  refine (c_l5Copy x (by omega) (R0.on H)).go ?_
  intro y h4 G
  have H:=G.app H
  have FG:=G.rep.aExq
  obtain⟨y1,rfl,_,_,_⟩:=G.unExq
  simp -implicitDefEqProofs (disch:=first|omega|(simp only[LnZ];omega))[wrap64,FG,setC]
  refine HS.appO (bytes:=40) H rfl rfl rfl rfl rfl (by omega) (by omega) fun o' h5 H=>?_
  simp -implicitDefEqProofs (disch:=first|omega|(simp only[LnZ];omega))[wrap64]
  exact RetK.keep (hk _ _ (by rw[Fm.ins,if_neg hm]; exact H))
end Go.Proofs.YtbanccfdojgocaaGreat

namespace Go.Proofs.YtbanccfdojgocaaGreat
open Go
theorem c_l5True {h:Heap}:CallE Tryz.prog fn_spec_l5True [] h (fun u h'=>h'=h∧u=.agg #[.int .i64 1,.int .i64 0,.slice none 0 0]):=by
 refine CallE.gen fun k hk=>EN_spec_l5True rfl ?_
 simp -implicitDefEqProofs (disch:=first|omega|(simp only[LnZ];omega))[wrap64,setC]
 exact RetK.keep (hk _ _ ⟨rfl,rfl⟩)
theorem HS.leaf {g h:Heap}{Γ:List HP}(H:HS g Γ h) {k v:Int}(h1:I64 k) (h2:I64 v):HS g (ow (.agg #[.int .i64 k,.int .i64 v,.slice none 0 0]) (Exq.mk k v [])::Γ) h:=HS.mkExq' H.nil_ow h1 h2
theorem c_l5Not {g h:Heap}{Γ:List HP}{v:Value}{x:Exq}(H:HS g (ow v x::Γ) h):CallE Tryz.prog fn_spec_l5Not [v] h (fun u h'=>HS g (ow u (Fm.neg x)::Γ) h'):=by
 have FX:=H.rep.aExq
 obtain⟨w,rfl,k1,k2,H1⟩:=H.unExq
 refine CallE.gen fun k hk=>EN_spec_l5Not rfl ?_
 simp -implicitDefEqProofs (disch:=first|omega|(simp only[LnZ];omega))[wrap64,FX]
 refine HS.blsO1 H rfl fun xs h2 H=>?_
 simp -implicitDefEqProofs (disch:=first|omega|(simp only[LnZ];omega))[wrap64,setC,H.rep.cells,H.rep.one]
 exact RetK.keep (hk _ _ (HS.mkExq' (kd:=3) (vl:=0) H ⟨by decide,by decide⟩ ⟨by decide,by decide⟩))
theorem c_l5Dual {h:Heap}{kd:Int}:CallE Tryz.prog fn_spec_l5Dual [.int .i64 kd] h (fun u h'=>h'=h∧u=.int .i64 (Fm.dual kd)):=by
 refine CallE.gen fun k hk=>EN_spec_l5Dual rfl ?_
 by_cases c4:kd=4
 ·simp -implicitDefEqProofs (disch:=first|omega|(simp only[LnZ];omega))[wrap64,c4]
  exact RetK.keep (hk _ _ ⟨rfl,by simp[Fm.dual,c4]⟩)
 by_cases c5:kd=5
 ·simp -implicitDefEqProofs (disch:=first|omega|(simp only[LnZ];omega))[wrap64,c4,c5]
  exact RetK.keep (hk _ _ ⟨rfl,by simp[Fm.dual,c5]⟩)
 by_cases c7:kd=7
 ·simp -implicitDefEqProofs (disch:=first|omega|(simp only[LnZ];omega))[wrap64,c4,c5,c7]
  exact RetK.keep (hk _ _ ⟨rfl,by simp[Fm.dual,c7]⟩)
 simp -implicitDefEqProofs (disch:=first|omega|(simp only[LnZ];omega))[wrap64,c4,c5,c7]
 exact RetK.keep (hk _ _ ⟨rfl,by simp[Fm.dual,c4,c5,c7]⟩)
theorem i64c {k:Int}(h1:-9223372036854775808≤k:=by decide) (h2:k<9223372036854775808:=by decide):I64 k:=⟨h1,h2⟩
theorem Fm.dual_ok {k:Int}:I64 (Fm.dual k):=by
 unfold Fm.dual
 repeat' split
 all_goals exact⟨by decide,by decide⟩
theorem c_l5Push:∀(n:Nat) {x:Exq}{h:Heap}{v:Value}{ng:Bool},Fm.Shp n x→Rep h v x→CallE Tryz.prog fn_spec_l5Push [v,.bool ng] h (fun u h'=>HS h [ow u (Fm.push x ng)] h'):=by
 intro n
 induction n with
 | zero=>intro x h v ng hs; exact hs.elim
 | succ n ih=>
 intro x h v ng hs R
 have FX:=R.aExq
 obtain⟨w,rfl,k1,k2,R1⟩:=Rep_Exq.1 R
 have hpe:=Fm.push_eq x ng
 have hkd:=hs.1.kind
 refine CallE.gen fun k hk=>EN_spec_l5Push rfl ?_
 rw[hpe] at hk
 by_cases c12:x.kind=1∨x.kind=2
 ·rw[if_pos c12] at hk
  cases ng with
  | true=>
   have H0:=(HS.init (h:=h)).leaf k1 k2
   rcases c12 with c1 | c1
   all_goals
    rw[c1] at H0 hk
    simp -implicitDefEqProofs (disch:=first|omega|(simp only[LnZ];omega))[wrap64,c1,setC]
    refine (c_l5Not H0).go ?_
    intro u h1 H
    simp -implicitDefEqProofs (disch:=first|omega|(simp only[LnZ];omega))[wrap64,setC,H.rep.aExq]
    exact RetK.keep (hk _ _ H)
  | false=>
   have H0:=(HS.init (h:=h)).leaf k1 k2
   rcases c12 with c1 | c1
   all_goals
    rw[c1] at H0 hk
    simp -implicitDefEqProofs (disch:=first|omega|(simp only[LnZ];omega))[wrap64,c1,setC]
    exact RetK.keep (hk _ _ H0)
 rw[if_neg c12] at hk
 have n1:¬x.kind=1:=fun e=>c12 (.inl e)
 have n2:¬x.kind=2:=fun e=>c12 (.inr e)
 have hkl:0<x.kids.length:=by
  have h1:=hs.1.ar
  unfold Fm.arity at h1
  rw[if_neg c12] at h1
  split at h1
  ·omega
  ·split at h1 <;> omega
 obtain⟨u0,hu0,Ru0⟩:=R1.ld hkl
 change hload _ (some (elp 3 w 0)) (some 3)=some u0 at hu0
 have hX:=R1.X (n:=3) rfl
 have hkp:=fun m=>Fm.kp_at (n:=m) hkl
 have hsk:=hs.kid hkl
 by_cases c3:x.kind=3
 ·rw[if_pos c3,hkp] at hk
  simp -implicitDefEqProofs (disch:=first|omega|(simp only[LnZ];omega))[wrap64,n1,n2,c3,hX,hu0]
  refine (ih hsk Ru0).go ?_
  intro u h1 H
  simp -implicitDefEqProofs (disch:=first|omega|(simp only[LnZ];omega))[wrap64,H.rep.aExq]
  exact RetK.keep (hk _ _ H)
 rw[if_neg c3] at hk
 by_cases c6:x.kind=6
 ·rw[if_pos c6,hkp] at hk
  simp -implicitDefEqProofs (disch:=first|omega|(simp only[LnZ];omega))[wrap64,n1,n2,c3,c6,hX,hu0]
  refine (ih hsk Ru0).go ?_
  intro u h1 H
  have FU:=H.rep.aExq
  obtain⟨w1,rfl,_,_,_⟩:=H.unExq
  simp -implicitDefEqProofs (disch:=first|omega|(simp only[LnZ];omega))[wrap64,FU]
  refine HS.blsO1 H rfl fun xs h2 H=>?_
  simp -implicitDefEqProofs (disch:=first|omega|(simp only[LnZ];omega))[wrap64,setC,H.rep.cells,H.rep.one]
  exact RetK.keep (hk _ _ (HS.mkExq' (kd:=6) (vl:=0) H i64c i64c))
 rw[if_neg c6] at hk
 by_cases c9:x.kind=9∨x.kind=10
 ·rw[if_pos c9,hkp] at hk
  have hx:∃b:Bool,decide (x.kind=9)=b∧((x.kind=9∧b=true)∨(¬x.kind=9∧x.kind=10∧b=false)):=by
   rcases c9 with c9 | c9
   ·exact⟨true,by simp[c9],.inl ⟨c9,rfl⟩⟩
   ·exact⟨false,by simp[c9],.inr ⟨by omega,c9,rfl⟩⟩
  obtain⟨b,hb,hbb⟩:=hx
  rw[hb] at hk
  rcases hbb with ⟨e9,rfl⟩ | ⟨e9,e10,rfl⟩
  all_goals
   first
    |simp -implicitDefEqProofs (disch:=first|omega|(simp only[LnZ];omega))[wrap64,n1,n2,c3,c6,e9,e10,hX,hu0]
    |simp -implicitDefEqProofs (disch:=first|omega|(simp only[LnZ];omega))[wrap64,n1,n2,c3,c6,e9,hX,hu0]
   refine (ih hsk Ru0).go ?_
   intro u h1 H
   have FU:=H.rep.aExq
   obtain⟨w1,rfl,_,_,HW⟩:=H.unExq
   have hO:=HW.rep.one
   cases ng
   all_goals
    simp -implicitDefEqProofs (disch:=first|omega|(simp only[LnZ];omega))[wrap64,e9,FU,setC,hO]
    refine c_l5True.go ?_
    rintro _ h1 ⟨rfl,rfl⟩
    have H0:HS h (ow _ Fm.tru::_) h1:=H.leaf (k:=1) (v:=0) i64c i64c
    simp -implicitDefEqProofs (disch:=first|omega|(simp only[LnZ];omega))[wrap64,FU,setC,hO]
    first
     |refine HS.blsO2 H0 rfl fun xs h2 H=>?_
      simp -implicitDefEqProofs (disch:=first|omega|(simp only[LnZ];omega))[wrap64,setC,H.rep.cells,H.rep.one]
      exact RetK.keep (hk _ _ (HS.mkExq' (kd:=7) (vl:=0) H i64c i64c))
     |refine (c_l5Not H0).go ?_
      intro u2 h2 H
      have FV:=H.rep.aExq
      obtain⟨w2,rfl,_,_,_⟩:=H.unExq
      simp -implicitDefEqProofs (disch:=first|omega|(simp only[LnZ];omega))[wrap64,FV,FU,hO]
      refine HS.blsO2 H rfl fun xs h3 H=>?_
      simp -implicitDefEqProofs (disch:=first|omega|(simp only[LnZ];omega))[wrap64,setC,H.rep.cells,H.rep.one]
      exact RetK.keep (hk _ _ (HS.mkExq' (kd:=8) (vl:=0) H i64c i64c))
 rw[if_neg c9] at hk
 have n9:¬x.kind=9:=fun e=>c9 (.inl e)
 have n10:¬x.kind=10:=fun e=>c9 (.inr e)
 have hkl2:1<x.kids.length:=by
  have:=hs.two (by omega)
  omega
 obtain⟨u1,hu1,Ru1⟩:=R1.ld hkl2
 change hload _ (some (elp 3 w 1)) (some 3)=some u1 at hu1
 have hkp2:=Fm.kp_at (n:=ng) hkl2
 have hsk2:=hs.kid hkl2
 rw[hkp,hkp2] at hk
 have fin:∀(kd:Int),I64 kd→(∀u h',HS h [ow u (Exq.mk kd 0 [Fm.push x.kids[0] ng,Fm.push x.kids[1] ng])] h'→k u h')→True:=fun _ _ _=>trivial
 cases ng with
 | true=>
  simp -implicitDefEqProofs (disch:=first|omega|(simp only[LnZ];omega))[wrap64,n1,n2,c3,c6,n9,n10]
  refine c_l5Dual.go ?_
  rintro _ _ ⟨rfl,rfl⟩
  simp -implicitDefEqProofs (disch:=first|omega|(simp only[LnZ];omega))[wrap64,hX,hu0,hu1]
  refine (ih hsk Ru0).go ?_
  intro u h1 H
  have FU:=H.rep.aExq
  obtain⟨w1,rfl,_,_,_⟩:=H.unExq
  have hu1':=hload_le H.base hu1
  simp -implicitDefEqProofs (disch:=first|omega|(simp only[LnZ];omega))[wrap64,hX,hu1',FU]
  refine (ih hsk2 (Ru1.on H)).go ?_
  intro u2 h2 G
  have H:=G.app H
  have FV:=G.rep.aExq
  obtain⟨w2,rfl,_,_,_⟩:=G.unExq
  simp -implicitDefEqProofs (disch:=first|omega|(simp only[LnZ];omega))[wrap64,FU,FV]
  refine HS.blsO2 H.sw1 rfl fun xs h2 H=>?_
  simp -implicitDefEqProofs (disch:=first|omega|(simp only[LnZ];omega))[wrap64,setC,H.rep.cells,H.rep.one]
  exact RetK.keep (hk _ _ (HS.mkExq' (vl:=0) H Fm.dual_ok i64c))
 | false=>
  simp -implicitDefEqProofs (disch:=first|omega|(simp only[LnZ];omega))[wrap64,n1,n2,c3,c6,n9,n10,hX,hu0,hu1]
  refine (ih hsk Ru0).go ?_
  intro u h1 H
  have FU:=H.rep.aExq
  obtain⟨w1,rfl,_,_,_⟩:=H.unExq
  have hu1':=hload_le H.base hu1
  simp -implicitDefEqProofs (disch:=first|omega|(simp only[LnZ];omega))[wrap64,hX,hu1',FU]
  refine (ih hsk2 (Ru1.on H)).go ?_
  intro u2 h2 G
  have H:=G.app H
  have FV:=G.rep.aExq
  obtain⟨w2,rfl,_,_,_⟩:=G.unExq
  simp -implicitDefEqProofs (disch:=first|omega|(simp only[LnZ];omega))[wrap64,FU,FV]
  refine HS.blsO2 H.sw1 rfl fun xs h2 H=>?_
  simp -implicitDefEqProofs (disch:=first|omega|(simp only[LnZ];omega))[wrap64,setC,H.rep.cells,H.rep.one]
  exact RetK.keep (hk _ _ (HS.mkExq' (vl:=0) H k1 i64c))
end Go.Proofs.YtbanccfdojgocaaGreat

namespace Go.Proofs.YtbanccfdojgocaaGreat
open Go
structure Tr where
 frm:Int
 care:Int
 value:Int
 to:Int
deriving DecidableEq
instance instTyTr:Ty Tr:=Ty.via fun (t:Tr)=>(t.frm,t.care,t.value,t.to)
theorem Tr.ext_iff' {a b:Tr}:a=b↔a.frm=b.frm∧a.care=b.care∧a.value=b.value∧a.to=b.to:=by
 cases a; cases b; simp
instance instFlatTr:Flat Tr:=Flat.via fun (t:Tr)=>(t.frm,t.care,t.value,t.to)
def Tr.v (t:Tr):Value:=.agg #[.int .i64 t.frm,.int .i64 t.care,.int .i64 t.value,.int .i64 t.to]
structure Tr.ok (t:Tr):Prop where
 frm:-9223372036854775808≤t.frm∧t.frm<9223372036854775808
 care:-9223372036854775808≤t.care∧t.care<9223372036854775808
 value:-9223372036854775808≤t.value∧t.value<9223372036854775808
 to:-9223372036854775808≤t.to∧t.to<9223372036854775808
theorem Tr.ok_iff {t:Tr}:Flat.ok t↔t.ok:=⟨fun h=>⟨h.1,h.2.1,h.2.2.1,h.2.2.2⟩,fun h=>⟨h.frm,h.care,h.value,h.to⟩⟩
theorem Rep_Tr {h:Heap}{v:Value}{t:Tr}:Rep h v t↔v=t.v∧t.ok:=by rw[Rep_flat,Tr.ok_iff]; rfl
theorem Rep.ldTr {h:Heap}{v:Value}{l:List Tr}(hr:Rep h v l) {i:Nat}(hi:i<l.length):hload h (some (elp 4 v i)) (some 4)=some l[i].v:=hr.ldF hi
theorem Rep.okTr {h:Heap}{v:Value}{l:List Tr}(hr:Rep h v l) {i:Nat}(hi:i<l.length):l[i].ok:=Tr.ok_iff.1 (hr.okF hi)
theorem Rep.xTr {h:Heap}{v:Value}{l:List Tr}(hr:Rep h v l):((∀(kd:IntKind) (i:Nat),i<l.length→iaV 4 v (.int kd i)=some (elp 4 v i))∧(∀(kd:IntKind) (i:Int),0≤i→i<l.length→iaV 4 v (.int kd i)=some (elp 4 v i.toNat))∧lenVV v=some (.int .i64 l.length)) ∧
  ∀(i:Nat) (hi:i<l.length),hload h (some (elp 4 v i)) (some 4)=some l[i].v:=⟨hr.X rfl,fun _ hi=>hr.ldTr hi⟩
theorem Rep.fTr {h:Heap}{v:Value}{l:List Tr}(hr:Rep h v l):(∀(i fo:Nat),i<l.length→faV fo (elp 4 v i)=some (elpo 4 v i fo))∧(∀(i:Nat) (hi:i<l.length),hload h (some (elpo 4 v i 0)) none=some (.int .i64 l[i].frm))∧(∀(i:Nat) (hi:i<l.length),hload h (some (elpo 4 v i 1)) none=some (.int .i64 l[i].care))∧(∀(i:Nat) (hi:i<l.length),hload h (some (elpo 4 v i 2)) none=some (.int .i64 l[i].value))∧(∀(i:Nat) (hi:i<l.length),hload h (some (elpo 4 v i 3)) none=some (.int .i64 l[i].to)):=⟨fun _ _ hi=>hr.fa hi,fun _ hi=>hr.fld hi rfl rfl,fun _ hi=>hr.fld hi rfl rfl,fun _ hi=>hr.fld hi rfl rfl,fun _ hi=>hr.fld hi rfl rfl⟩
instance instSzTr:Sz Tr:=⟨fun a=>Sz.sz a.frm+Sz.sz a.care+Sz.sz a.value+Sz.sz a.to⟩
instance instMkTr:Mk Tr:=⟨fun a=>Mk.cnt a.frm+Mk.cnt a.care+Mk.cnt a.value+Mk.cnt a.to,
 fun k a=>⟨Mk.wr (k) a.frm,Mk.wr (k+Mk.cnt a.frm) a.care,Mk.wr (k+Mk.cnt a.frm+Mk.cnt a.care) a.value,Mk.wr (k+Mk.cnt a.frm+Mk.cnt a.care+Mk.cnt a.value) a.to⟩,
 fun k a=>by simp[Mk.cnt_wr],fun k j a=>by simp[Mk.cnt_wr,Mk.wr_wr]⟩
structure Aut where
 init:List Int
 acc:List Bool
 edges:List Tr
deriving DecidableEq
instance instTyAut:Ty Aut:=Ty.via fun (a:Aut)=>(a.init,a.acc,a.edges)
theorem Aut.ext_iff' {a b:Aut}:a=b↔a.init=b.init∧a.acc=b.acc∧a.edges=b.edges:=by
 cases a; cases b; simp
theorem Rep_Aut {h:Heap}{v:Value}{a:Aut}:Rep h v a↔∃v1 v2 v3,v=.agg #[v1,v2,v3]∧Rep h v1 a.init∧Rep h v2 a.acc∧Rep h v3 a.edges:=by
 constructor
 ·rintro⟨cs,rfl,c0,d0,rfl,h1,c1,d1,rfl,h2,h3⟩
  obtain⟨v1,rfl,g1⟩:=(rep1 rfl).1 h1
  obtain⟨v2,rfl,g2⟩:=(rep1 rfl).1 h2
  obtain⟨v3,rfl,g3⟩:=(rep1 rfl).1 h3
  exact⟨v1,v2,v3,rfl,g1,g2,g3⟩
 ·rintro⟨v1,v2,v3,rfl,h1,h2,h3⟩
  exact⟨[v1,v2,v3],rfl,⟨[v1],[v2,v3],rfl,(rep1 rfl).2 ⟨_,rfl,h1⟩,⟨[v2],[v3],rfl,(rep1 rfl).2 ⟨_,rfl,h2⟩,(rep1 rfl).2 ⟨_,rfl,h3⟩⟩⟩⟩
theorem HS.mkAut {g h:Heap}{Γ:List HP}{v1 v2 v3:Value}{a:Aut}(H:HS g (ow v1 a.init::ow v2 a.acc::ow v3 a.edges::Γ) h):HS g (ow (.agg #[v1,v2,v3]) a::Γ) h:=by
 refine HS.via (fun (a:Aut)=>(a.init,a.acc,a.edges)) ?_
 exact HS.prod rfl (H.under fun _ H=>HS.prod rfl (H.under fun _ H=>HS.one rfl H))
theorem Rep.aAut {h:Heap}{v:Value}{x:Aut}(hr:Rep h v x):pgetV (some v) 0 (some 3)=some v∧v.cells.size=3∧allOne v.cells.toList=true∧Value.agg v.cells=v:=hr.A rfl rfl
instance instSzAut:Sz Aut:=⟨fun a=>Sz.sz a.init+Sz.sz a.acc+Sz.sz a.edges⟩
instance instMkAut:Mk Aut:=⟨fun a=>Mk.cnt a.init+Mk.cnt a.acc+Mk.cnt a.edges,
 fun k a=>⟨Mk.wr (k) a.init,Mk.wr (k+Mk.cnt a.init) a.acc,Mk.wr (k+Mk.cnt a.init+Mk.cnt a.acc) a.edges⟩,
 fun k a=>by simp[Mk.cnt_wr],fun k j a=>by simp[Mk.cnt_wr,Mk.wr_wr]⟩
structure Las where
 stem:List Int
 loop:List Int
deriving DecidableEq
instance instTyLas:Ty Las:=Ty.via fun (l:Las)=>(l.stem,l.loop)
theorem Las.ext_iff' {a b:Las}:a=b↔a.stem=b.stem∧a.loop=b.loop:=by
 cases a; cases b; simp
instance instSzLas:Sz Las:=⟨fun a=>Sz.sz a.stem+Sz.sz a.loop⟩
instance instMkLas:Mk Las:=⟨fun a=>Mk.cnt a.stem+Mk.cnt a.loop,
 fun k a=>⟨Mk.wr (k) a.stem,Mk.wr (k+Mk.cnt a.stem) a.loop⟩,
 fun k a=>by simp[Mk.cnt_wr],fun k j a=>by simp[Mk.cnt_wr,Mk.wr_wr]⟩
end Go.Proofs.YtbanccfdojgocaaGreat

namespace Go.Proofs.YtbanccfdojgocaaGreat
open Go
namespace Fm
def has (s:Nat) (i:Int):Bool:=decide (0≤i)&&s.testBit i.toNat
theorem has_nat {s i:Nat}:has s (i:Int)=s.testBit i:=by simp[has]
mutual
noncomputable def val (B:List Exq) (s:Nat):Exq→Bool
 | .mk k v l=>if k=1 then true else if k=3 then !(vals B s l).getD 0 false else if k=4 then (vals B s l).getD 0 false&&(vals B s l).getD 1 false
  else if k=5 then (vals B s l).getD 0 false || (vals B s l).getD 1 false else has s (fx B (.mk k v l))
noncomputable def vals (B:List Exq) (s:Nat):List Exq→List Bool
 | []=>[]
 | x::l=>val B s x::vals B s l
end
theorem vals_eq {B:List Exq}{s:Nat}:∀l,vals B s l=l.map (val B s)
 | []=>rfl
 | x::l=>by simp only[vals,List.map_cons,vals_eq l]
noncomputable def kv (B:List Exq) (s:Nat) (x:Exq) (j:Nat):Bool:=(x.kids.map (val B s)).getD j false
theorem kv_at {B:List Exq}{s:Nat}{x:Exq}{j:Nat}(hj:j<x.kids.length):kv B s x j=val B s x.kids[j]:=by simp[kv,hj]
theorem val_eq {B:List Exq}{s:Nat}(x:Exq):val B s x=if x.kind=1 then true else if x.kind=3 then !kv B s x 0 else if x.kind=4 then kv B s x 0&&kv B s x 1
  else if x.kind=5 then kv B s x 0 || kv B s x 1 else has s (fx B x):=by
 cases x with
 | mk k v l=>simp only[val,vals_eq]; rfl
noncomputable def got (B:List Exq) (s t i:Nat) (f:Exq):Bool:=
 if f.kind=6 then kv B t f 0 else if f.kind=7 then kv B s f 1 || kv B s f 0&&t.testBit i else if f.kind=8 then kv B s f 1&&(kv B s f 0 || t.testBit i) else s.testBit i
def Fol (B:List Exq) (s t:Nat):Prop:=∀(i:Nat) (hi:i<B.length),got B s t i B[i]=s.testBit i
noncomputable instance {B:List Exq}{s t:Nat}:Decidable (Fol B s t):=Classical.propDecidable _
noncomputable def ful (B:List Exq) (s:Nat) (u:Int):Bool:=!has s u || kv B s (B.getD u.toNat Exq.zero) 1
def ltc (B:List Exq):Nat→Nat
 | 0=>0
 | n+1=>if (B.getD n Exq.zero).kind=2 then ltc B n ||| 1 <<< (B.getD n Exq.zero).val.toNat else ltc B n
def ltv (B:List Exq) (s:Nat):Nat→Nat
 | 0=>0
 | n+1=>if (B.getD n Exq.zero).kind=2∧s.testBit n=true then ltv B s n ||| 1 <<< (B.getD n Exq.zero).val.toNat else ltv B s n
theorem or8 {a b:Nat}(ha:a<8) (hb:b<8):a ||| b<8:=Nat.or_lt_two_pow (n:=3) ha hb
theorem sh3 {k:Nat}(hk:k<3):1 <<< k<8:=by
 obtain rfl | rfl | rfl:k=0∨k=1∨k=2:=by omega
 all_goals decide
theorem ltc_lt {B:List Exq}(h:∀y∈B,Shp 6 y):∀n,n≤B.length→ltc B n<8
 | 0,_=>by simp[ltc]
 | n+1,hn=>by
  have ih:=ltc_lt h n (by omega)
  have hm:=(h _ (List.getElem_mem (show n<B.length by omega))).nd
  have e:B.getD n Exq.zero=B[n]:=by simp[show n<B.length by omega]
  rw[ltc,e]
  split
  ·exact or8 ih (sh3 (by have:=hm.hi; have:=hm.lo; omega))
  ·exact ih
theorem ltv_lt {B:List Exq}{s:Nat}(h:∀y∈B,Shp 6 y):∀n,n≤B.length→ltv B s n<8
 | 0,_=>by simp[ltv]
 | n+1,hn=>by
  have ih:=ltv_lt (s:=s) h n (by omega)
  have hm:=(h _ (List.getElem_mem (show n<B.length by omega))).nd
  have e:B.getD n Exq.zero=B[n]:=by simp[show n<B.length by omega]
  rw[ltv,e]
  split
  ·exact or8 ih (sh3 (by have:=hm.hi; have:=hm.lo; omega))
  ·exact ih
def unt (B:List Exq):Nat→List Int
 | 0=>[]
 | n+1=>if (B.getD n Exq.zero).kind=7 then unt B n++[(n:Int)] else unt B n
theorem unt_mem {B:List Exq}:∀{n:Nat}{u:Int},u∈unt B n→∃m:Nat,u=m∧m<n∧(B.getD m Exq.zero).kind=7
 | 0,_,h=>by simp[unt] at h
 | n+1,u,h=>by
  rw[unt] at h
  split at h
  ·rename_i hk
   rcases List.mem_append.1 h with h | h
   ·obtain⟨m,h1,h2,h3⟩:=unt_mem h
    exact⟨m,h1,by omega,h3⟩
   ·simp at h; exact⟨n,h,by omega,hk⟩
  ·obtain⟨m,h1,h2,h3⟩:=unt_mem h
   exact⟨m,h1,by omega,h3⟩
theorem unt_len {B:List Exq}:∀n,(unt B n).length≤n
 | 0=>by simp[unt]
 | n+1=>by
  have:=unt_len (B:=B) n
  rw[unt]
  split
  ·simp; omega
  ·omega
noncomputable def phs (B:List Exq) (U:List Int) (s:Nat) (p:Int):Int×Bool:=
 if U.length=0 then (0,true) else if ful B s (U.getD p.toNat 0) then ((p+1).tmod U.length,decide (p=0)) else (p,false)
def POk (U:List Int) (p:Int):Prop:=0≤p∧(p<U.length∨p=0)
theorem phs_ok {B:List Exq}{U:List Int}{s:Nat}{p:Int}(h:POk U p):POk U (phs B U s p).1:=by
 unfold phs
 by_cases h1:U.length=0
 ·rw[if_pos h1]; exact⟨by simp,.inr rfl⟩
 ·have hU:(0:Int)<U.length:=by omega
  have h2:(0:Int)≤p+1:=by have:=h.1; omega
  have h3:0≤(p+1).tmod U.length∧(p+1).tmod U.length<U.length:=by
   rw[Int.tmod_eq_emod_of_nonneg h2]
   exact⟨Int.emod_nonneg _ (by omega),Int.emod_lt_of_pos _ hU⟩
  rw[if_neg h1]
  split
  ·exact⟨h3.1,.inl h3.2⟩
  ·exact h
def atL (L:List (List Int)) (p:List Int):Int:=match L.findIdx? (fun y=>decide (y=p)) with | some i=>(i:Int) | .none=>(L.length:Int)
def adL (L:List (List Int)) (p:List Int):List (List Int):=if p∈L then L else L++[p]
theorem atL_at {xs:List (List Int)}{st:List Int}{i:Nat}(hi:i<xs.length) (he:xs[i]=st) (hn:∀(j:Nat) (hj:j<xs.length),j<i→xs[j]≠st):atL xs st=i:=by
 have:xs.findIdx? (fun y=>decide (y=st))=some i:=by
  rw[List.findIdx?_eq_some_iff_getElem]
  exact⟨hi,by simpa using he,fun j hj=>by simpa using hn j (by omega) hj⟩
 rw[atL,this]
theorem atL_not {xs:List (List Int)}{st:List Int}(h:st∉xs):atL xs st=xs.length:=by
 have:xs.findIdx? (fun y=>decide (y=st))=.none:=by
  rw[List.findIdx?_eq_none_iff]
  intro y hy
  simp only[decide_eq_false_iff_not]
  rintro rfl
  exact h hy
 rw[atL,this]
theorem adL_len {L:List (List Int)}{p:List Int}:L.length≤(adL L p).length∧(adL L p).length≤L.length+1:=by
 unfold adL; split <;> simp
theorem atL_lt {L:List (List Int)}{p:List Int}:0≤atL L p∧atL L p<(adL L p).length:=by
 by_cases h:p∈L
 ·rw[adL,if_pos h]
  unfold atL
  split
  ·rename_i i hi
   rw[List.findIdx?_eq_some_iff_getElem] at hi
   obtain⟨h1,_⟩:=hi
   omega
  ·rename_i hn
   rw[List.findIdx?_eq_none_iff] at hn
   have:=hn p h
   simp at this
 ·rw[atL_not h,adL,if_neg h]
  simp
  omega
noncomputable def trow (B:List Exq) (i:Nat) (s:Nat) (p:Int):Nat→List (List Int)×List Tr→List (List Int)×List Tr
 | 0,q=>q
 | n+1,q=>let r:=trow B i s p n q
  if Fol B s n then (adL r.1 [(n:Int),p],r.2++[⟨(i:Int),(ltc B B.length:Nat),(ltv B s B.length:Nat),atL r.1 [(n:Int),p]⟩]) else r
noncomputable def tN (B:List Exq) (U:List Int) (L0:List (List Int)):Nat→List (List Int)×List Bool×List Tr
 | 0=>(L0,[],[])
 | n+1=>let r:=tN B U L0 n
  if n<r.1.length∧r.1.length≤64 then
   let s:=((r.1.getD n []).getD 0 0).toNat
   let ph:=phs B U s ((r.1.getD n []).getD 1 0)
   let q:=trow B n s ph.1 (2 ^ B.length) (r.1,r.2.2)
   (q.1,r.2.1++[ph.2],q.2)
  else r
def LOk2 (c:Nat) (U:List Int) (L:List (List Int)):Prop:=∀x∈L,∃(s:Nat) (p:Int),x=[(s:Int),p]∧s<c∧POk U p
theorem LOk2.add {c:Nat}{U:List Int}{L:List (List Int)}(h:LOk2 c U L) {s:Nat}{p:Int}(hs:s<c) (hp:POk U p):LOk2 c U (adL L [(s:Int),p]):=by
 unfold adL
 split
 ·exact h
 ·intro x hx
  rcases List.mem_append.1 hx with hx | hx
  ·exact h x hx
  ·simp at hx; exact⟨s,p,hx,hs,hp⟩
structure TRow (B:List Exq) (U:List Int) (c i n:Nat) (q r:List (List Int)×List Tr):Prop where
 ok:LOk2 c U r.1
 ge:q.1.length≤r.1.length
 le:r.1.length≤q.1.length+n
 el:r.2.length≤q.2.length+n
 pre:∃t,r.1=q.1++t
 ed:∀e∈r.2,e∈q.2∨(e.frm=i∧0≤e.to∧e.to<r.1.length∧e.care=(ltc B B.length:Nat)∧∃s:Nat,e.value=(ltv B s B.length:Nat))
theorem adL_pre {L:List (List Int)}{p:List Int}:∃t,adL L p=L++t:=by
 unfold adL; split
 ·exact⟨[],by simp⟩
 ·exact⟨_,rfl⟩
theorem trow_inv {B:List Exq}{U:List Int}{c i s:Nat}{p:Int}{q:List (List Int)×List Tr}(hq:LOk2 c U q.1) (hp:POk U p):∀n,n≤c→TRow B U c i n q (trow B i s p n q)
 | 0,_=>⟨hq,Nat.le_refl _,by simp[trow],by simp[trow],⟨[],by simp[trow]⟩,fun e he=>.inl he⟩
 | n+1,hn=>by
  have ih:=trow_inv (s:=s) (i:=i) (B:=B) hq hp n (by omega)
  unfold trow
  simp only
  split
  ·have hl:=adL_len (L:=(trow B i s p n q).1) (p:=[(n:Int),p])
   have h1:=ih.ge
   have h2:=ih.le
   have h3:=ih.el
   have ha:=atL_lt (L:=(trow B i s p n q).1) (p:=[(n:Int),p])
   obtain⟨t,ht⟩:=ih.pre
   obtain⟨t',ht'⟩:=adL_pre (L:=(trow B i s p n q).1) (p:=[(n:Int),p])
   refine⟨ih.ok.add (by omega) hp,by simp only; omega,by simp only; omega,by simp only[List.length_append,List.length_singleton]; omega,⟨t++t',by simp only; rw[ht',ht,List.append_assoc]⟩,fun e he=>?_⟩
   simp only at he
   rcases List.mem_append.1 he with he | he
   ·rcases ih.ed e he with h | ⟨e1,e2,e3,e4,e5⟩
    ·exact .inl h
    ·exact .inr ⟨e1,e2,by simp only; omega,e4,e5⟩
   ·rw[List.mem_singleton] at he
    subst he
    exact .inr ⟨rfl,ha.1,ha.2,rfl,s,rfl⟩
  ·exact⟨ih.ok,ih.ge,by have:=ih.le; omega,by have:=ih.el; omega,ih.pre,ih.ed⟩
structure TInv (B:List Exq) (U:List Int) (n:Nat) (r:List (List Int)×List Bool×List Tr):Prop where
 ok:LOk2 (2 ^ B.length) U r.1
 al:r.2.1.length≤n∧r.2.1.length≤r.1.length
 el:r.2.2.length≤n*2 ^ B.length
 ll:r.1.length≤64+2 ^ B.length
 ed:∀e∈r.2.2,0≤e.frm∧e.frm<r.1.length∧0≤e.to∧e.to<r.1.length∧e.care=(ltc B B.length:Nat)∧∃s:Nat,e.value=(ltv B s B.length:Nat)
theorem tN_inv {B:List Exq}{U:List Int}{L0:List (List Int)}(h0:LOk2 (2 ^ B.length) U L0) (hl:L0.length≤2 ^ B.length):∀n,TInv B U n (tN B U L0 n)
 | 0=>⟨h0,by simp[tN],by simp[tN],by simp only[tN]; omega,fun e he=>by simp[tN] at he⟩
 | n+1=>by
  have ih:=tN_inv h0 hl n
  unfold tN
  simp only
  split
  ·rename_i hc
   obtain⟨h1,h2⟩:=hc
   obtain⟨s,p,e,hs,hp⟩:=ih.ok _ (List.getElem_mem h1)
   have eg:(tN B U L0 n).1.getD n []=[(s:Int),p]:=by rw[List.getD_eq_getElem?_getD,List.getElem?_eq_getElem h1,← e]; rfl
   have I:=trow_inv (B:=B) (s:=s) (i:=n) (p:=(phs B U s p).1) (q:=((tN B U L0 n).1,(tN B U L0 n).2.2)) ih.ok (phs_ok (B:=B) (s:=s) hp) (2 ^ B.length) (Nat.le_refl _)
   simp only[eg,List.getD_cons_zero,List.getD_cons_succ,Int.toNat_natCast]
   have i1:=I.ge
   have i2:=I.le
   have i3:=I.el
   have i4:=ih.al
   have i5:=ih.el
   simp only at i1 i2 i3
   refine⟨I.ok,by simp only[List.length_append,List.length_singleton]; omega,by simp only[Nat.add_mul]; omega,by simp only; omega,fun e he=>?_⟩
   rcases I.ed e he with h | ⟨e1,e2,e3,e4,e5⟩
   ·obtain⟨f1,f2,f3,f4,f5⟩:=ih.ed e h
    exact⟨f1,by simp only; omega,f3,by simp only; omega,f5⟩
   ·exact⟨by omega,by simp only; omega,e2,e3,e4,e5⟩
  ·have i4:=ih.al
   have i5:=ih.el
   exact⟨ih.ok,by omega,by rw[Nat.add_mul]; omega,ih.ll,ih.ed⟩
theorem tN_al {B:List Exq}{U:List Int}{L0:List (List Int)}:∀n,(∀m,m<n→m<(tN B U L0 m).1.length∧(tN B U L0 m).1.length≤64)→(tN B U L0 n).2.1.length=n
 | 0,_=>rfl
 | n+1,h=>by
  have ih:=tN_al (B:=B) (U:=U) (L0:=L0) n (fun m hm=>h m (by omega))
  unfold tN
  simp only
  rw[if_pos (h n (by omega))]
  simp[ih]
theorem tN_stop {B:List Exq}{U:List Int}{L0:List (List Int)}{n:Nat}(h:¬(n<(tN B U L0 n).1.length∧(tN B U L0 n).1.length≤64)):∀m,n≤m→tN B U L0 m=tN B U L0 n
 | m,hm=>by
  induction m with
  | zero=>obtain rfl:n=0:=by omega
          rfl
  | succ m ih=>
   by_cases e:n=m+1
   ·rw[e]
   ·have h1:=ih (by omega)
    rw[tN]
    simp only
    rw[h1,if_neg (by omega)]
theorem tN_big {B:List Exq}{U:List Int}{L0:List (List Int)}{n:Nat}(h:64<(tN B U L0 n).1.length):∀m,n≤m→64<(tN B U L0 m).1.length:=fun m hm=>by
 rw[tN_stop (by omega) m hm]; exact h
theorem tN_succ {B:List Exq}{U:List Int}{L0:List (List Int)}{n:Nat}(h1:n<(tN B U L0 n).1.length) (h2:(tN B U L0 n).1.length≤64) {s:Nat}{p:Int}(e:(tN B U L0 n).1[n]=[(s:Int),p]) :
  tN B U L0 (n+1)=((trow B n s (phs B U s p).1 (2 ^ B.length) ((tN B U L0 n).1,(tN B U L0 n).2.2)).1,(tN B U L0 n).2.1++[(phs B U s p).2],(trow B n s (phs B U s p).1 (2 ^ B.length) ((tN B U L0 n).1,(tN B U L0 n).2.2)).2):=by
 have eg:(tN B U L0 n).1.getD n []=[(s:Int),p]:=by rw[List.getD_eq_getElem?_getD,List.getElem?_eq_getElem h1,← e]; rfl
 rw[tN]
 simp only
 rw[if_pos ⟨h1,h2⟩]
 simp only[eg,List.getD_cons_zero,List.getD_cons_succ,Int.toNat_natCast]
noncomputable def ini0 (B:List Exq) (g:Exq):Nat→List (List Int)
 | 0=>[]
 | n+1=>if val B n g then ini0 B g n++[[(n:Int),0]] else ini0 B g n
theorem ini0_len {B:List Exq}{g:Exq}:∀n,(ini0 B g n).length≤n
 | 0=>by simp[ini0]
 | n+1=>by
  have:=ini0_len (B:=B) (g:=g) n
  rw[ini0]
  split
  ·simp; omega
  ·omega
theorem ini0_ok {B:List Exq}{g:Exq}{U:List Int}:∀{n c:Nat},n≤c→LOk2 c U (ini0 B g n)
 | 0,_,_=>fun x hx=>by simp[ini0] at hx
 | n+1,c,h=>by
  have ih:=ini0_ok (B:=B) (g:=g) (U:=U) (n:=n) (c:=c) (by omega)
  rw[ini0]
  split
  ·intro x hx
   rcases List.mem_append.1 hx with hx | hx
   ·exact ih x hx
   ·simp at hx; exact⟨n,0,hx,by omega,by simp[POk]⟩
  ·exact ih
def upto (n:Nat):List Int:=(List.range n).map fun (i:Nat)=>(i:Int)
theorem upto_succ {n:Nat}:upto (n+1)=upto n++[(n:Int)]:=by simp[upto,List.range_succ]
noncomputable def trT (x:Exq):List (List Int)×List Bool×List Tr:=tN (basics x) (unt (basics x) (basics x).length) (ini0 (basics x) (push x false) (2 ^ (basics x).length)) 64
def trOk (x:Exq):Prop:=bOk x∧(trT x).1.length≤64
noncomputable instance {x:Exq}:Decidable (trOk x):=Classical.propDecidable _
noncomputable def trA (x:Exq):Aut:=⟨upto (ini0 (basics x) (push x false) (2 ^ (basics x).length)).length,if (trT x).1=[] then [false] else (trT x).2.1,(trT x).2.2⟩
noncomputable def trR (x:Exq):Aut:=if trOk x then trA x else ⟨[],[],[]⟩
end Fm
end Go.Proofs.YtbanccfdojgocaaGreat

namespace Go.Proofs.YtbanccfdojgocaaGreat
open Go
theorem u64_any {i:Int}:IntKind.u64.wrap i=i % 18446744073709551616:=by simp[IntKind.wrap,IntKind.signed,IntKind.bits]
theorem u64_nn {i:Int}:¬IntKind.u64.wrap i<0:=by rw[u64_any]; omega
theorem u64_pos {i:Int}(h0:0≤i) (h1:i<9223372036854775808):IntKind.u64.wrap i=i:=by rw[u64_any]; omega
theorem bv_nat {m:Nat}(hm:m<9223372036854775808):(BitVec.ofInt 64 (m:Int)).toNat=m:=by
 rw[BitVec.toNat_ofInt]
 have:(m:Int) % (2 ^ 64:Nat)=m:=Int.emod_eq_of_lt (by omega) (by omega)
 rw[this]
 rfl
theorem i64_and {a b:Nat}(ha:a<9223372036854775808) (hb:b<9223372036854775808):andI .i64 (a:Int) (b:Int)=((a &&& b:Nat):Int):=by
 unfold andI
 rw[show IntKind.i64.bits=64 from rfl,BitVec.toNat_and,bv_nat ha,bv_nat hb]
 have:a &&& b≤a:=Nat.and_le_left
 exact wrap64 (by omega) (by omega)
theorem i64_or {a b:Nat}(ha:a<4611686018427387904) (hb:b<4611686018427387904):orI .i64 (a:Int) (b:Int)=((a ||| b:Nat):Int):=by
 unfold orI
 rw[show IntKind.i64.bits=64 from rfl,BitVec.toNat_or,bv_nat (by omega),bv_nat (by omega)]
 have:a ||| b<2 ^ 62:=Nat.or_lt_two_pow (by omega) (by omega)
 exact wrap64 (by omega) (by omega)
theorem i64_shl1 {j:Nat}(hj:j<60):shlI .i64 1 (j:Int)=((1 <<< j:Nat):Int):=by
 unfold shlI
 rw[show IntKind.i64.bits=64 from rfl,Int.toNat_natCast,Nat.min_eq_left (by omega),Nat.shiftLeft_eq]
 have h1:(2:Nat) ^ j<2 ^ 60:=Nat.pow_lt_pow_right (by omega) hj
 have h2:((2:Int) ^ j)=((2 ^ j:Nat):Int):=by push_cast; rfl
 rw[h2]
 generalize 2 ^ j=q at *
 rw[wrap64 (by omega) (by omega)]
 simp
theorem i64_shr {s j:Nat}:shrI .i64 (s:Int) (j:Int)=((s / 2 ^ (min j 64):Nat):Int):=by
 unfold shrI
 rw[show IntKind.i64.bits=64 from rfl,Int.toNat_natCast,Int.fdiv_eq_ediv_of_nonneg _ (by exact Int.le_of_lt (Int.pow_pos (by omega)))]
 push_cast
 rfl
theorem has_eq {s:Nat}{i:Int}(hs:s<4611686018427387904) (hi:I64 i):(andI .i64 (shrI .i64 (s:Int) (IntKind.u64.wrap i)) 1=1)↔Fm.has s i=true:=by
 have key:∀j:Nat,(andI .i64 (shrI .i64 (s:Int) (j:Int)) 1=1)↔s / 2 ^ (min j 64) % 2=1:=fun j=>by
  rw[i64_shr]
  have h1:s / 2 ^ (min j 64)≤s:=Nat.div_le_self _ _
  rw[show (1:Int)=((1:Nat):Int) from rfl,i64_and (by omega) (by omega),Nat.and_one_is_mod]
  omega
 by_cases h0:0≤i
 ·obtain⟨n,rfl⟩:∃n:Nat,i=n:=⟨i.toNat,(Int.toNat_of_nonneg h0).symm⟩
  rw[u64_pos h0 hi.2,key,Fm.has_nat,Nat.testBit_eq_decide_div_mod_eq,decide_eq_true_eq]
  by_cases h1:n≤64
  ·rw[Nat.min_eq_left h1]
  ·rw[Nat.min_eq_right (by omega)]
   have e1:s / 2 ^ 64=0:=Nat.div_eq_of_lt (by omega)
   have e2:s / 2 ^ n=0:=Nat.div_eq_of_lt (Nat.lt_of_lt_of_le (by omega:s<2 ^ 64) (Nat.pow_le_pow_right (by omega) (by omega)))
   rw[e1,e2]
 ·have h2:=hi.1
  obtain⟨n,hn⟩:∃n:Nat,IntKind.u64.wrap i=n:=⟨(IntKind.u64.wrap i).toNat,by rw[u64_any]; omega⟩
  have hn2:64≤n:=by rw[u64_any] at hn; omega
  rw[hn,key,Nat.min_eq_right hn2]
  have e1:s / 2 ^ 64=0:=Nat.div_eq_of_lt (by omega)
  rw[e1]
  simp[Fm.has,h0]
end Go.Proofs.YtbanccfdojgocaaGreat

namespace Go.Proofs.YtbanccfdojgocaaGreat
open Go
theorem c_spec_NormalForm {h:Heap}{v:Value}{x:Exq}(R:Rep h v x):CallE Tryz.prog fn_spec_NormalForm [v] h (fun u h'=>∃w,u=.tuple #[w,.bool (decide (Fm.Ok x∧Fm.Ok (Fm.push x false)))]∧HS h [ow w (Fm.nfR x)] h'):=by
 have FX:=R.aExq
 have z0:∀{h'},h.le h'→¬(Fm.Ok x∧Fm.Ok (Fm.push x false))→HS h [ow (.agg #[.int .i64 0,.int .i64 0,.slice none 0 0]) (Fm.nfR x)] h':=fun hl hn=>by
  rw[Fm.nfR,if_neg hn]
  exact HS.leaf (Γ:=[]) hl i64c i64c
 refine CallE.gen fun k hk=>EN_spec_NormalForm rfl ?_
 simp -implicitDefEqProofs (disch:=first|omega|(simp only[LnZ];omega))[wrap64,FX]
 refine (c_spec_FormulaValid R).go ?_
 rintro _ _ ⟨rfl,rfl⟩
 by_cases q1:Fm.Ok x
 case neg=>
  simp -implicitDefEqProofs (disch:=first|omega|(simp only[LnZ];omega))[wrap64,q1,setC]
  exact RetK.keep (hk _ _ ⟨_,by rw[decide_eq_false (fun hh=>q1 hh.1)],z0 (Heap.le.refl _) (fun hh=>q1 hh.1)⟩)
 simp -implicitDefEqProofs (disch:=first|omega|(simp only[LnZ];omega))[wrap64,q1,FX]
 refine (c_l5Push 6 q1.1 R).go ?_
 intro u h1 H
 have FU:=H.rep.aExq
 simp -implicitDefEqProofs (disch:=first|omega|(simp only[LnZ];omega))[wrap64,FU]
 refine (c_spec_FormulaValid H.rep).go ?_
 rintro _ _ ⟨rfl,rfl⟩
 by_cases q2:Fm.Ok (Fm.push x false)
 case neg=>
  simp -implicitDefEqProofs (disch:=first|omega|(simp only[LnZ];omega))[wrap64,q2,setC]
  exact RetK.keep (hk _ _ ⟨_,by rw[decide_eq_false (fun hh=>q2 hh.2)],z0 H.base (fun hh=>q2 hh.2)⟩)
 simp -implicitDefEqProofs (disch:=first|omega|(simp only[LnZ];omega))[wrap64,q2,FU,setC]
 exact RetK.keep (hk _ _ ⟨_,by rw[decide_eq_true ⟨q1,q2⟩],by rw[Fm.nfR,if_pos ⟨q1,q2⟩]; exact H⟩)
theorem c_l7Basic {h:Heap}{v:Value}{x:Exq}(R:Rep h v x):CallE Tryz.prog fn_spec_l7Basic [v] h (fun u h'=>h'=h∧u=.bool (Fm.bas x)):=by
 obtain⟨w,rfl,k1,k2,R1⟩:=Rep_Exq.1 R
 refine CallE.gen fun k hk=>EN_spec_l7Basic rfl ?_
 by_cases c2:x.kind=2
 ·simp -implicitDefEqProofs (disch:=first|omega|(simp only[LnZ];omega))[wrap64,c2]
  exact RetK.keep (hk _ _ ⟨rfl,by simp[Fm.bas,c2]⟩)
 by_cases c6:x.kind=6
 ·simp -implicitDefEqProofs (disch:=first|omega|(simp only[LnZ];omega))[wrap64,c2,c6]
  exact RetK.keep (hk _ _ ⟨rfl,by simp[Fm.bas,c6]⟩)
 by_cases c7:x.kind=7
 ·simp -implicitDefEqProofs (disch:=first|omega|(simp only[LnZ];omega))[wrap64,c2,c6,c7]
  exact RetK.keep (hk _ _ ⟨rfl,by simp[Fm.bas,c7]⟩)
 simp -implicitDefEqProofs (disch:=first|omega|(simp only[LnZ];omega))[wrap64,c2,c6,c7]
 exact RetK.keep (hk _ _ ⟨rfl,by simp[Fm.bas,c2,c6,c7]⟩)
theorem c_l6Has {h:Heap}{s:Nat}{i:Int}(hs:s<4611686018427387904) (hi:I64 i):CallE Tryz.prog fn_spec_l6Has [.int .i64 s,.int .i64 i] h (fun u h'=>h'=h∧u=.bool (Fm.has s i)):=by
 have he:=has_eq hs hi
 refine CallE.gen fun k hk=>EN_spec_l6Has rfl ?_
 cases hh:Fm.has s i with
 | true=>
  have e:=he.2 hh
  simp -implicitDefEqProofs (disch:=first|omega|(simp only[LnZ];omega))[wrap64,u64_nn,e]
  exact RetK.keep (hk _ _ ⟨rfl,by rw[hh]⟩)
 | false=>
  have e:¬(andI .i64 (shrI .i64 (s:Int) (IntKind.u64.wrap i)) 1=1):=fun e=>by rw[he.1 e] at hh; exact absurd hh (by decide)
  simp -implicitDefEqProofs (disch:=first|omega|(simp only[LnZ];omega))[wrap64,u64_nn,e]
  exact RetK.keep (hk _ _ ⟨rfl,by rw[hh]⟩)
theorem Fm.fx_i64 {l:List Exq}{x:Exq}(h:l.length<4611686018427387904):I64 (Fm.fx l x):=by
 by_cases hm:x∈l
 ·obtain⟨i,hi,e,_⟩:=Fm.fx_mem hm
  rw[e]
  exact⟨by omega,by omega⟩
 ·rw[Fm.fx_not hm]
  exact⟨by decide,by decide⟩
theorem c_l7Value:∀(n:Nat) {x:Exq}{h:Heap}{v w:Value}{B:List Exq}{s:Nat},s<4611686018427387904→Fm.Shp n x→Rep h w B→Rep h v x→CallE Tryz.prog fn_spec_l7Value [w,.int .i64 s,v] h (fun u h'=>h'=h∧u=.bool (Fm.val B s x)):=by
 intro n
 induction n with
 | zero=>intro x h v w B s _ hs; exact hs.elim
 | succ n ih=>
 intro x h v w B s hsn hs RB R
 have FX:=R.aExq
 have R0:=R
 have hL:=RB.lt
 obtain⟨wk,rfl,k1,k2,R1⟩:=Rep_Exq.1 R
 have hve:=Fm.val_eq (B:=B) (s:=s) x
 refine CallE.gen fun k hk=>EN_spec_l7Value rfl ?_
 rw[hve] at hk
 by_cases c1:x.kind=1
 ·simp -implicitDefEqProofs (disch:=first|omega|(simp only[LnZ];omega))[wrap64,c1]
  exact RetK.keep (hk _ _ ⟨rfl,by rw[if_pos c1]⟩)
 rw[if_neg c1] at hk
 have kid:∀{j:Nat}(hj:j<x.kids.length),∃u,hload h (some (elp 3 wk j)) (some 3)=some u∧Rep h u x.kids[j]:=fun hj=>R1.ld hj
 have hX:=R1.X (n:=3) rfl
 by_cases c3:x.kind=3
 ·rw[if_pos c3] at hk
  have hl:=hs.one (.inl c3)
  obtain⟨u0,hu0,Ru0⟩:=kid (j:=0) (by omega)
  rw[Fm.kv_at (j:=0) (by omega)] at hk
  simp -implicitDefEqProofs (disch:=first|omega|(simp only[LnZ];omega))[wrap64,c1,c3,hX,hu0]
  refine (ih hsn (hs.kid (i:=0) (by omega)) RB Ru0).go ?_
  rintro _ _ ⟨rfl,rfl⟩
  simp -implicitDefEqProofs (disch:=first|omega|(simp only[LnZ];omega))[wrap64]
  exact RetK.keep (hk _ _ ⟨rfl,rfl⟩)
 rw[if_neg c3] at hk
 by_cases c45:x.kind=4∨x.kind=5
 ·have hl:=hs.two (by omega)
  obtain⟨u0,hu0,Ru0⟩:=kid (j:=0) (by omega)
  obtain⟨u1,hu1,Ru1⟩:=kid (j:=1) (by omega)
  rw[Fm.kv_at (j:=0) (by omega),Fm.kv_at (j:=1) (by omega)] at hk
  have i0:∀{k:Value→Heap→Prop},(∀u h',h'=h∧u=Value.bool (Fm.val B s x.kids[0])→k u h')→CallE Tryz.prog fn_spec_l7Value [w,.int .i64 s,u0] h k:=fun hk=>(ih hsn (hs.kid (i:=0) (by omega)) RB Ru0).mono hk
  cases hv0:Fm.val B s x.kids[0]
  all_goals
   rw[hv0] at hk
   rcases c45 with c4 | c4
   all_goals
    simp -implicitDefEqProofs (disch:=first|omega|(simp only[LnZ];omega))[wrap64,c1,c3,c4,hX,hu0]
    refine (ih hsn (hs.kid (i:=0) (by omega)) RB Ru0).go ?_
    rintro _ _ ⟨rfl,rfl⟩
    simp -implicitDefEqProofs (disch:=first|omega|(simp only[LnZ];omega))[wrap64,hv0,c4,hX,hu1]
    first
     |exact RetK.keep (hk _ _ ⟨rfl,by simp[c4]⟩)
     | (refine (ih hsn (hs.kid (i:=1) (by omega)) RB Ru1).go ?_
        rintro _ _ ⟨rfl,rfl⟩
        simp -implicitDefEqProofs (disch:=first|omega|(simp only[LnZ];omega))[wrap64]
        exact RetK.keep (hk _ _ ⟨rfl,by simp[c4]⟩))
 have c4:¬x.kind=4:=fun e=>c45 (.inl e)
 have c5:¬x.kind=5:=fun e=>c45 (.inr e)
 rw[if_neg c4,if_neg c5] at hk
 simp -implicitDefEqProofs (disch:=first|omega|(simp only[LnZ];omega))[wrap64,c1,c3,c4,c5,FX]
 refine (c_l5Find RB R0).go ?_
 rintro _ _ ⟨rfl,rfl⟩
 simp -implicitDefEqProofs (disch:=first|omega|(simp only[LnZ];omega))[wrap64]
 refine (c_l6Has hsn (Fm.fx_i64 hL)).go ?_
 rintro _ _ ⟨rfl,rfl⟩
 simp -implicitDefEqProofs (disch:=first|omega|(simp only[LnZ];omega))[wrap64]
 exact RetK.keep (hk _ _ ⟨rfl,rfl⟩)
end Go.Proofs.YtbanccfdojgocaaGreat

namespace Go.Proofs.YtbanccfdojgocaaGreat
open Go
section
variable {α:Type} [Ty α] {h h':Heap}{v:Value}{l:List α}{M:List (Mix α)}
theorem Raws.le (H:Raws h l M) (hl:h.le h'):Raws h' l M:=⟨H.len,fun i hi=>by
 obtain⟨c,h1,h2⟩:=H.at' i hi
 exact⟨c,h1,Ty.mono hl h2⟩⟩
theorem Raws.nil:Raws h ([]:List α) []:=⟨rfl,fun i hi=>absurd hi (Nat.not_lt_zero i)⟩
theorem Raws.set (H:Raws h l M) {i:Nat}{y:α}{c:List Value}(hy:Ty.rep h c y):Raws h (l.set i y) (M.set i (.raw c)):=by
 refine⟨by simp[H.len],fun j hj=>?_⟩
 rw[List.length_set] at hj
 by_cases e:i=j
 ·subst e
  exact⟨c,by rw[List.getElem?_set_self (by rw[H.len]; exact hj)],by simpa using hy⟩
 ·obtain⟨c',h1,h2⟩:=H.at' j hj
  exact⟨c',by rw[List.getElem?_set_ne e]; exact h1,by rw[List.getElem_set_ne e]; exact h2⟩
theorem Raws.push (H:Raws h l M) {y:α}{c:List Value}(hy:Ty.rep h c y):Raws h (l++[y]) (M++[.raw c]):=by
 refine⟨by simp[H.len],fun j hj=>?_⟩
 by_cases e:j<l.length
 ·obtain⟨c',h1,h2⟩:=H.at' j e
  exact⟨c',by rw[List.getElem?_append_left (by rw[H.len]; exact e)]; exact h1,by rw[List.getElem_append_left e]; exact h2⟩
 ·obtain rfl:j=l.length:=by simp at hj; omega
  exact⟨c,by rw[← H.len,List.getElem?_append_right (Nat.le_refl _)]; simp,by simpa using hy⟩
theorem Rep.raws (R:Rep h v M) (H:Raws h l M):Rep h v l:=by
 obtain⟨p,cap,rfl,h1,h2,h3⟩:=Rep_list.1 R
 refine Rep_list.2 ⟨p,cap,by rw[H.len],by rw[← H.len]; exact h1,h2,fun i hi=>?_⟩
 obtain⟨b,off,vs,e1,e2,e3⟩:=h3 i (by rw[H.len]; exact hi)
 obtain⟨c,f1,f2⟩:=H.at' i hi
 rw[List.getElem?_eq_getElem (by rw[H.len]; exact hi)] at f1
 rw[Option.some.inj f1] at e3
 obtain⟨rfl,_⟩:=e3
 exact⟨b,off,vs,e1,e2,f2⟩
theorem HS.rawO {g:Heap}{Γ:List HP}(H:HS g Γ h) {c:List Value}{y:α}(hy:Ty.rep h' c y):HS g (ow (valC (Ty.agg α) c) (Mix.raw (α:=α) c)::Γ) h:=
 ⟨h,Heap.nil,by simp,by simp,⟨c,rfl,rfl,rfl,Ty.len hy,Ty.cell hy⟩,H⟩
end
end Go.Proofs.YtbanccfdojgocaaGreat

namespace Go.Proofs.YtbanccfdojgocaaGreat
open Go
theorem flt_take {α:Type}{p:α→Bool}{l:List α}{i:Nat}(hi:i<l.length):(l.take (i+1)).filter p=(l.take i).filter p++if p l[i] then [l[i]] else []:=by
 rw[List.take_add_one,List.getElem?_eq_getElem hi,List.filter_append]
 cases hp:p l[i] <;> simp[hp]
theorem flt_len {α:Type}{p:α→Bool}{l:List α}{i:Nat}:((l.take i).filter p).length≤l.length:=by
 have h1:=List.length_filter_le p (l.take i)
 have h2:(l.take i).length≤l.length:=by rw[List.length_take]; omega
 omega
theorem c_spec_BasicFormulas {h:Heap}{v:Value}{x:Exq}(R:Rep h v x):CallE Tryz.prog fn_spec_BasicFormulas [v] h (fun u h'=>∃w,u=.tuple #[w,.bool (decide (Fm.bOk x))]∧h.le h'∧Rep h' w (Fm.basR x)):=by
 have FX:=R.aExq
 refine CallE.gen fun k hk=>EN_spec_BasicFormulas rfl ?_
 simp -implicitDefEqProofs (disch:=first|omega|(simp only[LnZ];omega))[wrap64,FX]
 refine (c_spec_NormalForm R).go ?_
 rintro _ h1 ⟨w,rfl,H⟩
 have FW:=H.rep.aExq
 by_cases q1:Fm.Ok x∧Fm.Ok (Fm.push x false)
 case neg=>
  simp -implicitDefEqProofs (disch:=first|omega|(simp only[LnZ];omega))[wrap64,q1,FW,setC]
  refine H.bls0 Exq fun o h2 H=>?_
  simp -implicitDefEqProofs (disch:=first|omega|(simp only[LnZ];omega))[wrap64]
  exact RetK.keep (hk _ _ ⟨o,by rw[decide_eq_false (fun hh=>q1 hh.1)],H.base,by rw[Fm.basR,if_neg (fun hh=>q1 hh.1)]; exact H.rep⟩)
 rw[Fm.nfR,if_pos q1] at H
 simp -implicitDefEqProofs (disch:=first|omega|(simp only[LnZ];omega))[wrap64,q1,FW,setC]
 refine H.bls0 (Mix Exq) fun o h2 H=>?_
 simp -implicitDefEqProofs (disch:=first|omega|(simp only[LnZ];omega))[wrap64,FW]
 have hnd:=q1.2.2
 refine (c_l5Subs (Fm.push x false) (g:=h2) (Γ:=[]) (out:=[]) (by simp; omega) H.sw1.rep (HS.init.nil_ow)).go ?_
 intro ls h3 G
 have H:=G.app H
 have hsl:=Fm.subs_len (Fm.push x false) []
 have hbd:Fm.basics x=(Fm.subs (Fm.push x false) []).filter Fm.bas:=rfl
 obtain⟨g1,H1,H2⟩:=HS.rebase (Δ:=[ow o ([]:List (Mix Exq))]) (Γ:=[ow ls (Fm.subs (Fm.push x false) []),ow w (Fm.push x false)]) H.sw1
 have lb:=H1.base
 have RL:=H1.rep
 clear H1 H G
 generalize Fm.subs (Fm.push x false) []=S at *
 simp only[List.length_nil,Nat.zero_add] at hsl
 simp -implicitDefEqProofs (disch:=first|omega|(simp only[LnZ];omega))[wrap64]
 refine wp_count S.length (fun i e h'=>∃(o:Value) (N:List (Mix Exq)),e=[none,none,none,none,none,none,some o,some ls,some (.int .i64 i)]∧HS g1 [ow o N] h'∧Raws g1 ((S.take i).filter Fm.bas) N) ⟨o,[],by simp,H2,by simpa using Raws.nil⟩ ?_
 clear H2
 rintro J i _ h4 hJ hi ⟨o,N,rfl,H,hN⟩
 simp -implicitDefEqProofs (disch:=first|omega|(simp only[LnZ];omega))[wrap64,(RL.on H).len]
 refine IteW.mk (fun hlt=>?_) (fun hge=>?_)
 ·have hlx:i<S.length:=by omega
  obtain⟨u,hu,Ru⟩:=RL.ld hlx
  have hu':=hload_le H.base hu
  change hload _ (some (elp 3 ls i)) (some 3)=some u at hu'
  have hX:=RL.X (n:=3) rfl
  have FU:=Ru.aExq
  have hft:=flt_take (p:=Fm.bas) hlx
  have hNl:N.length≤64:=by
   rw[hN.len]
   have:=flt_len (p:=Fm.bas) (l:=S) (i:=i)
   omega
  simp -implicitDefEqProofs (disch:=first|omega|(simp only[LnZ];omega))[wrap64,hX,hu',FU]
  refine (c_l7Basic (Ru.on H)).go ?_
  rintro _ _ ⟨rfl,rfl⟩
  cases hb:Fm.bas S[i] with
  | false=>
   simp -implicitDefEqProofs (disch:=first|omega|(simp only[LnZ];omega))[wrap64]
   exact hJ _ _ hlx ⟨o,N,by simp,H,by rw[hft,hb]; simpa using hN⟩
  | true=>
   obtain⟨wq,rfl,kk1,kk2,Rq⟩:=Rep_Exq.1 Ru
   have hcs:Ty.rep g1 [.int .i64 S[i].kind,.int .i64 S[i].val,wq] S[i]:=repExq.2 ⟨wq,rfl,kk1,kk2,Rq⟩
   have hOq:=Rq.one
   simp -implicitDefEqProofs (disch:=first|omega|(simp only[LnZ];omega))[wrap64,hX,hu',setC,hOq]
   refine HS.appO (α:=Mix Exq) (bytes:=40) (H.rawO hcs) rfl rfl rfl rfl rfl (by omega) (by omega) fun o' h5 H=>?_
   simp -implicitDefEqProofs (disch:=first|omega|(simp only[LnZ];omega))[wrap64]
   refine hJ _ _ hlx ⟨o',_,by simp,H,?_⟩
   rw[hft,hb,if_pos rfl]
   exact hN.push hcs
 rw[List.take_of_length_le (by omega),← hbd] at hN
 have hNl:=hN.len
 by_cases q2:(Fm.basics x).length≤5
 ·have bok:Fm.bOk x:=⟨q1,q2⟩
  have hlt:¬(5:Int)<N.length:=by omega
  simp -implicitDefEqProofs (disch:=first|omega|(simp only[LnZ];omega))[wrap64,H.rep.len,hlt]
  exact RetK.keep (hk _ _ ⟨o,by rw[decide_eq_true bok],lb.trans H.base,by rw[Fm.basR,if_pos bok]; exact H.rep.raws (hN.le H.base)⟩)
 ·have nok:¬Fm.bOk x:=fun hh=>q2 hh.2
  have hlt:(5:Int)<N.length:=by omega
  simp -implicitDefEqProofs (disch:=first|omega|(simp only[LnZ];omega))[wrap64,H.rep.len,hlt]
  refine H.bls0 Exq fun o2 h5 H=>?_
  simp -implicitDefEqProofs (disch:=first|omega|(simp only[LnZ];omega))[wrap64]
  exact RetK.keep (hk _ _ ⟨o2,by rw[decide_eq_false nok],lb.trans H.base,by rw[Fm.basR,if_neg nok]; exact H.rep⟩)
structure Bas (B:List Exq):Prop where
 n5:B.length≤5
 ok:∀y∈B,Fm.Shp 6 y∧Fm.bas y=true
theorem Bas.at {B:List Exq}(h:Bas B) {i:Nat}(hi:i<B.length):Fm.Shp 6 B[i]:=(h.ok _ (List.getElem_mem hi)).1
theorem c_l7Follows {h:Heap}{w:Value}{B:List Exq}{s t:Nat}(hB:Bas B) (hs:s<4611686018427387904) (ht:t<4611686018427387904) (R:Rep h w B):CallE Tryz.prog fn_spec_l7Follows [w,.int .i64 s,.int .i64 t] h (fun u h'=>h'=h∧u=.bool (decide (Fm.Fol B s t))):=by
 have hL:=R.lt
 have hn5:=hB.n5
 refine CallE.gen fun k hk=>EN_spec_l7Follows rfl ?_
 simp -implicitDefEqProofs (disch:=first|omega|(simp only[LnZ];omega))[wrap64]
 refine wp_count B.length (fun i e h'=>e=[some w,some (.int .i64 s),some (.int .i64 t),none,some (.int .i64 i),none,none,none,none]∧h'=h∧∀(j:Nat) (hj:j<B.length),j<i→Fm.got B s t j B[j]=s.testBit j) ⟨by simp,rfl,fun j _ hj=>absurd hj (Nat.not_lt_zero j)⟩ ?_
 rintro J i _ h hJ hi ⟨rfl,rfl,hq⟩
 simp -implicitDefEqProofs (disch:=first|omega|(simp only[LnZ];omega))[wrap64,R.len]
 refine IteW.mk (fun hlt=>?_) (fun hge=>?_)
 ·have hlx:i<B.length:=by omega
  have hy:Fm.got B s t i B[i]=s.testBit i→J [some w,some (.int .i64 s),some (.int .i64 t),none,some (.int .i64 ((i+1:Nat):Int)),none,none,none,none] h:=fun e=>hJ _ _ hlx ⟨rfl,rfl,fun j hj hji=>by
   by_cases e2:j=i
   ·subst e2; exact e
   ·exact hq j hj (by omega)⟩
  have hno:¬Fm.got B s t i B[i]=s.testBit i→k (.bool false) h:=fun e=>hk _ _ ⟨rfl,by rw[decide_eq_false (fun hh:Fm.Fol B s t=>e (hh i hlx))]⟩
  have hsp:=hB.at hlx
  obtain⟨y,hyd⟩:∃y,y=B[i]:=⟨_,rfl⟩
  obtain⟨u,hu,Ru⟩:=R.ld hlx
  change hload _ (some (elp 3 w i)) (some 3)=some u at hu
  rw[← hyd] at hy hno hsp Ru
  obtain⟨wk,rfl,k1,k2,R1⟩:=Rep_Exq.1 Ru
  have hX:=R.X (n:=3) rfl
  have kO:=R1.one
  have hi64:I64 (i:Int):=⟨by omega,by omega⟩
  have kid:∀{j:Nat}(hj:j<y.kids.length),∃u,hload h (some (elp 3 wk j)) (some 3)=some u∧Rep h u y.kids[j]:=fun hj=>R1.ld hj
  have hY:=R1.X (n:=3) rfl
  have V:∀{j:Nat}(hj:j<y.kids.length) {u:Value}{s:Nat},s<4611686018427387904→Rep h u y.kids[j]→CallE Tryz.prog fn_spec_l7Value [w,.int .i64 s,u] h (fun u h'=>h'=h∧u=.bool (Fm.val B s y.kids[j])):=fun hj _ _ hs r=>c_l7Value 5 hs (hsp.kid hj) R r
  simp -implicitDefEqProofs (disch:=first|omega|(simp only[LnZ];omega))[wrap64,hX,hu,setC,kO]
  refine (c_l6Has hs hi64).go ?_
  rintro _ _ ⟨rfl,rfl⟩
  rw[Fm.has_nat]
  unfold Fm.got at hy hno
  by_cases c6:y.kind=6
  ·have hl:=hsp.one (by omega)
   obtain⟨u0,hu0,Ru0⟩:=kid (j:=0) (by omega)
   rw[if_pos c6,Fm.kv_at (j:=0) (by omega)] at hy hno
   simp -implicitDefEqProofs (disch:=first|omega|(simp only[LnZ];omega))[wrap64,c6,hY,hu0,setC,kO]
   refine (V (by omega) ht Ru0).go ?_
   rintro _ _ ⟨rfl,rfl⟩
   by_cases e:Fm.val B t y.kids[0]=s.testBit i
   ·simp -implicitDefEqProofs (disch:=first|omega|(simp only[LnZ];omega))[wrap64,e]
    simpa using hy e
   ·simp -implicitDefEqProofs (disch:=first|omega|(simp only[LnZ];omega))[wrap64,e]
    exact RetK.keep (hno e)
  rw[if_neg c6] at hy hno
  by_cases c7:y.kind=7
  ·have hl:=hsp.two (by omega)
   obtain⟨u0,hu0,Ru0⟩:=kid (j:=0) (by omega)
   obtain⟨u1,hu1,Ru1⟩:=kid (j:=1) (by omega)
   rw[if_pos c7,Fm.kv_at (j:=0) (by omega),Fm.kv_at (j:=1) (by omega)] at hy hno
   simp -implicitDefEqProofs (disch:=first|omega|(simp only[LnZ];omega))[wrap64,c6,c7,hY,hu1,setC,kO]
   refine (V (by omega) hs Ru1).go ?_
   rintro _ _ ⟨rfl,rfl⟩
   cases hv1:Fm.val B s y.kids[1] with
   | true=>
    rw[hv1] at hy hno
    cases hw:s.testBit i with
    | true=>
     rw[hw] at hy
     simp -implicitDefEqProofs (disch:=first|omega|(simp only[LnZ];omega))[wrap64,hv1,hw]
     simpa using hy (by simp)
    | false=>
     rw[hw] at hno
     simp -implicitDefEqProofs (disch:=first|omega|(simp only[LnZ];omega))[wrap64,hv1,hw]
     exact RetK.keep (hno (by simp))
   | false=>
    rw[hv1] at hy hno
    simp -implicitDefEqProofs (disch:=first|omega|(simp only[LnZ];omega))[wrap64,hv1,hY,hu0]
    refine (V (by omega) hs Ru0).go ?_
    rintro _ _ ⟨rfl,rfl⟩
    cases hv0:Fm.val B s y.kids[0] with
    | false=>
     rw[hv0] at hy hno
     cases hw:s.testBit i with
     | true=>
      rw[hw] at hno
      simp -implicitDefEqProofs (disch:=first|omega|(simp only[LnZ];omega))[wrap64,hv0,hw]
      exact RetK.keep (hno (by simp))
     | false=>
      rw[hw] at hy
      simp -implicitDefEqProofs (disch:=first|omega|(simp only[LnZ];omega))[wrap64,hv0,hw]
      simpa using hy (by simp)
    | true=>
     rw[hv0] at hy hno
     simp -implicitDefEqProofs (disch:=first|omega|(simp only[LnZ];omega))[wrap64,hv0]
     refine (c_l6Has ht hi64).go ?_
     rintro _ _ ⟨rfl,rfl⟩
     rw[Fm.has_nat]
     by_cases e:t.testBit i=s.testBit i
     ·simp -implicitDefEqProofs (disch:=first|omega|(simp only[LnZ];omega))[wrap64,e]
      simpa using hy (by simpa using e)
     ·simp -implicitDefEqProofs (disch:=first|omega|(simp only[LnZ];omega))[wrap64,e]
      exact RetK.keep (hno (by simpa using e))
  rw[if_neg c7] at hy hno
  by_cases c8:y.kind=8
  ·have hl:=hsp.two (by omega)
   obtain⟨u0,hu0,Ru0⟩:=kid (j:=0) (by omega)
   obtain⟨u1,hu1,Ru1⟩:=kid (j:=1) (by omega)
   rw[if_pos c8,Fm.kv_at (j:=0) (by omega),Fm.kv_at (j:=1) (by omega)] at hy hno
   simp -implicitDefEqProofs (disch:=first|omega|(simp only[LnZ];omega))[wrap64,c6,c7,c8,hY,hu1,setC,kO]
   refine (V (by omega) hs Ru1).go ?_
   rintro _ _ ⟨rfl,rfl⟩
   cases hv1:Fm.val B s y.kids[1] with
   | false=>
    rw[hv1] at hy hno
    cases hw:s.testBit i with
    | true=>
     rw[hw] at hno
     simp -implicitDefEqProofs (disch:=first|omega|(simp only[LnZ];omega))[wrap64,hv1,hw]
     exact RetK.keep (hno (by simp))
    | false=>
     rw[hw] at hy
     simp -implicitDefEqProofs (disch:=first|omega|(simp only[LnZ];omega))[wrap64,hv1,hw]
     simpa using hy (by simp)
   | true=>
    rw[hv1] at hy hno
    simp -implicitDefEqProofs (disch:=first|omega|(simp only[LnZ];omega))[wrap64,hv1,hY,hu0]
    refine (V (by omega) hs Ru0).go ?_
    rintro _ _ ⟨rfl,rfl⟩
    cases hv0:Fm.val B s y.kids[0] with
    | true=>
     rw[hv0] at hy hno
     cases hw:s.testBit i with
     | true=>
      rw[hw] at hy
      simp -implicitDefEqProofs (disch:=first|omega|(simp only[LnZ];omega))[wrap64,hv0,hw]
      simpa using hy (by simp)
     | false=>
      rw[hw] at hno
      simp -implicitDefEqProofs (disch:=first|omega|(simp only[LnZ];omega))[wrap64,hv0,hw]
      exact RetK.keep (hno (by simp))
    | false=>
     rw[hv0] at hy hno
     simp -implicitDefEqProofs (disch:=first|omega|(simp only[LnZ];omega))[wrap64,hv0]
     refine (c_l6Has ht hi64).go ?_
     rintro _ _ ⟨rfl,rfl⟩
     rw[Fm.has_nat]
     by_cases e:t.testBit i=s.testBit i
     ·simp -implicitDefEqProofs (disch:=first|omega|(simp only[LnZ];omega))[wrap64,e]
      simpa using hy (by simpa using e)
     ·simp -implicitDefEqProofs (disch:=first|omega|(simp only[LnZ];omega))[wrap64,e]
      exact RetK.keep (hno (by simpa using e))
  rw[if_neg c8] at hy hno
  simp -implicitDefEqProofs (disch:=first|omega|(simp only[LnZ];omega))[wrap64,c6,c7,c8]
  simpa using hy rfl
 ·simp -implicitDefEqProofs (disch:=first|omega|(simp only[LnZ];omega))[wrap64]
  exact RetK.keep (hk _ _ ⟨rfl,by rw[decide_eq_true (show Fm.Fol B s t from fun j hj=>hq j hj (by omega))]⟩)
theorem c_l7Fulfils {h:Heap}{w:Value}{B:List Exq}{s u:Nat}(hB:Bas B) (hs:s<4611686018427387904) (hu:u<B.length) (hk7:B[u].kind=7) (R:Rep h w B):CallE Tryz.prog fn_spec_l7Fulfils [w,.int .i64 s,.int .i64 u] h (fun v h'=>h'=h∧v=.bool (Fm.ful B s u)):=by
 have hL:=R.lt
 have hn5:=hB.n5
 have hi64:I64 (u:Int):=⟨by omega,by omega⟩
 have hsp:=hB.at hu
 have hl:=hsp.two (by omega)
 obtain⟨q,hq,Rq⟩:=R.ld hu
 change hload _ (some (elp 3 w u)) (some 3)=some q at hq
 obtain⟨wk,rfl,k1,k2,R1⟩:=Rep_Exq.1 Rq
 have hX:=R.X (n:=3) rfl
 have hP:=hld_parts (cs:=[.int .i64 B[u].kind,.int .i64 B[u].val,wk]) hq
 obtain⟨u1,hu1,Ru1⟩:=R1.ld (i:=1) (by omega)
 change hload _ (some (elp 3 wk 1)) (some 3)=some u1 at hu1
 have e:B.getD (u:Int).toNat Exq.zero=B[u]:=by simp[hu]
 refine CallE.gen fun k hk=>EN_spec_l7Fulfils rfl ?_
 simp -implicitDefEqProofs (disch:=first|omega|(simp only[LnZ];omega))[wrap64]
 refine (c_l6Has hs hi64).go ?_
 rintro _ _ ⟨rfl,rfl⟩
 rw[Fm.ful,e,Fm.kv_at (j:=1) (by omega)] at hk
 cases hh:Fm.has s u with
 | false=>
  rw[hh] at hk
  simp -implicitDefEqProofs (disch:=first|omega|(simp only[LnZ];omega))[wrap64,hh]
  exact RetK.keep (hk _ _ ⟨rfl,by simp⟩)
 | true=>
  rw[hh] at hk
  simp -implicitDefEqProofs (disch:=first|omega|(simp only[LnZ];omega))[wrap64,hh,hX,hP.1,hP.2.2.1,R1.X (n:=3) rfl,hu1]
  refine (c_l7Value 5 hs (hsp.kid (i:=1) (by omega)) R Ru1).go ?_
  rintro _ _ ⟨rfl,rfl⟩
  simp -implicitDefEqProofs (disch:=first|omega|(simp only[LnZ];omega))[wrap64]
  exact RetK.keep (hk _ _ ⟨rfl,by simp⟩)
end Go.Proofs.YtbanccfdojgocaaGreat

namespace Go.Proofs.YtbanccfdojgocaaGreat
open Go
theorem c_l7Letter {h:Heap}{w:Value}{B:List Exq}{s:Nat}(hB:Bas B) (hs:s<4611686018427387904) (R:Rep h w B):CallE Tryz.prog fn_spec_l7Letter [w,.int .i64 s] h (fun u h'=>h'=h∧u=.tuple #[.int .i64 ((Fm.ltc B B.length:Nat):Int),.int .i64 ((Fm.ltv B s B.length:Nat):Int)]):=by
 have hL:=R.lt
 have hn5:=hB.n5
 have hall:∀y∈B,Fm.Shp 6 y:=fun y hy=>(hB.ok y hy).1
 refine CallE.gen fun k hk=>EN_spec_l7Letter rfl ?_
 simp -implicitDefEqProofs (disch:=first|omega|(simp only[LnZ];omega))[wrap64]
 refine wp_count B.length (fun i e h'=>e=[some w,some (.int .i64 s),none,none,some (.int .i64 ((Fm.ltc B i:Nat):Int)),some (.int .i64 ((Fm.ltv B s i:Nat):Int)),some (.int .i64 i)]∧h'=h) ⟨by simp[Fm.ltc,Fm.ltv],rfl⟩ ?_
 rintro J i _ h hJ hi ⟨rfl,rfl⟩
 simp -implicitDefEqProofs (disch:=first|omega|(simp only[LnZ];omega))[wrap64,R.len]
 refine IteW.mk (fun hlt=>?_) (fun hge=>?_)
 ·have hlx:i<B.length:=by omega
  have hc:=Fm.ltc_lt hall i (by omega)
  have hv:=Fm.ltv_lt (s:=s) hall i (by omega)
  have e:B.getD i Exq.zero=B[i]:=by simp[hlx]
  have hc1:Fm.ltc B (i+1)=if B[i].kind=2 then Fm.ltc B i ||| 1 <<< B[i].val.toNat else Fm.ltc B i:=by rw[Fm.ltc,e]
  have hv1:Fm.ltv B s (i+1)=if B[i].kind=2∧s.testBit i=true then Fm.ltv B s i ||| 1 <<< B[i].val.toNat else Fm.ltv B s i:=by rw[Fm.ltv,e]
  have hsp:=hB.at hlx
  obtain⟨u,hu,Ru⟩:=R.ld hlx
  change hload _ (some (elp 3 w i)) (some 3)=some u at hu
  obtain⟨wk,rfl,k1,k2,R1⟩:=Rep_Exq.1 Ru
  have hX:=R.X (n:=3) rfl
  have hP:=hld_parts (cs:=[.int .i64 B[i].kind,.int .i64 B[i].val,wk]) hu
  have hlo:=hsp.nd.lo
  have hhi:=hsp.nd.hi
  obtain⟨q,hq⟩:∃q:Nat,B[i].val=q:=⟨_,(Int.toNat_of_nonneg hlo).symm⟩
  have hq3:q<3:=by omega
  have hpl:(0:Int)≤B[i].val:=hlo
  have hsl:shlI .i64 1 (q:Int)=((1 <<< q:Nat):Int):=i64_shl1 (by omega)
  have hs8:=Fm.sh3 hq3
  have huq:IntKind.u64.wrap (q:Int)=q:=u64_pos (by omega) (by omega)
  have hq0:¬(q:Int)<0:=by omega
  have ho1:orI .i64 ((Fm.ltc B i:Nat):Int) ((1 <<< q:Nat):Int)=((Fm.ltc B i ||| 1 <<< q:Nat):Int):=i64_or (by omega) (by omega)
  have ho2:orI .i64 ((Fm.ltv B s i:Nat):Int) ((1 <<< q:Nat):Int)=((Fm.ltv B s i ||| 1 <<< q:Nat):Int):=i64_or (by omega) (by omega)
  rw[hq,Int.toNat_natCast] at hc1 hv1
  by_cases c2:B[i].kind=2
  case neg=>
   rw[if_neg c2] at hc1
   rw[if_neg (fun hh=>c2 hh.1)] at hv1
   simp -implicitDefEqProofs (disch:=first|omega|(simp only[LnZ];omega))[wrap64,hX,hP.1,hP.2.2.1,c2]
   exact hJ _ _ hlx ⟨by simp[hc1,hv1],rfl⟩
  rw[if_pos c2] at hc1
  generalize hA:1 <<< q=A at *
  have hi64:I64 (i:Int):=⟨by omega,by omega⟩
  simp -implicitDefEqProofs (disch:=first|omega|(simp only[LnZ];omega))[wrap64,hX,hP.1,hP.2.2.1,c2,hq,huq,hq0,hsl,ho1]
  refine (c_l6Has hs hi64).go ?_
  rintro _ _ ⟨rfl,rfl⟩
  rw[Fm.has_nat]
  cases hb:s.testBit i with
  | false=>
   rw[if_neg (fun hh=>by rw[hb] at hh; exact absurd hh.2 (by decide))] at hv1
   simp -implicitDefEqProofs (disch:=first|omega|(simp only[LnZ];omega))[wrap64,hb]
   exact hJ _ _ hlx ⟨by simp[hc1,hv1],rfl⟩
  | true=>
   rw[if_pos ⟨c2,hb⟩] at hv1
   simp -implicitDefEqProofs (disch:=first|omega|(simp only[LnZ];omega))[wrap64,hb,hX,hP.1,hP.2.2.1,hq,huq,hq0,hsl,ho2]
   exact hJ _ _ hlx ⟨by simp[hc1,hv1],rfl⟩
 ·obtain rfl:i=B.length:=by omega
  simp -implicitDefEqProofs (disch:=first|omega|(simp only[LnZ];omega))[wrap64]
  exact RetK.keep (hk _ _ ⟨rfl,rfl⟩)
theorem c_l7Untils {h:Heap}{w:Value}{B:List Exq}(hB:Bas B) (R:Rep h w B):CallE Tryz.prog fn_spec_l7Untils [w] h (fun u h'=>HS h [ow u (Fm.unt B B.length)] h'):=by
 have hL:=R.lt
 have hn5:=hB.n5
 refine CallE.gen fun k hk=>EN_spec_l7Untils rfl ?_
 simp -implicitDefEqProofs (disch:=first|omega|(simp only[LnZ];omega))[wrap64]
 refine HS.init.bls0 Int fun o h1 H=>?_
 simp -implicitDefEqProofs (disch:=first|omega|(simp only[LnZ];omega))[wrap64]
 refine wp_count B.length (fun i e h'=>∃o,e=[some w,none,some o,some (.int .i64 i)]∧HS h [ow o (Fm.unt B i)] h') ⟨o,by simp,by simpa[Fm.unt] using H⟩ ?_
 clear H
 rintro J i _ h2 hJ hi ⟨o,rfl,H⟩
 simp -implicitDefEqProofs (disch:=first|omega|(simp only[LnZ];omega))[wrap64,(R.on H).len]
 refine IteW.mk (fun hlt=>?_) (fun hge=>?_)
 ·have hlx:i<B.length:=by omega
  have e:B.getD i Exq.zero=B[i]:=by simp[hlx]
  have hu1:Fm.unt B (i+1)=if B[i].kind=7 then Fm.unt B i++[(i:Int)] else Fm.unt B i:=by rw[Fm.unt,e]
  have hul:=Fm.unt_len (B:=B) i
  obtain⟨u,hu,Ru⟩:=R.ld hlx
  have hu':=hload_le H.base hu
  change hload _ (some (elp 3 w i)) (some 3)=some u at hu'
  obtain⟨wk,rfl,k1,k2,R1⟩:=Rep_Exq.1 Ru
  have hX:=R.X (n:=3) rfl
  have hP:=hld_parts (cs:=[.int .i64 B[i].kind,.int .i64 B[i].val,wk]) hu'
  by_cases c7:B[i].kind=7
  ·rw[if_pos c7] at hu1
   simp -implicitDefEqProofs (disch:=first|omega|(simp only[LnZ];omega))[wrap64,hX,hP.1,hP.2.2.1,c7]
   refine HS.app1 (bytes:=8) H (i:Int) rfl rfl rfl ⟨by omega,by omega⟩ rfl rfl (by omega) (by omega) fun o' h3 H=>?_
   simp -implicitDefEqProofs (disch:=first|omega|(simp only[LnZ];omega))[wrap64]
   exact hJ _ _ hlx ⟨o',by simp,by rw[hu1]; exact H⟩
  ·rw[if_neg c7] at hu1
   simp -implicitDefEqProofs (disch:=first|omega|(simp only[LnZ];omega))[wrap64,hX,hP.1,hP.2.2.1,c7]
   exact hJ _ _ hlx ⟨o,by simp,by rw[hu1]; exact H⟩
 ·obtain rfl:i=B.length:=by omega
  simp -implicitDefEqProofs (disch:=first|omega|(simp only[LnZ];omega))[wrap64]
  exact RetK.keep (hk _ _ H)
theorem c_l7Phase {h:Heap}{w v:Value}{B:List Exq}{s:Nat}{p:Int}(hB:Bas B) (hs:s<4611686018427387904) (R:Rep h w B) (RU:Rep h v (Fm.unt B B.length)) (hp:Fm.POk (Fm.unt B B.length) p) :
  CallE Tryz.prog fn_spec_l7Phase [w,v,.int .i64 s,.int .i64 p] h (fun u h'=>h'=h∧u=.tuple #[.int .i64 (Fm.phs B (Fm.unt B B.length) s p).1,.bool (Fm.phs B (Fm.unt B B.length) s p).2]):=by
 have hul:=Fm.unt_len (B:=B) B.length
 have hum:∀{u:Int},u∈Fm.unt B B.length→_:=fun h=>Fm.unt_mem h
 have hn5:=hB.n5
 refine CallE.gen fun k hk=>EN_spec_l7Phase rfl ?_
 unfold Fm.phs at hk
 generalize Fm.unt B B.length=U at *
 by_cases q0:U.length=0
 ·rw[if_pos q0] at hk
  have q0':U=[]:=List.length_eq_zero_iff.1 q0
  simp -implicitDefEqProofs (disch:=first|omega|(simp only[LnZ];omega))[wrap64,RU.len,q0,q0']
  exact RetK.keep (hk _ _ ⟨rfl,rfl⟩)
 rw[if_neg q0] at hk
 have q0':¬U=[]:=fun e=>q0 (by rw[e]; rfl)
 have q0i:¬(U.length:Int)=0:=by omega
 obtain⟨n,rfl⟩:∃n:Nat,p=n:=⟨p.toNat,(Int.toNat_of_nonneg hp.1).symm⟩
 have hnU:n<U.length:=by have:=hp.2; omega
 obtain⟨m,hm1,hm2,hm3⟩:=hum (List.getElem_mem hnU)
 have e1:U.getD (n:Int).toNat 0=(m:Int):=by rw[Int.toNat_natCast,List.getD_eq_getElem?_getD,List.getElem?_eq_getElem hnU,← hm1]; rfl
 have hm3':B[m].kind=7:=by rw[← hm3]; simp[hm2]
 rw[e1] at hk
 have hRU:=RU.I
 simp -implicitDefEqProofs (disch:=first|omega|(simp only[LnZ];omega))[wrap64,RU.len,q0,q0',q0i,hRU,hm1]
 refine (c_l7Fulfils hB hs hm2 hm3' R).go ?_
 rintro _ _ ⟨rfl,rfl⟩
 cases hf:Fm.ful B s m with
 | true=>
  rw[hf] at hk
  simp -implicitDefEqProofs (disch:=first|omega|(simp only[LnZ];omega))[wrap64,hf,RU.len,q0i,q0']
  exact RetK.keep (hk _ _ ⟨rfl,by simp⟩)
 | false=>
  rw[hf] at hk
  simp -implicitDefEqProofs (disch:=first|omega|(simp only[LnZ];omega))[wrap64,hf]
  exact RetK.keep (hk _ _ ⟨rfl,by simp⟩)
theorem c_l2IntsM {h:Heap}{a b:Value}{x y:List Int}(Ra:Rep h a x) (Rb:Rep h b y):CallE Tryz.prog fn_spec_l2Ints [a,b] h (fun u h'=>h'=h∧u=.bool (decide (x=y))):=by
 have hL:=Ra.lt
 refine CallE.gen fun k hk=>EN_spec_l2Ints rfl ?_
 by_cases hl:(x.length:Int)=y.length
 case neg=>
  simp -implicitDefEqProofs (disch:=first|omega|(simp only[LnZ];omega))[wrap64,Ra.len,Rb.len,hl]
  exact RetK.keep (hk _ _ ⟨rfl,by congr 1; rw[eq_comm,decide_eq_false_iff_not]; intro e; subst e; exact hl rfl⟩)
 simp -implicitDefEqProofs (disch:=first|omega|(simp only[LnZ];omega))[wrap64,Ra.len,Rb.len,hl]
 refine wp_count x.length (fun i e h'=>e=[some a,some b,none,some (.int .i64 i)]∧h'=h∧x.take i=y.take i) ⟨by simp,rfl,rfl⟩ ?_
 rintro J i _ h1 hJ hi ⟨rfl,rfl,hq⟩
 simp -implicitDefEqProofs (disch:=first|omega|(simp only[LnZ];omega))[wrap64,Ra.len]
 refine IteW.mk (fun hlt=>?_) (fun hge=>?_)
 ·have hlx:i<x.length:=by omega
  have hly:i<y.length:=by omega
  by_cases he:x[i]=y[i]
  ·simp -implicitDefEqProofs (disch:=first|omega|(simp only[LnZ];omega))[wrap64,Ra.I,Rb.I,he]
   exact hJ _ _ hlx ⟨rfl,rfl,take_step hq hlx hly he⟩
  ·simp -implicitDefEqProofs (disch:=first|omega|(simp only[LnZ];omega))[wrap64,Ra.I,Rb.I,he]
   exact RetK.keep (hk _ _ ⟨rfl,by congr 1; rw[eq_comm,decide_eq_false_iff_not]; intro e; subst e; exact he rfl⟩)
 ·simp -implicitDefEqProofs (disch:=first|omega|(simp only[LnZ];omega))[wrap64]
  rw[List.take_of_length_le (by omega),List.take_of_length_le (by omega)] at hq
  exact RetK.keep (hk _ _ ⟨rfl,by simp[hq]⟩)
theorem c_l7Pair {g h:Heap}{Γ:List HP}{v w:Value}{L:List (List Int)}{p:List Int}(H:HS g (ow w p::ow v L::Γ) h) (hl:L.length≤1048576):CallE Tryz.prog fn_spec_l7Pair [v,w] h (fun u h'=>∃v',u=.tuple #[v',.int .i64 (Fm.atL L p)]∧HS g (ow v' (Fm.adL L p)::Γ) h'):=by
 have RL:=H.sw1.rep
 have Rp:=H.rep
 refine CallE.gen fun k hk=>EN_spec_l7Pair rfl ?_
 simp -implicitDefEqProofs (disch:=first|omega|(simp only[LnZ];omega))[wrap64]
 refine wp_count L.length (fun i e h'=>e=[some v,some w,none,none,some (.int .i64 i)]∧h'=h∧∀(j:Nat) (hj:j<L.length),j<i→L[j]≠p) ⟨by simp,rfl,fun j _ hj=>absurd hj (Nat.not_lt_zero j)⟩ ?_
 rintro J i _ h hJ hi ⟨rfl,rfl,hn⟩
 simp -implicitDefEqProofs (disch:=first|omega|(simp only[LnZ];omega))[wrap64,RL.len]
 refine IteW.mk (fun hlt=>?_) (fun hge=>?_)
 ·have hlx:i<L.length:=by omega
  obtain⟨u,hu,Ru⟩:=RL.ldL hlx
  simp -implicitDefEqProofs (disch:=first|omega|(simp only[LnZ];omega))[wrap64,RL.X (n:=1) rfl,hu]
  refine (c_l2IntsM Ru Rp).go ?_
  rintro _ h ⟨rfl,rfl⟩
  by_cases e:L[i]=p
  ·simp -implicitDefEqProofs (disch:=first|omega|(simp only[LnZ];omega))[wrap64,e]
   have hm:p∈L:=e ▸ List.getElem_mem hlx
   exact RetK.keep (hk _ _ ⟨v,by rw[Fm.atL_at hlx e hn],by rw[Fm.adL,if_pos hm]; exact H.drop⟩)
  ·simp -implicitDefEqProofs (disch:=first|omega|(simp only[LnZ];omega))[wrap64,e]
   refine hJ _ _ hlx ⟨by simp,rfl,fun j hj hji=>?_⟩
   by_cases hji2:j=i
   ·subst hji2; exact e
   ·exact hn j hj (by omega)
 ·have hm:p∉L:=fun hm=>by
   obtain⟨j,hj,h1⟩:=List.mem_iff_getElem.1 hm
   exact hn j hj (by omega) h1
  have hcl:=Rp.cells
  simp -implicitDefEqProofs (disch:=first|omega|(simp only[LnZ];omega))[wrap64,setC,hcl,Rp.one,RL.len]
  refine HS.appO (bytes:=24) H rfl rfl (by rw[hcl]) rfl rfl (by omega) (by omega) fun v' h2 H=>?_
  simp -implicitDefEqProofs (disch:=first|omega|(simp only[LnZ];omega))[wrap64,RL.len]
  exact RetK.keep (hk _ _ ⟨v',by rw[Fm.atL_not hm],by rw[Fm.adL,if_neg hm]; exact H⟩)
end Go.Proofs.YtbanccfdojgocaaGreat

namespace Go.Proofs.YtbanccfdojgocaaGreat
open Go
theorem zero_Aut {g h:Heap}{Γ:List HP}(H:HS g Γ h):HS g (ow (.agg #[.slice none 0 0,.slice none 0 0,.slice none 0 0]) (⟨[],[],[]⟩:Aut)::Γ) h:=HS.mkAut (a:=⟨[],[],[]⟩) H.nil_ow.nil_ow.nil_ow
theorem p2le {n:Nat}(h:n≤5):2 ^ n≤32:=Nat.pow_le_pow_right (n:=2) (by omega) h
set_option maxHeartbeats 2000000 in
theorem c_spec_TranslateFormula {h:Heap}{v:Value}{x:Exq}(R:Rep h v x):CallE Tryz.prog fn_spec_TranslateFormula [v] h (fun u h'=>∃w,u=.tuple #[w,.bool (decide (Fm.trOk x))]∧HS h [ow w (Fm.trR x)] h'):=by
 have FX:=R.aExq
 have hno:∀{h'},h.le h'→¬Fm.trOk x→HS h [ow (.agg #[.slice none 0 0,.slice none 0 0,.slice none 0 0]) (Fm.trR x)] h':=fun hl hn=>by
  rw[Fm.trR,if_neg hn]
  exact zero_Aut (Γ:=[]) hl
 refine CallE.gen fun k hk=>EN_spec_TranslateFormula rfl ?_
 simp -implicitDefEqProofs (disch:=first|omega|(simp only[LnZ];omega))[wrap64,FX]
 refine (c_spec_BasicFormulas R).go ?_
 rintro _ h1 ⟨w,rfl,l1,RB⟩
 by_cases q1:Fm.bOk x
 case neg=>
  simp -implicitDefEqProofs (disch:=first|omega|(simp only[LnZ];omega))[wrap64,q1,setC]
  exact RetK.keep (hk _ _ ⟨_,by rw[decide_eq_false (fun hh=>q1 hh.1)],hno l1 (fun hh=>q1 hh.1)⟩)
 rw[Fm.basR,if_pos q1] at RB
 simp -implicitDefEqProofs (disch:=first|omega|(simp only[LnZ];omega))[wrap64,q1,FX]
 refine (c_spec_NormalForm (R.le l1)).go ?_
 rintro _ h2 ⟨gu,rfl,H⟩
 rw[Fm.nfR,if_pos q1.1] at H
 have hB:Bas (Fm.basics x):=⟨q1.2,Fm.basics_ok q1⟩
 have hgs:=q1.1.2.1
 have FG:=H.rep.aExq
 have hTA:Fm.trT x=Fm.tN (Fm.basics x) (Fm.unt (Fm.basics x) (Fm.basics x).length) (Fm.ini0 (Fm.basics x) (Fm.push x false) (2 ^ (Fm.basics x).length)) 64:=rfl
 have hTr:Fm.trA x=⟨Fm.upto (Fm.ini0 (Fm.basics x) (Fm.push x false) (2 ^ (Fm.basics x).length)).length,if (Fm.trT x).1=[] then [false] else (Fm.trT x).2.1,(Fm.trT x).2.2⟩:=rfl
 have hTO:Fm.trOk x↔(Fm.trT x).1.length≤64:=⟨fun hh=>hh.2,fun hh=>⟨q1,hh⟩⟩
 have RB:=RB.on H
 have RG:=H.rep
 have l2:=l1.trans H.base
 clear H
 generalize Fm.basics x=B at *
 generalize Fm.push x false=G at *
 have hn5:=hB.n5
 have hc32:=p2le hn5
 have hc1:0<2 ^ B.length:=Nat.two_pow_pos _
 have hcnt:shlI .i64 1 (B.length:Int)=((2 ^ B.length:Nat):Int):=by rw[i64_shl1 (by omega),Nat.shiftLeft_eq,Nat.one_mul]
 have hcw:IntKind.u64.wrap (B.length:Int)=B.length:=u64_pos (by omega) (by omega)
 have hcw0:¬(B.length:Int)<0:=by omega
 obtain⟨c,hcd⟩:∃c:Nat,c=2 ^ B.length:=⟨_,rfl⟩
 simp -implicitDefEqProofs (disch:=first|omega|(simp only[LnZ];omega))[wrap64,FG,setC,RB.len,hcw,hcw0,hcnt]
 refine (c_l7Untils hB RB).go ?_
 intro un h3 H
 have RB:=RB.on H
 have RG:=RG.on H
 have RU:=H.rep
 have l3:=l2.trans H.base
 clear H
 simp -implicitDefEqProofs (disch:=first|omega|(simp only[LnZ];omega))[wrap64,setC]
 refine (HS.init (h:=h3)).bls0 (List Int) fun o h4 H=>?_
 simp -implicitDefEqProofs (disch:=first|omega|(simp only[LnZ];omega))[wrap64]
 rw[← hcd] at hc32 hc1 hTA hTr
 refine wp_count c (fun s e h'=>∃(li ls:Value),e=[none,none,some (.agg #[.slice none 0 0,.slice none 0 0,.slice none 0 0]),none,some w,none,some gu,some (.int .i64 c),some un,some (.agg #[li,.slice none 0 0,.slice none 0 0]),some ls,some (.int .i64 s),none,none,none,none,none,none,none,none]∧HS h3 [ow li (Fm.upto (Fm.ini0 B G s).length),ow ls (Fm.ini0 B G s)] h') ⟨.slice none 0 0,o,by simp[hcd],by simpa[Fm.ini0,Fm.upto] using H.nil_ow (α:=Int)⟩ ?_
 clear H
 rintro J s _ h5 hJ hs ⟨li,ls,rfl,H⟩
 simp -implicitDefEqProofs (disch:=first|omega|(simp only[LnZ];omega))[wrap64]
 refine IteW.mk (fun hlt0=>?_) (fun hge0=>?_)
 ·have hsc:s<c:=by omega
  have hil:=Fm.ini0_len (B:=B) (g:=G) s
  have hi1:Fm.ini0 B G (s+1)=if Fm.val B s G then Fm.ini0 B G s++[[(s:Int),0]] else Fm.ini0 B G s:=rfl
  simp -implicitDefEqProofs (disch:=first|omega|(simp only[LnZ];omega))[wrap64,FG]
  refine (c_l7Value 6 (by omega) hgs (RB.on H) (RG.on H)).go ?_
  rintro _ _ ⟨rfl,rfl⟩
  generalize Fm.ini0 B G s=L at *
  cases hv:Fm.val B s G with
  | false=>
   rw[hv,if_neg (by decide)] at hi1
   simp -implicitDefEqProofs (disch:=first|omega|(simp only[LnZ];omega))[wrap64,hv]
   exact hJ _ _ hsc ⟨li,ls,by simp,by rw[hi1]; exact H⟩
  | true=>
   rw[hv,if_pos rfl] at hi1
   simp -implicitDefEqProofs (disch:=first|omega|(simp only[LnZ];omega))[wrap64,hv,H.sw1.rep.len,setC]
   refine HS.app1 (bytes:=8) H (L.length:Int) rfl rfl rfl ⟨by omega,by omega⟩ rfl rfl (by simp[Fm.upto]; omega) (by simp[Fm.upto]; omega) fun li' h6 H=>?_
   simp -implicitDefEqProofs (disch:=first|omega|(simp only[LnZ];omega))[wrap64,setC,H.rep.cells,H.rep.one]
   refine H.bls [(s:Int),0] rfl rfl (by intro y hy; simp at hy; rcases hy with rfl | rfl <;> exact⟨by omega,by omega⟩) (by decide) fun p h7 H=>?_
   simp -implicitDefEqProofs (disch:=first|omega|(simp only[LnZ];omega))[wrap64,setC,H.rep.cells,H.rep.one]
   have hcl:=H.rep.cells
   refine HS.appO (bytes:=24) H.sw2.sw1 rfl rfl (by rw[hcl]) rfl rfl (by omega) (by omega) fun ls' h8 H=>?_
   simp -implicitDefEqProofs (disch:=first|omega|(simp only[LnZ];omega))[wrap64]
   refine hJ _ _ hsc ⟨li',ls',by simp,?_⟩
   rw[hi1,List.length_append,List.length_singleton,Fm.upto_succ]
   exact H.sw1
 obtain rfl:s=c:=by omega
 obtain⟨L0,hL0⟩:∃L0,L0=Fm.ini0 B G s:=⟨_,rfl⟩
 obtain⟨U,hU⟩:∃U,U=Fm.unt B B.length:=⟨_,rfl⟩
 have hl0:=Fm.ini0_len (B:=B) (g:=G) s
 have hk0:Fm.LOk2 s U (Fm.ini0 B G s):=Fm.ini0_ok (Nat.le_refl _)
 have RU':=RU
 rw[← hL0] at H hTA hTr hl0 hk0
 rw[← hU] at hTA RU'
 have INV:=fun n=>Fm.tN_inv (U:=U) (hcd ▸ hk0) (hcd ▸ hl0) n
 simp -implicitDefEqProofs (disch:=first|omega|(simp only[LnZ];omega))[wrap64]
 refine wp_count 65 (fun i e h'=>∃(ac ed ls:Value),e=[none,none,some (.agg #[.slice none 0 0,.slice none 0 0,.slice none 0 0]),none,some w,none,none,some (.int .i64 s),some un,some (.agg #[li,ac,ed]),some ls,none,some (.int .i64 i),none,none,none,none,none,none,none] ∧
  HS h3 [ow ls (Fm.tN B U L0 i).1,ow ac (Fm.tN B U L0 i).2.1,ow ed (Fm.tN B U L0 i).2.2,ow li (Fm.upto L0.length)] h'∧i≤64∧∀m,m<i→m<(Fm.tN B U L0 m).1.length∧(Fm.tN B U L0 m).1.length≤64) ⟨.slice none 0 0,.slice none 0 0,ls,by simp,by simpa[Fm.tN] using (H.nil_ow (α:=Tr)).nil_ow.sw3,by omega,fun m hm=>absurd hm (Nat.not_lt_zero m)⟩ ?_
 clear H
 rintro J1 i _ h6 hJ1 hi1 ⟨ac,ed,ls,rfl,H,hi64,hall⟩
 have inv:=INV i
 have hal:=Fm.tN_al i hall
 by_cases q2:i<(Fm.tN B U L0 i).1.length
 case neg=>
  have hT:Fm.trT x=Fm.tN B U L0 i:=by rw[hTA]; exact Fm.tN_stop (fun hh=>q2 hh.1) 64 hi64
  have hok:Fm.trOk x:=hTO.2 (by rw[hT]; omega)
  have hge:=inv.al.2
  rw[hT] at hTr
  have hTR:Fm.trR x=Fm.trA x:=by rw[Fm.trR,if_pos hok]
  by_cases q3:(Fm.tN B U L0 i).1=[]
  ·rw[if_pos q3] at hTr
   simp -implicitDefEqProofs (disch:=first|omega|(simp only[LnZ];omega))[wrap64,H.rep.len,q2,q3,show ¬((i:Int)<0) by omega]
   refine H.bls [false] rfl rfl (by intro _ _; trivial) (by decide) fun fc h7 H=>?_
   simp -implicitDefEqProofs (disch:=first|omega|(simp only[LnZ];omega))[wrap64,setC,H.rep.cells,H.rep.one,H.sw3.rep.one,H.sw4.rep.one,H.sw3.rep.cells,H.sw4.rep.cells]
   refine RetK.keep (hk _ _ ⟨_,by rw[decide_eq_true hok],?_⟩)
   rw[hTR,hTr]
   have H2:HS h3 [ow li (Fm.upto L0.length),ow fc [false],ow ed (Fm.tN B U L0 i).2.2] h7:=((H.sw4.under fun _ H=>H.under fun _ H=>H.drop.drop))
   exact HS.app (Γ:=[]) (HS.mkAut (a:=⟨_,_,_⟩) H2) l3
  ·rw[if_neg q3] at hTr
   have q3':¬((Fm.tN B U L0 i).1.length:Int)=0:=fun e=>q3 (List.length_eq_zero_iff.1 (by omega))
   simp -implicitDefEqProofs (disch:=first|omega|(simp only[LnZ];omega))[wrap64,H.rep.len,q2,q3,q3',setC,H.sw1.rep.one,H.sw2.rep.one,H.sw3.rep.one]
   refine RetK.keep (hk _ _ ⟨_,by rw[decide_eq_true hok],?_⟩)
   rw[hTR,hTr]
   have H2:HS h3 [ow li (Fm.upto L0.length),ow ac (Fm.tN B U L0 i).2.1,ow ed (Fm.tN B U L0 i).2.2] h6:=((H.drop.sw2))
   exact HS.app (Γ:=[]) (HS.mkAut (a:=⟨_,_,_⟩) H2) l3
 by_cases q3:64<(Fm.tN B U L0 i).1.length
 ·have hok:¬Fm.trOk x:=fun hh=>by
   have:=hTO.1 hh
   have h2:=Fm.tN_big q3 64 hi64
   rw[hTA] at this
   omega
  have q3i:(64:Int)<(Fm.tN B U L0 i).1.length:=by omega
  simp -implicitDefEqProofs (disch:=first|omega|(simp only[LnZ];omega))[wrap64,H.rep.len,q2,q3i,setC]
  exact RetK.keep (hk _ _ ⟨_,by rw[decide_eq_false hok],hno (l3.trans H.base) hok⟩)
 have q3i:¬(64:Int)<(Fm.tN B U L0 i).1.length:=by omega
 obtain⟨s',p,he,hs',hp⟩:=inv.ok _ (List.getElem_mem q2)
 rw[← hcd] at hs'
 have hsucc:=Fm.tN_succ q2 (by omega) he
 have hinv1:=inv.al
 have hinv2:=inv.el
 have hinv3:=inv.ok
 have hinv4:=inv.ll
 rw[← hcd] at hsucc hinv2 hinv3 hinv4
 have hpo:=Fm.phs_ok (B:=B) (s:=s') hp
 have hpR:=fun n hn=>Fm.trow_inv (B:=B) (U:=U) (c:=s) (i:=i) (s:=s') (q:=((Fm.tN B U L0 i).1,(Fm.tN B U L0 i).2.2)) hinv3 hpo n hn
 have hl65:(Fm.tN B U L0 i).1.length≤64:=by omega
 generalize hT:Fm.tN B U L0 i=T at *
 obtain⟨row,hrow,Rrow⟩:=H.rep.ldL q2
 rw[he] at Rrow
 have hRI:=Rrow.I
 simp only[List.length_cons,List.length_nil] at hRI
 have hr0:=hRI.2 0 (by omega)
 have hr1:=hRI.2 1 (by omega)
 simp only[List.getElem_cons_zero,List.getElem_cons_succ] at hr0 hr1
 have hX:=H.rep.X (n:=1) rfl
 simp -implicitDefEqProofs (disch:=first|omega|(simp only[LnZ];omega))[wrap64,H.rep.len,q2,q3i,hX,hrow,hRI.1,hr0,hr1]
 refine (c_l7Phase hB (by omega) (RB.on H) (RU.on H) (hU ▸ hp)).go ?_
 rintro _ h6 ⟨rfl,rfl⟩
 rw[← hU]
 obtain⟨p',a',hph⟩:∃p' a',Fm.phs B U s' p=(p',a'):=⟨_,_,rfl⟩
 rw[hph] at hsucc hpo hpR ⊢
 simp only at hsucc hpo hpR
 have hp64:I64 p':=by
  have h1:=hpo.1
  have h2:=hpo.2
  have h3:U.length≤B.length:=hU ▸ Fm.unt_len B.length
  exact⟨by omega,by omega⟩
 simp -implicitDefEqProofs (disch:=first|omega|(simp only[LnZ];omega))[wrap64,setC]
 refine HS.app1 (bytes:=1) H.sw1 a' rfl rfl rfl trivial rfl rfl (by omega) (by omega) fun ac' h7 H=>?_
 simp -implicitDefEqProofs (disch:=first|omega|(simp only[LnZ];omega))[wrap64,setC,H.rep.cells,H.rep.one]
 refine (c_l7Letter hB (by omega) (RB.on H)).go ?_
 rintro _ h7 ⟨rfl,rfl⟩
 have hall6:∀y∈B,Fm.Shp 6 y:=fun y hy=>(hB.ok y hy).1
 have hcl8:=Fm.ltc_lt hall6 B.length (Nat.le_refl _)
 have hvl8:=Fm.ltv_lt (s:=s') hall6 B.length (Nat.le_refl _)
 simp -implicitDefEqProofs (disch:=first|omega|(simp only[LnZ];omega))[wrap64]
 refine wp_count s (fun t e h'=>∃(ed ls:Value),e=[none,none,some (.agg #[.slice none 0 0,.slice none 0 0,.slice none 0 0]),none,some w,none,none,some (.int .i64 s),some un,some (.agg #[li,ac',ed]),some ls,none,some (.int .i64 i),some (.int .i64 s'),some (.int .i64 p'),none,some (.int .i64 ((Fm.ltc B B.length:Nat):Int)),some (.int .i64 ((Fm.ltv B s' B.length:Nat):Int)),some (.int .i64 t),none] ∧
  HS h3 [ow ls (Fm.trow B i s' p' t (T.1,T.2.2)).1,ow ed (Fm.trow B i s' p' t (T.1,T.2.2)).2,ow ac' (T.2.1++[a']),ow li (Fm.upto L0.length)] h') ⟨ed,ls,by simp,by simpa[Fm.trow] using H.sw1.sw2.sw1⟩ ?_
 clear H
 rintro J2 t _ h8 hJ2 ht ⟨ed,ls,rfl,H⟩
 simp -implicitDefEqProofs (disch:=first|omega|(simp only[LnZ];omega))[wrap64]
 refine IteW.mk (fun hlt2=>?_) (fun hge2=>?_)
 ·have hts:t<s:=by omega
  have hrow1:Fm.trow B i s' p' (t+1) (T.1,T.2.2)=if Fm.Fol B s' t then (Fm.adL (Fm.trow B i s' p' t (T.1,T.2.2)).1 [(t:Int),p'],(Fm.trow B i s' p' t (T.1,T.2.2)).2++[⟨(i:Int),(Fm.ltc B B.length:Nat),(Fm.ltv B s' B.length:Nat),Fm.atL (Fm.trow B i s' p' t (T.1,T.2.2)).1 [(t:Int),p']⟩]) else Fm.trow B i s' p' t (T.1,T.2.2):=rfl
  have I:=hpR t (by omega)
  have i1:=I.le
  have i2:=I.el
  simp only at i1 i2
  have hmul:i*s≤64*32:=Nat.mul_le_mul hi64 hc32
  have hat:=Fm.atL_lt (L:=(Fm.trow B i s' p' t (T.1,T.2.2)).1) (p:=[(t:Int),p'])
  have had:=Fm.adL_len (L:=(Fm.trow B i s' p' t (T.1,T.2.2)).1) (p:=[(t:Int),p'])
  generalize Fm.trow B i s' p' t (T.1,T.2.2)=Q at *
  simp -implicitDefEqProofs (disch:=first|omega|(simp only[LnZ];omega))[wrap64]
  refine (c_l7Follows (s:=s') (t:=t) hB (by omega) (by omega) (RB.on H)).go ?_
  rintro _ h8 ⟨rfl,rfl⟩
  by_cases hf:Fm.Fol B s' t
  case neg=>
   rw[if_neg hf] at hrow1
   simp -implicitDefEqProofs (disch:=first|omega|(simp only[LnZ];omega))[wrap64,hf]
   exact hJ2 _ _ hts ⟨ed,ls,by simp,by rw[hrow1]; exact H⟩
  rw[if_pos hf] at hrow1
  simp -implicitDefEqProofs (disch:=first|omega|(simp only[LnZ];omega))[wrap64,hf]
  refine H.bls [(t:Int),p'] rfl rfl (by intro y hy; simp at hy; rcases hy with rfl | rfl; exact⟨by omega,by omega⟩; exact hp64) (by decide) fun q h9 H=>?_
  simp -implicitDefEqProofs (disch:=first|omega|(simp only[LnZ];omega))[wrap64]
  refine (c_l7Pair H (by omega)).go ?_
  rintro _ h10 ⟨ls',rfl,H⟩
  simp -implicitDefEqProofs (disch:=first|omega|(simp only[LnZ];omega))[wrap64,setC]
  refine HS.app1 (bytes:=32) H.sw1 (⟨(i:Int),(Fm.ltc B B.length:Nat),(Fm.ltv B s' B.length:Nat),Fm.atL Q.1 [(t:Int),p']⟩:Tr) rfl rfl rfl ?_ rfl rfl (by omega) (by omega) fun ed' h11 H=>?_
  ·exact Tr.ok_iff.2 ⟨⟨by simp only; omega,by simp only; omega⟩,⟨by simp only; omega,by simp only; omega⟩,⟨by simp only; omega,by simp only; omega⟩,⟨by simp only; omega,by simp only; omega⟩⟩
  simp -implicitDefEqProofs (disch:=first|omega|(simp only[LnZ];omega))[wrap64,setC,H.rep.cells,H.rep.one]
  exact hJ2 _ _ hts ⟨ed',ls',by simp,by rw[hrow1]; exact H.sw1⟩
 obtain rfl:t=s:=by omega
 simp -implicitDefEqProofs (disch:=first|omega|(simp only[LnZ];omega))[wrap64]
 refine hJ1 _ _ (by omega) ⟨ac',ed,ls,by simp,?_,by omega,fun m hm=>?_⟩
 ·rw[hsucc]
  exact H.under fun _ H=>H.sw1
 ·by_cases e:m=i
  ·subst e; rw[hT]; exact⟨q2,hl65⟩
  ·exact hall m (by omega)
end Go.Proofs.YtbanccfdojgocaaGreat

namespace Go.Proofs.YtbanccfdojgocaaGreat
open Go
theorem okL {xs:List Int}(h:∀x∈xs,-9223372036854775808≤x∧x<9223372036854775808):∀x∈xs,Flat.ok x:=h
theorem nods_append:∀{l l2:List Exq},Exq.nods (l++l2)=Exq.nods l+Exq.nods l2
 | [],_=>by simp[Exq.nods]
 | x::l,l2=>by simp[Exq.nods,nods_append (l:=l) (l2:=l2)]; omega
theorem c_l5Random {b:Nat}{sl:Value}{l:List (BitVec 8)}:∀(d:Nat),d≤4→∀{g h:Heap}{Γ:List HP}{p:Int},Rep g sl l→HS g (rb b sl p::Γ) h→0≤p→p+4*(2 ^ d:Nat)≤1000000000000 →
  CallE Tryz.prog fn_spec_l5Random [.pointer (some ⟨b,0,none⟩),.int .i64 d] h (fun u h'=>∃(y:Exq) (p':Int),HS g (ow u y::rb b sl p'::Γ) h'∧y.nod<2 ^ (d+1)∧p≤p'∧p'≤p+(4*(2 ^ d:Nat)-2)):=by
 intro d
 induction d with
 | zero=>
  intro _ g h Γ p R H hp hp2
  refine CallE.gen fun k hk=>EN_spec_l5Random rfl ?_
  simp -implicitDefEqProofs (disch:=first|omega|(simp only[LnZ];omega))[wrap64]
  refine (c_pick R H (by omega) (by omega) ⟨by decide,by decide⟩).go ?_
  rintro _ hL1 ⟨r1,rfl,o1,z1,y1,H⟩
  by_cases c1:r1=0
  ·simp -implicitDefEqProofs (disch:=first|omega|(simp only[LnZ];omega))[wrap64,c1]
   refine c_l5True.go ?_
   rintro _ hL2 ⟨rfl,rfl⟩
   simp -implicitDefEqProofs (disch:=first|omega|(simp only[LnZ];omega))[wrap64,setC]
   exact RetK.keep (hk _ _ ⟨Exq.mk 1 0 [],_,H.leaf i64c i64c,by simp[Exq.nod,Exq.nods] <;> omega,by omega,by omega⟩)
  ·simp -implicitDefEqProofs (disch:=first|omega|(simp only[LnZ];omega))[wrap64,c1]
   refine H.bls [(0:Int),1,0,2] rfl rfl (okL (by decide)) (by decide) fun v hL2 H=>?_
   simp -implicitDefEqProofs (disch:=first|omega|(simp only[LnZ];omega))[wrap64]
   refine (c_num R H (by omega) (by omega) (by simp)).go ?_
   rintro _ hL3 ⟨r2,rfl,o2,_,H⟩
   simp -implicitDefEqProofs (disch:=first|omega|(simp only[LnZ];omega))[wrap64,setC]
   exact RetK.keep (hk _ _ ⟨Exq.mk 2 r2 [],_,H.leaf i64c o2,by simp[Exq.nod,Exq.nods] <;> omega,by omega,by omega⟩)
 | succ d ih=>
  intro hd g h Γ p R H hp hp2
  have hq0:2 ^ (d+1)=2*2 ^ d:=by rw[Nat.pow_succ]; omega
  have hq1:2 ^ (d+1+1)=4*2 ^ d:=by rw[Nat.pow_succ,Nat.pow_succ]; omega
  have hqp:0<2 ^ d:=Nat.two_pow_pos d
  refine CallE.gen fun k hk=>EN_spec_l5Random rfl ?_
  rw[hq0,hq1] at hk
  rw[hq0] at ih
  generalize hQ:2 ^ d=q at *
  by_cases h2:d=0
  ·simp -implicitDefEqProofs (disch:=first|omega|(simp only[LnZ];omega))[wrap64,h2]
   refine (c_pick R H (by omega) (by omega) ⟨by decide,by decide⟩).go ?_
   rintro _ hL1 ⟨r1,rfl,o1,z1,y1,H⟩
   by_cases c1:r1=0
   ·simp -implicitDefEqProofs (disch:=first|omega|(simp only[LnZ];omega))[wrap64,c1]
    refine c_l5True.go ?_
    rintro _ hL2 ⟨rfl,rfl⟩
    simp -implicitDefEqProofs (disch:=first|omega|(simp only[LnZ];omega))[wrap64,setC]
    exact RetK.keep (hk _ _ ⟨Exq.mk 1 0 [],_,H.leaf i64c i64c,by simp[Exq.nod,Exq.nods] <;> omega,by omega,by omega⟩)
   ·simp -implicitDefEqProofs (disch:=first|omega|(simp only[LnZ];omega))[wrap64,c1]
    refine H.bls [(0:Int),1,0,2] rfl rfl (okL (by decide)) (by decide) fun v hL2 H=>?_
    simp -implicitDefEqProofs (disch:=first|omega|(simp only[LnZ];omega))[wrap64]
    refine (c_num R H (by omega) (by omega) (by simp)).go ?_
    rintro _ hL3 ⟨r2,rfl,o2,_,H⟩
    simp -implicitDefEqProofs (disch:=first|omega|(simp only[LnZ];omega))[wrap64,setC]
    exact RetK.keep (hk _ _ ⟨Exq.mk 2 r2 [],_,H.leaf i64c o2,by simp[Exq.nod,Exq.nods] <;> omega,by omega,by omega⟩)
  ·have h3:¬((d:Int)+1<2):=by omega
   simp -implicitDefEqProofs (disch:=first|omega|(simp only[LnZ];omega))[wrap64,h3]
   refine (c_pick R H (by omega) (by omega) ⟨by decide,by decide⟩).go ?_
   rintro _ h1 ⟨r0,rfl,o0,z0,y0,H⟩
   by_cases c0:r0=0
   ·simp -implicitDefEqProofs (disch:=first|omega|(simp only[LnZ];omega))[wrap64,c0]
    refine (c_pick R H (by omega) (by omega) ⟨by decide,by decide⟩).go ?_
    rintro _ hL1 ⟨r1,rfl,o1,z1,y1,H⟩
    by_cases c1:r1=0
    ·simp -implicitDefEqProofs (disch:=first|omega|(simp only[LnZ];omega))[wrap64,c1]
     refine c_l5True.go ?_
     rintro _ hL2 ⟨rfl,rfl⟩
     simp -implicitDefEqProofs (disch:=first|omega|(simp only[LnZ];omega))[wrap64,setC]
     exact RetK.keep (hk _ _ ⟨Exq.mk 1 0 [],_,H.leaf i64c i64c,by simp[Exq.nod,Exq.nods] <;> omega,by omega,by omega⟩)
    ·simp -implicitDefEqProofs (disch:=first|omega|(simp only[LnZ];omega))[wrap64,c1]
     refine H.bls [(0:Int),1,0,2] rfl rfl (okL (by decide)) (by decide) fun v hL2 H=>?_
     simp -implicitDefEqProofs (disch:=first|omega|(simp only[LnZ];omega))[wrap64]
     refine (c_num R H (by omega) (by omega) (by simp)).go ?_
     rintro _ hL3 ⟨r2,rfl,o2,_,H⟩
     simp -implicitDefEqProofs (disch:=first|omega|(simp only[LnZ];omega))[wrap64,setC]
     exact RetK.keep (hk _ _ ⟨Exq.mk 2 r2 [],_,H.leaf i64c o2,by simp[Exq.nod,Exq.nods] <;> omega,by omega,by omega⟩)
   ·simp -implicitDefEqProofs (disch:=first|omega|(simp only[LnZ];omega))[wrap64,c0]
    refine H.bls [(7:Int),9,10,3,4,5,6,8] rfl rfl (okL (by decide)) (by decide) fun v h2 H=>?_
    simp -implicitDefEqProofs (disch:=first|omega|(simp only[LnZ];omega))[wrap64]
    refine (c_num R H (by omega) (by omega) (by simp)).go ?_
    rintro _ h4 ⟨kd,rfl,okd,_,H⟩
    have ha:=Fm.arity_le (k:=kd)
    have ha2:=Fm.arity_ge (k:=kd)
    simp -implicitDefEqProofs (disch:=first|omega|(simp only[LnZ];omega))[wrap64,setC]
    refine c_l5Arity.go ?_
    rintro _ h4 ⟨rfl,rfl⟩
    obtain⟨ar,har⟩:∃ar,ar=Fm.arity kd:=⟨_,rfl⟩
    rw[← har] at ha ha2
    simp -implicitDefEqProofs (disch:=first|omega|(simp only[LnZ];omega))[wrap64,← har]
    refine wp_while (σ:=Nat) (fun j e h'=>∃(ks:List Exq) (w:Value) (p':Int),e=[some (.pointer (some ⟨b,0,none⟩)),some (.int .i64 ((d:Int)+1)),some (.agg #[.int .i64 0,.int .i64 0,.slice none 0 0]),some (.agg #[.int .i64 kd,.int .i64 0,w]),some (.int .i64 (ar-j))]∧HS g (ow w ks::rb b sl p'::Γ) h'∧ks.length=j∧Exq.nods ks≤j*(2*q-1)∧j≤2∧p≤p'∧p'≤p+2+j*(4*q-2)) (fun j=>3-j) 0 ⟨[],.slice none 0 0,_,by simp,H.nil_ow,rfl,by simp[Exq.nods],by omega,by omega,by omega⟩ ?_
    clear H
    rintro J j _ h5 hJ ⟨ks,w,p',rfl,H,hkl,hkn,hj,hp3,hp4⟩
    by_cases c2:(j:Int)<ar
    ·have hj2:j=0∨j=1:=by omega
     simp -implicitDefEqProofs (disch:=first|omega|(simp only[LnZ];omega))[wrap64,c2]
     refine (ih (by omega) R H.sw1 (by omega) (by rcases hj2 with rfl | rfl <;> omega)).go ?_
     rintro _ h6 ⟨y,p2,H,hy,hp5,hp6⟩
     obtain⟨wy,rfl,k1,k2,H'⟩:=H.unExq
     have hO':=H'.rep.one
     have hC':=H'.rep.cells
     simp -implicitDefEqProofs (disch:=first|omega|(simp only[LnZ];omega))[wrap64,setC,hO',hC']
     refine HS.appO (bytes:=40) H.sw2.sw1 rfl rfl rfl rfl rfl (by omega) (by omega) fun w' h7 H=>?_
     have hO:=H.rep.one
     have hC:=H.rep.cells
     simp -implicitDefEqProofs (disch:=first|omega|(simp only[LnZ];omega))[wrap64,setC,hO,hC]
     refine hJ (j+1) _ _ (by omega) ⟨ks++[y],w',p2,by simp; omega,H,by simp[hkl],?_,by omega,by omega,?_⟩
     ·rw[nods_append,show Exq.nods [y]=y.nod by simp[Exq.nods]]
      rcases hj2 with rfl | rfl <;> omega
     ·rcases hj2 with rfl | rfl <;> omega
    ·have hO:=H.rep.one
     have hC:=H.rep.cells
     simp -implicitDefEqProofs (disch:=first|omega|(simp only[LnZ];omega))[wrap64,c2,setC,hO,hC]
     refine RetK.keep (hk _ _ ⟨Exq.mk kd 0 ks,p',HS.mkExq' H okd ⟨by decide,by decide⟩,?_,by omega,?_⟩)
     ·rw[Exq.nod_eq,Exq.kids_mk]
      obtain rfl | rfl | rfl:j=0∨j=1∨j=2:=by omega
      all_goals omega
     ·obtain rfl | rfl | rfl:j=0∨j=1∨j=2:=by omega
      all_goals omega
theorem c_l5Formula2 {b:Nat}{sl:Value}{l:List (BitVec 8)}{g h:Heap}{Γ:List HP}{p:Int}(R:Rep g sl l) (H:HS g (rb b sl p::Γ) h) (hp:0≤p) (hp2:p≤900000000000) :
  CallE Tryz.prog fn_spec_l5Formula [.pointer (some ⟨b,0,none⟩)] h (fun u h'=>∃(y:Exq) (p':Int),HS g (ow u y::rb b sl p'::Γ) h'∧p≤p'∧p'≤p+100∧y.nod≤100):=by
 refine CallE.gen fun k hk=>EN_spec_l5Formula rfl ?_
 simp -implicitDefEqProofs (disch:=first|omega|(simp only[LnZ];omega))[wrap64]
 refine H.bls [(3:Int),2,4,3] rfl rfl (okL (by decide)) (by decide) fun v h1 H=>?_
 simp -implicitDefEqProofs (disch:=first|omega|(simp only[LnZ];omega))[wrap64]
 refine (c_num R H (by omega) (by omega) (by simp)).go ?_
 rintro _ h2 ⟨r,rfl,orr,hr,H⟩
 obtain⟨d,rfl,hd⟩:∃d:Nat,r=d∧d≤4:=by
  simp at hr
  exact⟨r.toNat,by omega,by omega⟩
 have hq:2 ^ d≤2 ^ 4:=Nat.pow_le_pow_right (by decide) hd
 simp -implicitDefEqProofs (disch:=first|omega|(simp only[LnZ];omega))[wrap64]
 refine (c_l5Random d hd R H (by omega) (by omega)).go ?_
 rintro _ h3 ⟨y,p1,H,hy,hp3,hp4⟩
 have FY:=H.rep.aExq
 simp -implicitDefEqProofs (disch:=first|omega|(simp only[LnZ];omega))[wrap64,FY]
 refine (c_spec_FormulaValid H.rep).go ?_
 rintro _ h3 ⟨rfl,rfl⟩
 by_cases q:Fm.Ok y
 ·simp -implicitDefEqProofs (disch:=first|omega|(simp only[LnZ];omega))[wrap64,q,FY,setC]
  exact RetK.keep (hk _ _ ⟨y,p1,H,by omega,by omega,by rw[Nat.pow_succ] at hy; omega⟩)
 ·simp -implicitDefEqProofs (disch:=first|omega|(simp only[LnZ];omega))[wrap64,q,setC]
  refine HS.blsO1 ((H.drop).leaf (k:=2) (v:=0) i64c i64c) rfl fun w h4 H=>?_
  simp -implicitDefEqProofs (disch:=first|omega|(simp only[LnZ];omega))[wrap64,setC,H.rep.cells,H.rep.one]
  exact RetK.keep (hk _ _ ⟨_,p1,HS.mkExq' (kd:=10) (vl:=0) H i64c i64c,by omega,by omega,by decide⟩)
end Go.Proofs.YtbanccfdojgocaaGreat

namespace Go.Proofs.YtbanccfdojgocaaGreat
open Go
namespace Fm
end Fm
end Go.Proofs.YtbanccfdojgocaaGreat

namespace Go.Proofs.YtbanccfdojgocaaGreat
open Go
end Go.Proofs.YtbanccfdojgocaaGreat

namespace Go.Proofs.YtbanccfdojgocaaGreat
open Go
theorem c_l6Word {b:Nat}{sl:Value}{l:List (BitVec 8)}{g h:Heap}{Γ:List HP}{p:Int}{n:Nat}(R:Rep g sl l) (H:HS g (rb b sl p::Γ) h) (hp:0≤p) (hp2:p≤900000000000) (hn:n≤1000) :
  CallE Tryz.prog fn_spec_l6Word [.pointer (some ⟨b,0,none⟩),.int .i64 n] h (fun u h'=>∃(W:List Int) (p':Int),HS g (ow u W::rb b sl p'::Γ) h'∧W.length=n∧p≤p'∧p'≤p+2*n):=by
 refine CallE.gen fun k hk=>EN_spec_l6Word rfl ?_
 simp -implicitDefEqProofs (disch:=first|omega|(simp only[LnZ];omega))[wrap64]
 refine H.bls0 Int fun o h1 H=>?_
 simp -implicitDefEqProofs (disch:=first|omega|(simp only[LnZ];omega))[wrap64]
 refine wp_count n (fun i e h'=>∃(o:Value) (W:List Int) (p':Int),e=[some (.pointer (some ⟨b,0,none⟩)),some (.int .i64 n),none,some o,some (.int .i64 i)]∧HS g (ow o W::rb b sl p'::Γ) h'∧W.length=i∧p≤p'∧p'≤p+2*i) ⟨o,[],p,by simp,H,rfl,by omega,by omega⟩ ?_
 clear H
 rintro J i _ h2 hJ hi ⟨o,W,p',rfl,H,hW,h3,h4⟩
 simp -implicitDefEqProofs (disch:=first|omega|(simp only[LnZ];omega))[wrap64]
 refine IteW.mk (fun hlt=>?_) (fun hge=>?_)
 ·have hin:i<n:=by omega
  simp -implicitDefEqProofs (disch:=first|omega|(simp only[LnZ];omega))[wrap64]
  refine H.bls [(0:Int),1,2,3,1,0,5,4,7] rfl rfl (okL (by decide)) (by decide) fun v h5 H=>?_
  simp -implicitDefEqProofs (disch:=first|omega|(simp only[LnZ];omega))[wrap64]
  refine (c_num R (H.under fun _ H=>H.sw1) (by omega) (by omega) (by simp)).go ?_
  rintro _ h6 ⟨r,rfl,o1,_,H⟩
  simp -implicitDefEqProofs (disch:=first|omega|(simp only[LnZ];omega))[wrap64,setC]
  refine HS.app1 (bytes:=8) H.sw1 r rfl rfl rfl o1 rfl rfl (by omega) (by omega) fun o' h7 H=>?_
  simp -implicitDefEqProofs (disch:=first|omega|(simp only[LnZ];omega))[wrap64]
  exact hJ _ _ hin ⟨o',_,_,by simp,H,by simp[hW],by omega,by push_cast; omega⟩
 obtain rfl:i=n:=by omega
 simp -implicitDefEqProofs (disch:=first|omega|(simp only[LnZ];omega))[wrap64]
 exact RetK.keep (hk _ _ ⟨W,p',H,hW,h3,h4⟩)
end Go.Proofs.YtbanccfdojgocaaGreat

namespace Go.Proofs.YtbanccfdojgocaaGreat
open Go
theorem c_l12Letters {b:Nat}{sl:Value}{l:List (BitVec 8)}{g h:Heap}{Γ:List HP}{p:Int}(R:Rep g sl l) (H:HS g (rb b sl p::Γ) h) (hp:0≤p) (hp2:p≤800000000000) :
  CallE Tryz.prog fn_spec_l12Letters [.pointer (some ⟨b,0,none⟩)] h (fun u h'=>∃(W:List Int) (p':Int),HS g (ow u W::rb b sl p'::Γ) h'∧W.length≤300):=by
 refine CallE.gen fun k hk=>EN_spec_l12Letters rfl ?_
 simp -implicitDefEqProofs (disch:=first|omega|(simp only[LnZ];omega))[wrap64]
 refine H.bls [(3:Int),2,4,1,0,6] rfl rfl (okL (by decide)) (by decide) fun v h1 H=>?_
 simp -implicitDefEqProofs (disch:=first|omega|(simp only[LnZ];omega))[wrap64]
 refine (c_num R H (by omega) (by omega) (by simp)).go ?_
 rintro _ h2 ⟨r,rfl,orr,hr,H⟩
 obtain⟨n,rfl,hn5⟩:∃n:Nat,r=n∧n≤6:=by
  simp at hr
  exact⟨r.toNat,by omega,by omega⟩
 simp -implicitDefEqProofs (disch:=first|omega|(simp only[LnZ];omega))[wrap64]
 refine (c_l6Word R H (by omega) (by omega) (by omega)).go ?_
 rintro s1 h3 ⟨S,p1,H,hS,h4,h5⟩
 simp -implicitDefEqProofs (disch:=first|omega|(simp only[LnZ];omega))[wrap64]
 refine (c_pick (n:=40) R H.sw1 (by omega) (by omega) i64c).go ?_
 rintro _ h11 ⟨r,rfl,o3,z3,y3,H⟩
 by_cases q0:r=0
 ·simp -implicitDefEqProofs (disch:=first|omega|(simp only[LnZ];omega))[wrap64,q0]
  refine H.bls [(8:Int),-1,9223372036854775807] rfl rfl (okL (by decide)) (by decide) fun w k5 H=>?_
  simp -implicitDefEqProofs (disch:=first|omega|(simp only[LnZ];omega))[wrap64]
  refine (c_num R H (by omega) (by omega) (by simp)).go ?_
  rintro _ k6 ⟨r2,rfl,o,_,H⟩
  simp -implicitDefEqProofs (disch:=first|omega|(simp only[LnZ];omega))[wrap64,setC]
  refine HS.app1 (bytes:=8) H.sw1 r2 rfl rfl rfl o rfl rfl (by omega) (by omega) fun w1 k7 H=>?_
  simp -implicitDefEqProofs (disch:=first|omega|(simp only[LnZ];omega))[wrap64]
  exact RetK.keep (hk _ _ ⟨_,_,H,by simp; omega⟩)
 by_cases q1:r=1
 ·simp -implicitDefEqProofs (disch:=first|omega|(simp only[LnZ];omega))[wrap64,q0,q1]
  refine wp_while (σ:=Nat) (fun j e h'=>∃(w:Value) (T:List Int) (q:Int),e=[some (.pointer (some ⟨b,0,none⟩)),none,some w,none]∧HS g (ow w T::rb b sl q::Γ) h'∧T.length=S.length+j∧T.length≤202∧p≤q∧q≤p+200+j) (fun j=>300-j) 0 ⟨s1,S,_,by simp,H.sw1,by omega,by omega,by omega,by omega⟩ ?_
  clear H
  rintro J j _ k5 hJ ⟨w,T,q,rfl,H,hT,hT2,hq1,hq2⟩
  simp -implicitDefEqProofs (disch:=first|omega|(simp only[LnZ];omega))[wrap64,H.rep.len]
  refine (c_pick (n:=2) R H.sw1 (by omega) (by omega) i64c).go ?_
  rintro _ k6 ⟨r2,rfl,o,z2,y2,H⟩
  by_cases c:(T.length:Int)<200+r2
  ·simp -implicitDefEqProofs (disch:=first|omega|(simp only[LnZ];omega))[wrap64,c,setC]
   refine HS.app1 (bytes:=8) H.sw1 (1:Int) rfl rfl rfl ⟨by omega,by omega⟩ rfl rfl (by omega) (by omega) fun w1 k7 H=>?_
   simp -implicitDefEqProofs (disch:=first|omega|(simp only[LnZ];omega))[wrap64]
   exact hJ (j+1) _ _ (by omega) ⟨w1,_,_,by simp,H,by simp; omega,by simp; omega,by omega,by push_cast; omega⟩
  ·simp -implicitDefEqProofs (disch:=first|omega|(simp only[LnZ];omega))[wrap64,c]
   exact RetK.keep (hk _ _ ⟨_,_,H.sw1,by omega⟩)
 simp -implicitDefEqProofs (disch:=first|omega|(simp only[LnZ];omega))[wrap64,q0,q1]
 exact RetK.keep (hk _ _ ⟨_,_,H.sw1,by omega⟩)
end Go.Proofs.YtbanccfdojgocaaGreat

namespace Go.Proofs.YtbanccfdojgocaaGreat
open Go
theorem c_l5Mutate {b:Nat}{sl v:Value}{l:List (BitVec 8)}{g h:Heap}{Γ:List HP}{p:Int}{x:Exq}(R:Rep g sl l) (Rx:Rep g v x) (hx:x.nod≤1000) (H:HS g (rb b sl p::Γ) h) (hp:0≤p) (hp2:p≤900000000000) :
  CallE Tryz.prog fn_spec_l5Mutate [.pointer (some ⟨b,0,none⟩),v] h (fun u h'=>∃(y:Exq) (p':Int),HS g (ow u y::rb b sl p'::Γ) h'∧p≤p'∧p'≤p+2):=by
 have FX:=Rx.aExq
 refine CallE.gen fun k hk=>EN_spec_l5Mutate rfl ?_
 simp -implicitDefEqProofs (disch:=first|omega|(simp only[LnZ];omega))[wrap64,FX]
 refine (c_l5Copy x (by omega) (Rx.on H)).go ?_
 intro u h1 G
 have H:=G.app H
 have FU:=H.rep.aExq
 obtain⟨wu,rfl,k1,k2,H⟩:=H.unExq
 have hO:=H.rep.one
 have hC:=H.rep.cells
 have hkl:x.kids.length≤1000:=by
  have h1:=x.nod_eq
  have key:∀l:List Exq,l.length≤Exq.nods l:=by
   intro l
   induction l with
   | nil=>simp
   | cons y l ih=>simp only[Exq.nods,List.length_cons]; have:=y.nod_eq; omega
  have:=key x.kids
  omega
 simp -implicitDefEqProofs (disch:=first|omega|(simp only[LnZ];omega))[wrap64,setC,FU,hO,hC]
 refine (c_pick (n:=50) R H.sw1 (by omega) (by omega) i64c).go ?_
 rintro _ h2 ⟨r,rfl,o3,z3,y3,H⟩
 by_cases q0:r=0
 ·simp -implicitDefEqProofs (disch:=first|omega|(simp only[LnZ];omega))[wrap64,q0]
  refine H.bls [(0:Int),11,-1,2,3,4] rfl rfl (okL (by decide)) (by decide) fun w h3 H=>?_
  simp -implicitDefEqProofs (disch:=first|omega|(simp only[LnZ];omega))[wrap64]
  refine (c_num R H (by omega) (by omega) (by simp)).go ?_
  rintro _ h4 ⟨r2,rfl,o2,_,H⟩
  simp -implicitDefEqProofs (disch:=first|omega|(simp only[LnZ];omega))[wrap64,setC,hO,hC]
  exact RetK.keep (hk _ _ ⟨Exq.mk r2 x.val x.kids,_,HS.mkExq' (kd:=r2) (vl:=x.val) H.sw1 o2 k2,by omega,by omega⟩)
 by_cases q1:r=1
 ·simp -implicitDefEqProofs (disch:=first|omega|(simp only[LnZ];omega))[wrap64,q0,q1]
  refine H.bls [(-1:Int),3,2,9223372036854775807] rfl rfl (okL (by decide)) (by decide) fun w h3 H=>?_
  simp -implicitDefEqProofs (disch:=first|omega|(simp only[LnZ];omega))[wrap64]
  refine (c_num R H (by omega) (by omega) (by simp)).go ?_
  rintro _ h4 ⟨r2,rfl,o2,_,H⟩
  simp -implicitDefEqProofs (disch:=first|omega|(simp only[LnZ];omega))[wrap64,setC,hO,hC]
  exact RetK.keep (hk _ _ ⟨Exq.mk x.kind r2 x.kids,_,HS.mkExq' (kd:=x.kind) (vl:=r2) H.sw1 k1 o2,by omega,by omega⟩)
 by_cases q2:r=2
 ·simp -implicitDefEqProofs (disch:=first|omega|(simp only[LnZ];omega))[wrap64,q0,q1,q2,setC,hO,hC]
  refine c_l5True.go ?_
  rintro _ h3 ⟨rfl,rfl⟩
  have H0:HS g (ow _ Fm.tru::_) h3:=H.leaf (k:=1) (v:=0) i64c i64c
  simp -implicitDefEqProofs (disch:=first|omega|(simp only[LnZ];omega))[wrap64,setC,hO,hC]
  refine HS.appO (bytes:=40) (H0.sw2.sw1) rfl rfl rfl rfl rfl (by omega) (by omega) fun w' h4 H=>?_
  simp -implicitDefEqProofs (disch:=first|omega|(simp only[LnZ];omega))[wrap64,setC,H.rep.one,H.rep.cells]
  exact RetK.keep (hk _ _ ⟨Exq.mk x.kind x.val (x.kids++[Fm.tru]),_,HS.mkExq' (kd:=x.kind) (vl:=x.val) H k1 k2,by omega,by omega⟩)
 by_cases q3:r=3
 ·simp -implicitDefEqProofs (disch:=first|omega|(simp only[LnZ];omega))[wrap64,q0,q1,q2,q3,setC]
  exact RetK.keep (hk _ _ ⟨Exq.mk 0 0 [],_,H.sw1.drop.leaf (k:=0) (v:=0) i64c i64c,by omega,by omega⟩)
 simp -implicitDefEqProofs (disch:=first|omega|(simp only[LnZ];omega))[wrap64,q0,q1,q2,q3,setC,hO,hC]
 exact RetK.keep (hk _ _ ⟨Exq.mk x.kind x.val x.kids,_,HS.mkExq' (kd:=x.kind) (vl:=x.val) H.sw1 k1 k2,by omega,by omega⟩)
end Go.Proofs.YtbanccfdojgocaaGreat

namespace Go.Proofs.YtbanccfdojgocaaGreat
open Go
def incr (n:Int):Int→List Int→Prop
 | _,[]=>True
 | lo,x::l=>lo<x∧x<n∧incr n x l
instance decIncr (n:Int):∀(lo:Int) (l:List Int),Decidable (incr n lo l)
 | _,[]=>inferInstanceAs (Decidable True)
 | lo,x::l=>@instDecidableAnd _ _ _ (@instDecidableAnd _ _ _ (decIncr n x l))
theorem incr_len {n:Int}:∀{lo:Int}{l:List Int},incr n lo l→lo<n→lo+l.length<n
 | lo,[],_,h=>by simpa using h
 | lo,x::l,h,_=>by
  have:=incr_len h.2.2 h.2.1
  have:=h.1
  simp; omega
theorem incr_mem {n:Int}:∀{lo:Int}{l:List Int},incr n lo l→∀x∈l,lo<x∧x<n
 | lo,y::l,h,x,hx=>by
  rcases List.mem_cons.1 hx with rfl | hx
  ·exact⟨h.1,h.2.1⟩
  ·have:=incr_mem h.2.2 x hx
   have:=h.1
   omega
def Tr.Ok (n:Int) (t:Tr):Prop:=0≤t.frm∧t.frm<n∧0≤t.to∧t.to<n∧0≤t.care∧t.care≤7∧0≤t.value∧andI .i64 t.value t.care=t.value
instance instDecTrOk (n:Int) (t:Tr):Decidable (t.Ok n):=by unfold Tr.Ok; infer_instance
def Aut.Ok (a:Aut):Prop:=(1≤a.acc.length∧a.acc.length≤64)∧a.edges.length≤2048∧incr a.acc.length (-1) a.init∧∀t∈a.edges,t.Ok a.acc.length
instance instDecAutOk (a:Aut):Decidable a.Ok:=by unfold Aut.Ok; infer_instance
theorem Aut.Ok.n {a:Aut}(h:a.Ok):1≤a.acc.length∧a.acc.length≤64:=h.1
theorem Aut.Ok.e {a:Aut}(h:a.Ok):a.edges.length≤2048:=h.2.1
theorem Aut.Ok.i {a:Aut}(h:a.Ok):incr a.acc.length (-1) a.init:=h.2.2.1
theorem Aut.Ok.t {a:Aut}(h:a.Ok) {i:Nat}(hi:i<a.edges.length):a.edges[i].Ok a.acc.length:=h.2.2.2 _ (List.getElem_mem hi)
theorem Aut.Ok.il {a:Aut}(h:a.Ok):a.init.length≤64:=by
 have h1:=incr_len h.i (by have:=h.n; omega)
 have:=h.n
 omega
theorem Aut.Ok.im {a:Aut}(h:a.Ok) {i:Nat}(hi:i<a.init.length):0≤a.init[i]∧a.init[i]<a.acc.length:=by
 have h1:=incr_mem h.i _ (List.getElem_mem hi)
 omega
def Tr.on (t:Tr) (letter:Int):Bool:=decide (andI .i64 letter t.care=t.value)
def Tr.shift (n:Int) (t:Tr):Tr:=⟨t.frm+n,t.care,t.value,t.to+n⟩
def Aut.empty:Aut:=⟨[],[],[]⟩
abbrev Rl:=Nat→Nat→Bool
def Ans (a:Aut) (R:Rl) (i j:Nat):Prop:=∀l:Nat,l<8→∀e∈a.edges,e.frm=i→e.on l=true→∃f∈a.edges,f.frm=j∧f.on l=true∧R e.to.toNat f.to.toNat=true
def AccR (a:Aut) (R:Rl):Prop:=∀i j,i<a.acc.length→j<a.acc.length→R i j=true→a.acc.getD i false=true→a.acc.getD j false=true
def Simu (a:Aut) (R:Rl):Prop:=AccR a R∧∀i j,i<a.acc.length→j<a.acc.length→R i j=true→Ans a R i j
def Upper (a:Aut) (R:Rl):Prop:=∀S,Simu a S→∀i j,i<a.acc.length→j<a.acc.length→S i j=true→R i j=true
structure Great (a:Aut) (R:Rl):Prop where
 simu:Simu a R
 upper:Upper a R
def Rl.rem (R:Rl) (i j:Nat):Rl:=fun x y=>R x y && !(decide (x=i)&&decide (y=j))
theorem Rl.rem_le {R:Rl}{i j x y:Nat}(h:R.rem i j x y=true):R x y=true:=by
 simp only[Rl.rem,Bool.and_eq_true] at h; exact h.1
theorem Ans.mono {a:Aut}{R S:Rl}(ha:a.Ok) {i j:Nat}(hRS:∀x y,x<a.acc.length→y<a.acc.length→R x y=true→S x y=true) (h:Ans a R i j):Ans a S i j:=by
 intro l hl e he hi ho
 obtain⟨f,hf,h1,h2,h3⟩:=h l hl e he hi ho
 have h4:=ha.2.2.2 e he
 have h5:=ha.2.2.2 f hf
 unfold Tr.Ok at h4 h5
 exact⟨f,hf,h1,h2,hRS _ _ (by omega) (by omega) h3⟩
theorem Upper.rem {a:Aut}{R:Rl}(ha:a.Ok) (hR:Upper a R) {i j:Nat}(hn:¬Ans a R i j):Upper a (R.rem i j):=by
 intro S hS x y hx hy h
 have h1:=hR S hS x y hx hy h
 by_cases hxy:x=i∧y=j
 ·obtain⟨rfl,rfl⟩:=hxy
  exact absurd ((hS.2 x y hx hy h).mono ha fun u v hu hv huv=>hR S hS u v hu hv huv) hn
 ·simp only[Rl.rem,h1,Bool.true_and,Bool.not_eq_true',Bool.and_eq_false_imp,decide_eq_true_eq,decide_eq_false_iff_not]
  exact fun h2 h3=>hxy ⟨h2,h3⟩
theorem AccR.rem {a:Aut}{R:Rl}(h:AccR a R) (i j:Nat):AccR a (R.rem i j):=fun x y hx hy hr=>h x y hx hy (Rl.rem_le hr)
theorem Great.congr {a:Aut}{R S:Rl}(ha:a.Ok) (h:Great a R) (he:∀x y,x<a.acc.length→y<a.acc.length→R x y=S x y):Great a S:=
 ⟨⟨fun i j hi hj hr=>h.simu.1 i j hi hj (by rw[he i j hi hj]; exact hr),
  fun i j hi hj hr=>(h.simu.2 i j hi hj (by rw[he i j hi hj]; exact hr)).mono ha fun x y hx hy hxy=>by rw[← he x y hx hy]; exact hxy⟩,
  fun T hT i j hi hj hr=>by rw[← he i j hi hj]; exact h.upper T hT i j hi hj hr⟩
def cnt2 (n:Nat) (R:Rl):Nat:=((List.range n).map fun i=>((List.range n).filter fun j=>R i j).length).sum
theorem sum_lt_of {α:Type}{f g:α→Nat}:∀{l:List α},(∀x∈l,f x≤g x)→(∃x∈l,f x<g x)→(l.map f).sum<(l.map g).sum
 | [],_,h=>by obtain⟨x,hx,_⟩:=h; simp at hx
 | y::l,h,⟨x,hx,hlt⟩=>by
  have hy:=h y (by simp)
  have hle:(l.map f).sum≤(l.map g).sum:=by
   have:∀l:List α,(∀x∈l,f x≤g x)→(l.map f).sum≤(l.map g).sum:=by
    intro l
    induction l with
    | nil=>simp
    | cons z l ih=>
     intro h
     have h1:=h z (by simp)
     have h2:=ih fun x hx=>h x (by simp[hx])
     simp; omega
   exact this l fun x hx=>h x (by simp[hx])
  rcases List.mem_cons.1 hx with rfl | hx
  ·simp; omega
  ·have:=sum_lt_of (l:=l) (fun x hx=>h x (by simp[hx])) ⟨x,hx,hlt⟩
   simp; omega
theorem filter_le_of {α:Type}{p q:α→Bool}(h:∀x,p x=true→q x=true):∀l:List α,(l.filter p).length≤(l.filter q).length
 | []=>by simp
 | x::l=>by
  have:=filter_le_of h l
  cases hp:p x
  ·cases hq:q x <;> simp[List.filter_cons,hp,hq] <;> omega
  ·simp[List.filter_cons,hp,h x hp]; omega
theorem filter_lt_of {α:Type}{p q:α→Bool}(h:∀x,p x=true→q x=true):∀{l:List α},(∃x∈l,p x=false∧q x=true)→(l.filter p).length<(l.filter q).length
 | [],hx=>by obtain⟨x,hx,_⟩:=hx; simp at hx
 | y::l,⟨x,hx,h1,h2⟩=>by
  rcases List.mem_cons.1 hx with rfl | hx
  ·have:=filter_le_of h l
   simp[List.filter_cons,h1,h2]; omega
  ·have:=filter_lt_of h (l:=l) ⟨x,hx,h1,h2⟩
   cases hp:p y
   ·cases hq:q y <;> simp[List.filter_cons,hp,hq] <;> omega
   ·simp[List.filter_cons,hp,h y hp]; omega
theorem cnt2_rem {n:Nat}{R:Rl}{i j:Nat}(hi:i<n) (hj:j<n) (h:R i j=true):cnt2 n (R.rem i j)<cnt2 n R:=by
 refine sum_lt_of ?_ ⟨i,by simpa using hi,?_⟩
 ·intro x _
  exact filter_le_of (fun y hy=>Rl.rem_le hy) _
 ·exact filter_lt_of (fun y hy=>Rl.rem_le hy) ⟨j,by simpa using hj,by simp[Rl.rem],h⟩
structure Pass (a:Aut) (R0 R:Rl) (c:Bool) (i j:Nat):Prop where
 acc:AccR a R
 upper:Upper a R
 less:c=true→cnt2 a.acc.length R<cnt2 a.acc.length R0
 same:c=false→R=R0∧∀x y,x<a.acc.length→y<a.acc.length→(x<i∨(x=i∧y<j))→R x y=true→Ans a R x y
theorem Pass.start {a:Aut}{R:Rl}(h1:AccR a R) (h2:Upper a R):Pass a R R false 0 0:=⟨h1,h2,by simp,fun _=>⟨rfl,fun x y _ _ h=>by omega⟩⟩
theorem Pass.keep {a:Aut}{R0 R:Rl}{c:Bool}{i j:Nat}(h:Pass a R0 R c i j) (hk:R i j=true→Ans a R i j):Pass a R0 R c i (j+1):=
 ⟨h.acc,h.upper,h.less,fun hc=>⟨(h.same hc).1,fun x y hx hy hxy hr=>by
  by_cases h2:x=i∧y=j
  ·obtain⟨rfl,rfl⟩:=h2; exact hk hr
  ·exact (h.same hc).2 x y hx hy (by omega) hr⟩⟩
theorem Pass.rem {a:Aut}{R0 R:Rl}{c:Bool}{i j:Nat}(ha:a.Ok) (h:Pass a R0 R c i j) (hi:i<a.acc.length) (hj:j<a.acc.length) (hr:R i j=true) (hn:¬Ans a R i j):Pass a R0 (R.rem i j) true i (j+1):=
 ⟨h.acc.rem i j,h.upper.rem ha hn,fun _=>by
  have h1:=cnt2_rem hi hj hr
  cases hc:c
  ·rw[← (h.same hc).1]; exact h1
  ·exact Nat.lt_trans h1 (h.less hc),by simp⟩
theorem Pass.next {a:Aut}{R0 R:Rl}{c:Bool}{i j:Nat}(h:Pass a R0 R c i j) (hj:a.acc.length≤j):Pass a R0 R c (i+1) 0:=
 ⟨h.acc,h.upper,h.less,fun hc=>⟨(h.same hc).1,fun x y hx hy hxy hr=>(h.same hc).2 x y hx hy (by omega) hr⟩⟩
theorem Pass.done {a:Aut}{R0 R:Rl}{i j:Nat}(h:Pass a R0 R false i j) (hi:a.acc.length≤i):Great a R:=
 ⟨⟨h.acc,fun x y hx hy hr=>(h.same rfl).2 x y hx hy (by omega) hr⟩,h.upper⟩
end Go.Proofs.YtbanccfdojgocaaGreat
