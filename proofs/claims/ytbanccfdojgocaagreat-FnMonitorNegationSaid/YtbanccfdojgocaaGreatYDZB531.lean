/-
  Texts of this proof, one behind the other.
-/
import Derived.Test.YtbanccfdojgocaaGreatYF7
set_option linter.all false
set_option linter.unusedVariables false
set_option linter.unusedSimpArgs false
set_option linter.defProp false
set_option maxRecDepth 1000000
namespace Go.Proofs.YtbanccfdojgocaaGreat
open Go
def H_spec_l16Open:Hint:=⟨[(0,false),(2,false)],[]⟩
def K46_1:Pl:=.m 1 4 .done
@[simp] def W46_1 := Pl.w K46_1.eq_1
def K46_2:C:=.seq (.pl <| .e 2 3 <|
 .m 2 0 <|
 .x 3 (.build [.slice none 0 0,.int .i64 0] [(0,1,.v 2)]) <|
 .c 4 (.alloc (.v 3)) K46_1) (.ret)
@[simp] def W46_2 := C.w K46_2.eq_1
def K46_3:C:=.pl <| .e 2 2 <|
 .m 2 0 <|
 .x 3 (.sliceV 1 (.v 2) none (some (.c (.int .i64 2000))) none) <|
 .m 0 3 .done
@[simp] def W46_3 := C.w K46_3.eq_1
def K46_4:C:=.cond 2 (.v 4) K46_3 (.skip)
@[simp] def W46_4 := C.w K46_4.eq_1
def K46_5:C:=.seq (.seq (.pl <| .e 2 3 <|
 .m 2 0 <|
 .x 3 (.lenV (.v 2)) <|
 .x 4 (.bin .gtr (.v 3) (.c (.int .i64 2000))) .done) K46_4) K46_2
@[simp] def W46_5 := C.w K46_5.eq_1
def B_spec_l16Open:C:=.seq (.pl <| .e 2 0 <|
 .x 1 (.mv (.c (.pointer none))) .done) K46_5
@[simp] def WB_spec_l16Open := C.w B_spec_l16Open.eq_1
def R_spec_l16Open:FIR:=⟨B_spec_l16Open,2,[(1,none)]⟩
theorem IR_spec_l16Open:cfun Tryz.prog H_spec_l16Open Tryz.f46=some R_spec_l16Open:=by kernel_rfl
theorem EN_spec_l16Open:ENT Tryz.prog B_spec_l16Open [(1,none)] 1 2 fn_spec_l16Open:=fun hargs hw=>enter Tryz.func46 rfl IR_spec_l16Open hargs hw
def H_spec_l16Rd_num:Hint:=⟨[(0,false),(1,false),(4,false)],[]⟩
def K110_1:Pl:=.x 8 (.ia 1 (.v 3) (.v 7)) <|
 .l 9 8 <|
 .m 2 9 .done
@[simp] def W110_1 := Pl.w K110_1.eq_1
def K110_2:C:=.seq (.pl <| .e 3 7 <|
 .m 3 1 <|
 .m 4 0 <|
 .m 5 1 <|
 .x 6 (.lenV (.v 5)) <|
 .c 7 (.call fn_spec_l16Rd_pick [.v 4,.v 6]) K110_1) (.ret)
@[simp] def W110_2 := C.w K110_2.eq_1
def B_spec_l16Rd_num:C:=.seq (.pl <| .e 3 0 <|
 .x 2 (.mv (.c (.int .i64 0))) .done) K110_2
@[simp] def WB_spec_l16Rd_num := C.w B_spec_l16Rd_num.eq_1
def R_spec_l16Rd_num:FIR:=⟨B_spec_l16Rd_num,3,[(2,none)]⟩
theorem IR_spec_l16Rd_num:cfun Tryz.prog H_spec_l16Rd_num Tryz.f110=some R_spec_l16Rd_num:=by kernel_rfl
theorem EN_spec_l16Rd_num:ENT Tryz.prog B_spec_l16Rd_num [(2,none)] 2 3 fn_spec_l16Rd_num:=fun hargs hw=>enter Tryz.func110 rfl IR_spec_l16Rd_num hargs hw
def H_spec_l16Rd_pick:Hint:=⟨[(0,false),(1,false),(4,false),(5,false),(6,false)],[]⟩
def K109_1:C:=.seq (.pl <| .e 5 3 <|
 .m 5 4 <|
 .m 6 1 <|
 .x 7 (.bin .rem (.v 5) (.v 6)) <|
 .m 2 7 .done) (.ret)
@[simp] def W109_1 := C.w K109_1.eq_1
def K109_2:C:=.seq (.pl <| .e 5 4 <|
 .m 5 4 <|
 .m 6 4 <|
 .x 7 (.bin .quo (.v 6) (.c (.int .i64 64))) <|
 .x 8 (.bin .xor (.v 5) (.v 7)) <|
 .m 4 8 .done) K109_1
@[simp] def W109_2 := C.w K109_2.eq_1
def K109_3:C:=.seq (.pl <| .e 5 45 <|
 .m 5 0 <|
 .x 6 (.nilc (.v 5)) <|
 .x 7 (.fa 0 (.v 6)) <|
 .l 8 7 <|
 .m 9 3 <|
 .m 10 0 <|
 .x 11 (.nilc (.v 10)) <|
 .x 12 (.fa 0 (.v 11)) <|
 .l 13 12 <|
 .x 14 (.lenV (.v 13)) <|
 .x 15 (.bin .rem (.v 9) (.v 14)) <|
 .x 16 (.ia 1 (.v 8) (.v 15)) <|
 .l 17 16 <|
 .x 18 (.conv .i64 (.v 17)) <|
 .x 19 (.bin .mul (.v 18) (.c (.int .i64 131))) <|
 .m 20 0 <|
 .x 21 (.nilc (.v 20)) <|
 .x 22 (.fa 0 (.v 21)) <|
 .l 23 22 <|
 .m 24 3 <|
 .x 25 (.bin .mul (.v 24) (.c (.int .i64 7))) <|
 .x 26 (.bin .add (.v 25) (.c (.int .i64 3))) <|
 .m 27 0 <|
 .x 28 (.nilc (.v 27)) <|
 .x 29 (.fa 0 (.v 28)) <|
 .l 30 29 <|
 .x 31 (.lenV (.v 30)) <|
 .x 32 (.bin .rem (.v 26) (.v 31)) <|
 .x 33 (.ia 1 (.v 23) (.v 32)) <|
 .l 34 33 <|
 .x 35 (.conv .i64 (.v 34)) <|
 .x 36 (.bin .mul (.v 35) (.c (.int .i64 1117))) <|
 .x 37 (.bin .add (.v 19) (.v 36)) <|
 .m 38 3 <|
 .x 39 (.bin .mul (.v 38) (.c (.int .i64 29))) <|
 .x 40 (.bin .add (.v 37) (.v 39)) <|
 .m 41 3 <|
 .m 42 0 <|
 .x 43 (.nilc (.v 42)) <|
 .x 44 (.fa 0 (.v 43)) <|
 .l 45 44 <|
 .x 46 (.lenV (.v 45)) <|
 .x 47 (.bin .quo (.v 41) (.v 46)) <|
 .x 48 (.bin .mul (.v 47) (.c (.int .i64 53))) <|
 .x 49 (.bin .add (.v 40) (.v 48)) <|
 .m 4 49 .done) K109_2
@[simp] def W109_3 := C.w K109_3.eq_1
def K109_4:C:=.seq (.pl <| .e 5 10 <|
 .m 5 0 <|
 .x 6 (.nilc (.v 5)) <|
 .x 7 (.fa 0 (.v 6)) <|
 .l 8 7 <|
 .m 9 3 <|
 .x 10 (.ia 1 (.v 8) (.v 9)) <|
 .l 11 10 <|
 .x 12 (.conv .i64 (.v 11)) <|
 .m 13 1 <|
 .x 14 (.bin .rem (.v 12) (.v 13)) <|
 .m 2 14 .done) (.ret)
@[simp] def W109_4 := C.w K109_4.eq_1
def K109_5:C:=.cond 5 (.v 11) K109_4 (.skip)
@[simp] def W109_5 := C.w K109_5.eq_1
def K109_6:C:=.seq (.seq (.pl <| .e 5 7 <|
 .m 5 3 <|
 .m 6 0 <|
 .x 7 (.nilc (.v 6)) <|
 .x 8 (.fa 0 (.v 7)) <|
 .l 9 8 <|
 .x 10 (.lenV (.v 9)) <|
 .x 11 (.bin .lss (.v 5) (.v 10)) .done) K109_5) K109_3
@[simp] def W109_6 := C.w K109_6.eq_1
def K109_7:C:=.seq (.pl <| .e 5 5 <|
 .m 5 0 <|
 .x 6 (.nilc (.v 5)) <|
 .x 7 (.fa 1 (.v 6)) <|
 .l 8 7 <|
 .x 9 (.bin .sub (.v 8) (.c (.int .i64 1))) <|
 .m 3 9 .done) K109_6
@[simp] def W109_7 := C.w K109_7.eq_1
def K109_8:C:=.seq (.pl <| .e 5 0 <|
 .x 2 (.mv (.c (.int .i64 0))) .done) (.ret)
@[simp] def W109_8 := C.w K109_8.eq_1
def K109_9:C:=.cond 5 (.v 14) K109_8 (.skip)
@[simp] def W109_9 := C.w K109_9.eq_1
def K109_10:C:=.seq (.seq (.pl <| .e 5 10 <|
 .m 5 1 <|
 .x 6 (.bin .lss (.v 5) (.c (.int .i64 1))) <|
 .m 7 6 <|
 .n 7 (.px (some 8) (.mv (.v 0))) <|
 .n 7 (.px (some 9) (.nilc (.v 8))) <|
 .n 7 (.px (some 10) (.fa 0 (.v 9))) <|
 .n 7 (.ld (some 11) (.v 10) none) <|
 .n 7 (.px (some 12) (.lenV (.v 11))) <|
 .n 7 (.px (some 13) (.bin .eql (.v 12) (.c (.int .i64 0)))) <|
 .x 14 (.pick (.v 7) (.c (.bool true)) (.v 13)) .done) K109_9) K109_7
@[simp] def W109_10 := C.w K109_10.eq_1
def K109_11:C:=.seq (.pl <| .e 5 8 <|
 .m 5 0 <|
 .m 6 0 <|
 .x 7 (.nilc (.v 6)) <|
 .x 8 (.fa 1 (.v 7)) <|
 .l 9 8 <|
 .x 10 (.bin .add (.v 9) (.c (.int .i64 1))) <|
 .x 11 (.nilc (.v 5)) <|
 .x 12 (.fa 1 (.v 11)) <|
 .o (.ex none (.store 1 (.v 12) (.v 10))) .done) K109_10
@[simp] def W109_11 := C.w K109_11.eq_1
def B_spec_l16Rd_pick:C:=.seq (.pl <| .e 5 0 <|
 .x 2 (.mv (.c (.int .i64 0))) .done) K109_11
@[simp] def WB_spec_l16Rd_pick := C.w B_spec_l16Rd_pick.eq_1
def R_spec_l16Rd_pick:FIR:=⟨B_spec_l16Rd_pick,5,[(2,none)]⟩
theorem IR_spec_l16Rd_pick:cfun Tryz.prog H_spec_l16Rd_pick Tryz.f109=some R_spec_l16Rd_pick:=by kernel_rfl
theorem EN_spec_l16Rd_pick:ENT Tryz.prog B_spec_l16Rd_pick [(2,none)] 2 5 fn_spec_l16Rd_pick:=fun hargs hw=>enter Tryz.func109 rfl IR_spec_l16Rd_pick hargs hw
def H_spec_l5Formula:Hint:=⟨[(0,false),(2,true),(3,true)],[]⟩
def K107_1:Pl:=.x 5 (.build [.int .i64 0,.int .i64 0,.slice none 0 0] [(0,1,.c (.int .i64 10)),(2,1,.v 4)]) <|
 .o (.pset none 1 0 3 (.v 5)) .done
@[simp] def W107_1 := Pl.w K107_1.eq_1
def K107_2:C:=.seq (.pl <| .e 3 3 <|
 .x 3 (.build [.int .i64 0,.int .i64 0,.slice none 0 0] [(0,1,.c (.int .i64 2))]) <|
 .c 4 (.bls 3 1 [.int .i64 0,.int .i64 0,.slice none 0 0] [(0,3,.v 3)]) K107_1) (.ret)
@[simp] def W107_2 := C.w K107_2.eq_1
def K107_3:C:=.seq (.pl <| .e 3 1 <|
 .o (.pget (some 3) none 2 0 (some 3)) <|
 .o (.pset none 1 0 3 (.v 3)) .done) (.ret)
@[simp] def W107_3 := C.w K107_3.eq_1
def K107_4:C:=.cond 3 (.v 4) K107_3 (.skip)
@[simp] def W107_4 := C.w K107_4.eq_1
def K107_5:C:=.seq (.seq (.pl <| .e 3 2 <|
 .o (.pget (some 3) none 2 0 (some 3)) <|
 .c 4 (.call fn_spec_FormulaValid [.v 3]) .done) K107_4) K107_2
@[simp] def W107_5 := C.w K107_5.eq_1
def K107_6:Pl:=.o (.pnew 2 (.c (.agg #[.int .i64 0,.int .i64 0,.slice none 0 0])) []) <|
 .o (.pset none 2 0 3 (.v 7)) .done
@[simp] def W107_6 := Pl.w K107_6.eq_1
def K107_7:Pl:=.c 7 (.call fn_spec_l5Random [.v 3,.v 6]) K107_6
@[simp] def W107_7 := Pl.w K107_7.eq_1
def K107_8:Pl:=.c 6 (.call fn_spec_l16Rd_num [.v 4,.v 5]) K107_7
@[simp] def W107_8 := Pl.w K107_8.eq_1
def K107_9:C:=.seq (.pl <| .e 3 5 <|
 .m 3 0 <|
 .m 4 0 <|
 .c 5 (.bls 1 4 [.int .i64 0] [(0,1,.c (.int .i64 3)),(1,1,.c (.int .i64 2)),(2,1,.c (.int .i64 4)),(3,1,.c (.int .i64 3))]) K107_8) K107_5
@[simp] def W107_9 := C.w K107_9.eq_1
def B_spec_l5Formula:C:=.seq (.pl <| .e 3 0 <|
 .o (.pnew 1 (.c (.agg #[.int .i64 0,.int .i64 0,.slice none 0 0])) []) .done) K107_9
@[simp] def WB_spec_l5Formula := C.w B_spec_l5Formula.eq_1
def R_spec_l5Formula:FIR:=⟨B_spec_l5Formula,3,[(1,some (some 3))]⟩
theorem IR_spec_l5Formula:cfun Tryz.prog H_spec_l5Formula Tryz.f107=some R_spec_l5Formula:=by kernel_rfl
theorem EN_spec_l5Formula:ENT Tryz.prog B_spec_l5Formula [(1,some (some 3))] 1 3 fn_spec_l5Formula:=fun hargs hw=>enter Tryz.func107 rfl IR_spec_l5Formula hargs hw
def H_spec_l5Mutate:Hint:=⟨[(0,false),(1,false),(3,true),(4,true),(5,true),(9,false)],[]⟩
def K106_1:C:=.seq (.pl <| .e 6 1 <|
 .o (.pget (some 6) none 4 0 (some 3)) <|
 .o (.pset none 3 0 3 (.v 6)) .done) (.ret)
@[simp] def W106_1 := C.w K106_1.eq_1
def K106_2:Pl:=.a 9 4 <|
 .o (.pset (some 9) 4 0 1 (.v 8)) .done
@[simp] def W106_2 := Pl.w K106_2.eq_1
def K106_3:Pl:=.c 8 (.call fn_spec_l16Rd_num [.v 6,.v 7]) K106_2
@[simp] def W106_3 := Pl.w K106_3.eq_1
def K106_4:C:=.pl <| .e 6 4 <|
 .m 6 0 <|
 .c 7 (.bls 1 6 [.int .i64 0] [(0,1,.c (.int .i64 0)),(1,1,.c (.int .i64 11)),(2,1,.c (.int .i64 (-1))),(3,1,.c (.int .i64 2)),(4,1,.c (.int .i64 3)),(5,1,.c (.int .i64 4))]) K106_3
@[simp] def W106_4 := C.w K106_4.eq_1
def K106_5:Pl:=.a 9 4 <|
 .o (.pset (some 9) 4 1 1 (.v 8)) .done
@[simp] def W106_5 := Pl.w K106_5.eq_1
def K106_6:Pl:=.c 8 (.call fn_spec_l16Rd_num [.v 6,.v 7]) K106_5
@[simp] def W106_6 := Pl.w K106_6.eq_1
def K106_7:C:=.pl <| .e 6 4 <|
 .m 6 0 <|
 .c 7 (.bls 1 4 [.int .i64 0] [(0,1,.c (.int .i64 (-1))),(1,1,.c (.int .i64 3)),(2,1,.c (.int .i64 2)),(3,1,.c (.int .i64 9223372036854775807))]) K106_6
@[simp] def W106_7 := C.w K106_7.eq_1
def K106_8:Pl:=.a 11 4 <|
 .o (.pset (some 11) 4 2 1 (.v 10)) .done
@[simp] def W106_8 := Pl.w K106_8.eq_1
def K106_9:Pl:=.o (.psl 9 [.int .i64 0,.int .i64 0,.slice none 0 0] [(0,3,.v 8)]) <|
 .c 10 (.app 40 3 [.int .i64 0,.int .i64 0,.slice none 0 0] (.o (.v 7)) (.p 1 9)) K106_8
@[simp] def W106_9 := Pl.w K106_9.eq_1
def K106_10:C:=.pl <| .e 6 6 <|
 .a 6 4 <|
 .g 7 6 4 2 <|
 .c 8 (.call fn_spec_l5True []) K106_9
@[simp] def W106_10 := C.w K106_10.eq_1
def K106_11:C:=.seq (.pl <| .e 6 1 <|
 .x 6 (.build [.int .i64 0,.int .i64 0,.slice none 0 0] []) <|
 .o (.pset none 3 0 3 (.v 6)) .done) (.ret)
@[simp] def W106_11 := C.w K106_11.eq_1
def K106_12:C:=.cond 6 (.v 7) K106_11 (.skip)
@[simp] def W106_12 := C.w K106_12.eq_1
def K106_13:C:=.seq (.pl <| .e 6 2 <|
 .x 6 (.bin .eql (.v 5) (.c (.int .i64 3))) <|
 .m 7 6 .done) K106_12
@[simp] def W106_13 := C.w K106_13.eq_1
def K106_14:C:=.cond 6 (.v 7) K106_10 K106_13
@[simp] def W106_14 := C.w K106_14.eq_1
def K106_15:C:=.seq (.pl <| .e 6 2 <|
 .x 6 (.bin .eql (.v 5) (.c (.int .i64 2))) <|
 .m 7 6 .done) K106_14
@[simp] def W106_15 := C.w K106_15.eq_1
def K106_16:C:=.cond 6 (.v 7) K106_7 K106_15
@[simp] def W106_16 := C.w K106_16.eq_1
def K106_17:C:=.seq (.pl <| .e 6 2 <|
 .x 6 (.bin .eql (.v 5) (.c (.int .i64 1))) <|
 .m 7 6 .done) K106_16
@[simp] def W106_17 := C.w K106_17.eq_1
def K106_18:C:=.cond 6 (.v 7) K106_4 K106_17
@[simp] def W106_18 := C.w K106_18.eq_1
def K106_19:C:=.block 0 (.seq (.pl <| .e 6 2 <|
 .x 6 (.bin .eql (.v 5) (.c (.int .i64 0))) <|
 .m 7 6 .done) K106_18)
@[simp] def W106_19 := C.w K106_19.eq_1
def K106_20:C:=.seq (.seq (.pl <| .e 6 1 <|
 .m 6 0 <|
 .c 5 (.call fn_spec_l16Rd_pick [.v 6,.c (.int .i64 50)]) .done) K106_19) K106_1
@[simp] def W106_20 := C.w K106_20.eq_1
def K106_21:Pl:=.o (.pnew 4 (.c (.agg #[.int .i64 0,.int .i64 0,.slice none 0 0])) []) <|
 .o (.pset none 4 0 3 (.v 7)) .done
@[simp] def W106_21 := Pl.w K106_21.eq_1
def K106_22:C:=.seq (.pl <| .e 6 2 <|
 .o (.pget (some 6) none 2 0 (some 3)) <|
 .c 7 (.call fn_spec_l5Copy [.v 6]) K106_21) K106_20
@[simp] def W106_22 := C.w K106_22.eq_1
def B_spec_l5Mutate:C:=.seq (.pl <| .e 6 0 <|
 .o (.pnew 2 (.v 1) []) <|
 .o (.pnew 3 (.c (.agg #[.int .i64 0,.int .i64 0,.slice none 0 0])) []) .done) K106_22
@[simp] def WB_spec_l5Mutate := C.w B_spec_l5Mutate.eq_1
def R_spec_l5Mutate:FIR:=⟨B_spec_l5Mutate,6,[(3,some (some 3))]⟩
theorem IR_spec_l5Mutate:cfun Tryz.prog H_spec_l5Mutate Tryz.f106=some R_spec_l5Mutate:=by kernel_rfl
theorem EN_spec_l5Mutate:ENT Tryz.prog B_spec_l5Mutate [(3,some (some 3))] 2 6 fn_spec_l5Mutate:=fun hargs hw=>enter Tryz.func106 rfl IR_spec_l5Mutate hargs hw
def H_spec_l5Random:Hint:=⟨[(0,false),(1,false),(4,true),(5,true),(6,false)],[[]]⟩
def K166_1:C:=.seq (.pl <| .e 5 1 <|
 .o (.pget (some 5) none 3 0 (some 3)) <|
 .o (.pset none 2 0 3 (.v 5)) .done) (.ret)
@[simp] def W166_1 := C.w K166_1.eq_1
def K166_2:C:=.pl <| .e 5 2 <|
 .m 5 4 <|
 .x 6 (.bin .sub (.v 5) (.c (.int .i64 1))) <|
 .m 4 6 .done
@[simp] def W166_2 := C.w K166_2.eq_1
def K166_3:Pl:=.a 13 3 <|
 .o (.pset (some 13) 3 2 1 (.v 12)) .done
@[simp] def W166_3 := Pl.w K166_3.eq_1
def K166_4:Pl:=.o (.psl 11 [.int .i64 0,.int .i64 0,.slice none 0 0] [(0,3,.v 10)]) <|
 .c 12 (.app 40 3 [.int .i64 0,.int .i64 0,.slice none 0 0] (.o (.v 6)) (.p 1 11)) K166_3
@[simp] def W166_4 := Pl.w K166_4.eq_1
def K166_5:C:=.seq (.block 1 (.pl <| .e 5 9 <|
 .a 5 3 <|
 .g 6 5 3 2 <|
 .m 7 0 <|
 .m 8 1 <|
 .x 9 (.bin .sub (.v 8) (.c (.int .i64 1))) <|
 .c 10 (.call fn_spec_l5Random [.v 7,.v 9]) K166_4)) K166_2
@[simp] def W166_5 := C.w K166_5.eq_1
def K166_6:C:=.cond 5 (.v 6) (.skip) (.exit 0)
@[simp] def W166_6 := C.w K166_6.eq_1
def K166_7:C:=.seq (.seq (.pl <| .e 5 2 <|
 .m 5 4 <|
 .x 6 (.bin .gtr (.v 5) (.c (.int .i64 0))) .done) K166_6) K166_5
@[simp] def W166_7 := C.w K166_7.eq_1
def K166_8:C:=.block 0 (.loop 5 [] K166_7)
@[simp] def W166_8 := C.w K166_8.eq_1
def K166_9:Pl:=.m 4 7 .done
@[simp] def W166_9 := Pl.w K166_9.eq_1
def K166_10:C:=.seq (.seq (.pl <| .e 5 3 <|
 .a 5 3 <|
 .g 6 5 3 0 <|
 .c 7 (.call fn_spec_l5Arity [.v 6]) K166_9) K166_8) K166_1
@[simp] def W166_10 := C.w K166_10.eq_1
def K166_11:Pl:=.x 8 (.build [.int .i64 0,.int .i64 0,.slice none 0 0] [(0,1,.v 7)]) <|
 .o (.pnew 3 (.c (.agg #[.int .i64 0,.int .i64 0,.slice none 0 0])) []) <|
 .o (.pset none 3 0 3 (.v 8)) .done
@[simp] def W166_11 := Pl.w K166_11.eq_1
def K166_12:Pl:=.c 7 (.call fn_spec_l16Rd_num [.v 5,.v 6]) K166_11
@[simp] def W166_12 := Pl.w K166_12.eq_1
def K166_13:C:=.seq (.pl <| .e 5 4 <|
 .m 5 0 <|
 .c 6 (.bls 1 8 [.int .i64 0] [(0,1,.c (.int .i64 7)),(1,1,.c (.int .i64 9)),(2,1,.c (.int .i64 10)),(3,1,.c (.int .i64 3)),(4,1,.c (.int .i64 4)),(5,1,.c (.int .i64 5)),(6,1,.c (.int .i64 6)),(7,1,.c (.int .i64 8))]) K166_12) K166_10
@[simp] def W166_13 := C.w K166_13.eq_1
def K166_14:Pl:=.x 8 (.build [.int .i64 0,.int .i64 0,.slice none 0 0] [(0,1,.c (.int .i64 2)),(1,1,.v 7)]) <|
 .o (.pset none 2 0 3 (.v 8)) .done
@[simp] def W166_14 := Pl.w K166_14.eq_1
def K166_15:Pl:=.c 7 (.call fn_spec_l16Rd_num [.v 5,.v 6]) K166_14
@[simp] def W166_15 := Pl.w K166_15.eq_1
def K166_16:C:=.seq (.pl <| .e 5 4 <|
 .m 5 0 <|
 .c 6 (.bls 1 4 [.int .i64 0] [(0,1,.c (.int .i64 0)),(1,1,.c (.int .i64 1)),(2,1,.c (.int .i64 0)),(3,1,.c (.int .i64 2))]) K166_15) (.ret)
@[simp] def W166_16 := C.w K166_16.eq_1
def K166_17:Pl:=.o (.pset none 2 0 3 (.v 5)) .done
@[simp] def W166_17 := Pl.w K166_17.eq_1
def K166_18:C:=.seq (.pl <| .e 5 1 <|
 .c 5 (.call fn_spec_l5True []) K166_17) (.ret)
@[simp] def W166_18 := C.w K166_18.eq_1
def K166_19:C:=.cond 5 (.v 7) K166_18 (.skip)
@[simp] def W166_19 := C.w K166_19.eq_1
def K166_20:Pl:=.x 7 (.bin .eql (.v 6) (.c (.int .i64 0))) .done
@[simp] def W166_20 := Pl.w K166_20.eq_1
def K166_21:C:=.seq (.seq (.pl <| .e 5 3 <|
 .m 5 0 <|
 .c 6 (.call fn_spec_l16Rd_pick [.v 5,.c (.int .i64 8)]) K166_20) K166_19) K166_16
@[simp] def W166_21 := C.w K166_21.eq_1
def K166_22:C:=.cond 5 (.v 11) K166_21 (.skip)
@[simp] def W166_22 := C.w K166_22.eq_1
def K166_23:Pl:=.n 7 (.px (some 10) (.bin .eql (.v 9) (.c (.int .i64 0)))) <|
 .x 11 (.pick (.v 7) (.c (.bool true)) (.v 10)) .done
@[simp] def W166_23 := Pl.w K166_23.eq_1
def K166_24:C:=.seq (.seq (.pl <| .e 5 7 <|
 .m 5 1 <|
 .x 6 (.bin .lss (.v 5) (.c (.int .i64 2))) <|
 .m 7 6 <|
 .n 7 (.px (some 8) (.mv (.v 0))) <|
 .st (.act (some (.v 7,false)) (.ex (some 9) (.call fn_spec_l16Rd_pick [.v 8,.c (.int .i64 5)]))) K166_23) K166_22) K166_13
@[simp] def W166_24 := C.w K166_24.eq_1
def B_spec_l5Random:C:=.seq (.pl <| .e 5 0 <|
 .o (.pnew 2 (.c (.agg #[.int .i64 0,.int .i64 0,.slice none 0 0])) []) .done) K166_24
@[simp] def WB_spec_l5Random := C.w B_spec_l5Random.eq_1
def R_spec_l5Random:FIR:=⟨B_spec_l5Random,5,[(2,some (some 3))]⟩
theorem IR_spec_l5Random:cfun Tryz.prog H_spec_l5Random Tryz.f166=some R_spec_l5Random:=by kernel_rfl
theorem EN_spec_l5Random:ENT Tryz.prog B_spec_l5Random [(2,some (some 3))] 2 5 fn_spec_l5Random:=fun hargs hw=>enter Tryz.func166 rfl IR_spec_l5Random hargs hw
def H_spec_l6Word:Hint:=⟨[(0,false),(1,false),(4,false),(5,false),(6,false)],[[2]]⟩
def K111_1:C:=.seq (.pl <| .e 5 1 <|
 .m 5 3 <|
 .m 2 5 .done) (.ret)
@[simp] def W111_1 := C.w K111_1.eq_1
def K111_2:C:=.pl <| .e 5 2 <|
 .m 5 4 <|
 .x 6 (.bin .add (.v 5) (.c (.int .i64 1))) <|
 .m 4 6 .done
@[simp] def W111_2 := C.w K111_2.eq_1
def K111_3:Pl:=.m 3 10 .done
@[simp] def W111_3 := Pl.w K111_3.eq_1
def K111_4:Pl:=.o (.psl 9 [.int .i64 0] [(0,1,.v 8)]) <|
 .c 10 (.app 8 1 [.int .i64 0] (.o (.v 5)) (.p 1 9)) K111_3
@[simp] def W111_4 := Pl.w K111_4.eq_1
def K111_5:Pl:=.c 8 (.call fn_spec_l16Rd_num [.v 6,.v 7]) K111_4
@[simp] def W111_5 := Pl.w K111_5.eq_1
def K111_6:C:=.seq (.block 1 (.pl <| .e 5 6 <|
 .m 5 3 <|
 .m 6 0 <|
 .c 7 (.bls 1 9 [.int .i64 0] [(0,1,.c (.int .i64 0)),(1,1,.c (.int .i64 1)),(2,1,.c (.int .i64 2)),(3,1,.c (.int .i64 3)),(4,1,.c (.int .i64 1)),(5,1,.c (.int .i64 0)),(6,1,.c (.int .i64 5)),(7,1,.c (.int .i64 4)),(8,1,.c (.int .i64 7))]) K111_5)) K111_2
@[simp] def W111_6 := C.w K111_6.eq_1
def K111_7:C:=.cond 5 (.v 7) (.skip) (.exit 0)
@[simp] def W111_7 := C.w K111_7.eq_1
def K111_8:C:=.seq (.seq (.pl <| .e 5 3 <|
 .m 5 4 <|
 .m 6 1 <|
 .x 7 (.bin .lss (.v 5) (.v 6)) .done) K111_7) K111_6
@[simp] def W111_8 := C.w K111_8.eq_1
def K111_9:C:=.block 0 (.loop 5 [2] K111_8)
@[simp] def W111_9 := C.w K111_9.eq_1
def K111_10:C:=.seq (.seq (.pl <| .e 5 0 <|
 .x 4 (.mv (.c (.int .i64 0))) .done) K111_9) K111_1
@[simp] def W111_10 := C.w K111_10.eq_1
def K111_11:Pl:=.m 3 5 .done
@[simp] def W111_11 := Pl.w K111_11.eq_1
def K111_12:C:=.seq (.pl <| .e 5 1 <|
 .c 5 (.bls 1 0 [.int .i64 0] []) K111_11) K111_10
@[simp] def W111_12 := C.w K111_12.eq_1
def B_spec_l6Word:C:=.seq (.pl <| .e 5 0 <|
 .x 2 (.mv (.c (.slice none 0 0))) .done) K111_12
@[simp] def WB_spec_l6Word := C.w B_spec_l6Word.eq_1
def R_spec_l6Word:FIR:=⟨B_spec_l6Word,5,[(2,none)]⟩
theorem IR_spec_l6Word:cfun Tryz.prog H_spec_l6Word Tryz.f111=some R_spec_l6Word:=by kernel_rfl
theorem EN_spec_l6Word:ENT Tryz.prog B_spec_l6Word [(2,none)] 2 5 fn_spec_l6Word:=fun hargs hw=>enter Tryz.func111 rfl IR_spec_l6Word hargs hw
theorem xor_nn {a b:Int}(ha:0≤a) (ha2:a<9223372036854775808) (hb:0≤b) (hb2:b<9223372036854775808):0≤xorI .i64 a b∧xorI .i64 a b<9223372036854775808:=by
 have e1:(BitVec.ofInt 64 a).toNat=a.toNat:=by rw[BitVec.toNat_ofInt];congr 1;exact Int.emod_eq_of_lt ha (by omega)
 have e2:(BitVec.ofInt 64 b).toNat=b.toNat:=by rw[BitVec.toNat_ofInt];congr 1;exact Int.emod_eq_of_lt hb (by omega)
 have h:a.toNat^^^b.toNat<2^63:=Nat.xor_lt_two_pow (by omega) (by omega)
 have e3:xorI .i64 a b=((a.toNat^^^b.toNat:Nat):Int):=by
  unfold xorI
  rw[show IntKind.i64.bits=64 from rfl,BitVec.toNat_xor,e1,e2]
  exact wrap64 (by omega) (by omega)
 rw[e3]
 omega
abbrev rb (b:Nat) (sl:Value) (p:Int):HP:=bx b [sl,.int .i64 p]
theorem tmod_rng {a b:Int}(ha:0≤a) (hb:0<b):0≤a.tmod b∧a.tmod b<b:=by
 rw[Int.tmod_eq_emod_of_nonneg ha]
 exact⟨Int.emod_nonneg _ (by omega),Int.emod_lt_of_pos _ hb⟩
theorem tdiv_rng {a b:Int}(ha:0≤a) (hb:0<b):0≤a.tdiv b∧a.tdiv b≤a:=by
 rw[Int.tdiv_eq_ediv_of_nonneg ha]
 exact⟨Int.ediv_nonneg ha (by omega),Int.ediv_le_self _ ha⟩
theorem c_pick {g h:Heap}{Γ:List HP}{b:Nat}{sl:Value}{l:List (BitVec 8)}{p n:Int}(R:Rep g sl l) (H:HS g (rb b sl p::Γ) h) (hp:0≤p) (hp2:p<1099511627776) (hn:I64 n) :
  CallE Tryz.prog fn_spec_l16Rd_pick [.pointer (some ⟨b,0,none⟩),.int .i64 n] h (fun u h'=>∃r,u=.int .i64 r∧I64 r∧0≤r∧(1≤n→r<n)∧HS g (rb b sl (p+1)::Γ) h'):=by
 have hL:=R.lt
 have hn1:=hn.1
 have hn2:=hn.2
 refine CallE.gen fun k hk=>EN_spec_l16Rd_pick rfl ?_
 have hb0:hload h (some (.pointer (some ⟨b,0,none⟩))) none=some sl:=H.bxld rfl
 have hb1:hload h (some (.pointer (some ⟨b,1,none⟩))) none=some (.int .i64 p):=H.bxld rfl
 simp -implicitDefEqProofs (disch:=first|omega|(simp only[LnZ];omega))[wrap64,hb0,hb1]
 refine HS.bxst (o:=1) (sz:=1) (u:=.int .i64 (p+1)) H rfl rfl rfl rfl (by simp) fun h2 H=>?_
 replace H:HS g (rb b sl (p+1)::Γ) h2:=H
 have hb0:hload h2 (some (.pointer (some ⟨b,0,none⟩))) none=some sl:=H.bxld rfl
 have hb1:hload h2 (some (.pointer (some ⟨b,1,none⟩))) none=some (.int .i64 (p+1)):=H.bxld rfl
 by_cases a1:n<1
 ·simp -implicitDefEqProofs (disch:=first|omega|(simp only[LnZ];omega))[wrap64,hb0,hb1,a1]
  exact RetK.keep (hk _ _ ⟨0,rfl,⟨by omega,by omega⟩,by omega,fun h=>absurd h (by omega),H⟩)
 obtain⟨ln,hln⟩:∃ln:Int,ln=l.length:=⟨_,rfl⟩
 have hlen:=(R.on H).len
 rw[← hln] at hlen
 by_cases a2:ln=0
 ·simp -implicitDefEqProofs (disch:=first|omega|(simp only[LnZ];omega))[wrap64,hb0,hb1,a1,hlen,a2]
  exact RetK.keep (hk _ _ ⟨0,rfl,⟨by omega,by omega⟩,by omega,fun h=>by omega,H⟩)
 obtain⟨m,rfl⟩:∃m:Nat,p=m:=⟨p.toNat,(Int.toNat_of_nonneg hp).symm⟩
 have hn0:¬n=0:=by omega
 by_cases a3:(m:Int)<ln
 ·have hk3:m<l.length:=by omega
  obtain⟨c,hc⟩:∃c:Int,c=l[m].toNat:=⟨_,rfl⟩
  have hc2:c<256:=by have:=l[m].isLt;omega
  have hc0:0≤c:=by omega
  have hld:=(R.on H).Y.2 m hk3
  rw[← hc] at hld
  obtain⟨r1,r2⟩:=tmod_rng hc0 (show 0<n by omega)
  simp -implicitDefEqProofs (disch:=first|omega|(simp only[LnZ];omega))[wrap64,hb0,hb1,a1,hlen,a2,a3,(R.on H).Y.1.1,hld,hn0]
  exact RetK.keep (hk _ _ ⟨c.tmod n,rfl,⟨by omega,by omega⟩,r1,fun _=>r2,H⟩)
 ·obtain⟨s1,s2⟩:=tmod_rng (a:=(m:Int)) (b:=ln) (by omega) (by omega)
  obtain⟨i1,hi1⟩:∃i1:Nat,(m:Int).tmod ln=i1:=⟨_,(Int.toNat_of_nonneg s1).symm⟩
  obtain⟨t1,t2⟩:=tmod_rng (a:=(m:Int)*7+3) (b:=ln) (by omega) (by omega)
  obtain⟨i2,hi2⟩:∃i2:Nat,((m:Int)*7+3).tmod ln=i2:=⟨_,(Int.toNat_of_nonneg t1).symm⟩
  obtain⟨q1,q2⟩:=tdiv_rng (a:=(m:Int)) (b:=ln) (by omega) (by omega)
  obtain⟨q,hq⟩:∃q:Int,(m:Int).tdiv ln=q:=⟨_,rfl⟩
  rw[hi1] at s1 s2
  rw[hi2] at t1 t2
  rw[hq] at q1 q2
  have hl1:i1<l.length:=by omega
  have hl2:i2<l.length:=by omega
  obtain⟨c,hc⟩:∃c:Int,c=l[i1].toNat:=⟨_,rfl⟩
  have hc2:c<256:=by have:=l[i1].isLt;omega
  have hc0:0≤c:=by omega
  have hld:=(R.on H).Y.2 i1 hl1
  rw[← hc] at hld
  obtain⟨d,hd⟩:∃d:Int,d=l[i2].toNat:=⟨_,rfl⟩
  have hd2:d<256:=by have:=l[i2].isLt;omega
  have hd0:0≤d:=by omega
  have hld2:=(R.on H).Y.2 i2 hl2
  rw[← hd] at hld2
  obtain⟨x,hx⟩:∃x:Int,x=c*131+d*1117+(m:Int)*29+q*53:=⟨_,rfl⟩
  have hx0:0≤x:=by omega
  have hx1:x<9223372036854775808:=by omega
  obtain⟨y1,y2⟩:=tdiv_rng (a:=x) (b:=64) hx0 (by omega)
  obtain⟨z1,z2⟩:=xor_nn hx0 hx1 y1 (by omega)
  obtain⟨w1,w2⟩:=tmod_rng z1 (show 0<n by omega)
  simp -implicitDefEqProofs (disch:=first|omega|(simp only[LnZ];omega))[wrap64,hb0,hb1,a1,hlen,a2,a3,(R.on H).Y.1.1,hi1,hi2,hq,hld,hld2,hn0,← hx]
  exact RetK.keep (hk _ _ ⟨_,rfl,⟨by omega,by omega⟩,w1,fun _=>w2,H⟩)
theorem c_num {g h:Heap}{Γ:List HP}{b:Nat}{sl v:Value}{l:List (BitVec 8)}{p:Int}{xs:List Int}(R:Rep g sl l) (H:HS g (ow v xs::rb b sl p::Γ) h) (hp:0≤p) (hp2:p<1099511627776) (hx:xs≠[]) :
  CallE Tryz.prog fn_spec_l16Rd_num [.pointer (some ⟨b,0,none⟩),v] h (fun u h'=>∃r,u=.int .i64 r∧I64 r∧r∈xs∧HS g (rb b sl (p+1)::Γ) h'):=by
 have hL:=H.rep.lt
 have hpos:0<xs.length:=List.length_pos_iff.2 hx
 refine CallE.gen fun k hk=>EN_spec_l16Rd_num rfl ?_
 simp -implicitDefEqProofs (disch:=first|omega|(simp only[LnZ];omega))[wrap64,H.rep.len]
 refine (c_pick R H.sw1 hp hp2 ⟨by omega,by omega⟩).go ?_
 rintro _ h1 ⟨r,rfl,hr,hr0,hr1,H⟩
 obtain⟨i,rfl⟩:∃i:Nat,r=i:=⟨r.toNat,(Int.toNat_of_nonneg hr0).symm⟩
 have hi:i<xs.length:=by have:=hr1 (by omega);omega
 have hok:=H.sw1.rep.okI hi
 simp -implicitDefEqProofs (disch:=first|omega|(simp only[LnZ];omega))[wrap64,H.sw1.rep.I]
 exact RetK.keep (hk _ _ ⟨xs[i],rfl,⟨hok.1,hok.2⟩,List.getElem_mem hi,H.sw1.drop⟩)
theorem c_l16Open {h:Heap}{v:Value}{l:List (BitVec 8)}(R:Rep h v l):CallE Tryz.prog fn_spec_l16Open [v] h (fun u h'=>∃b sl,∃l':List (BitVec 8),u=.pointer (some ⟨b,0,none⟩)∧Rep h sl l'∧HS h [rb b sl 0] h'):=by
 have hL:=R.lt
 refine CallE.gen fun k hk=>EN_spec_l16Open rfl ?_
 by_cases a1:(2000:Int)<l.length
 ·obtain⟨v',e1,R'⟩:=R.cut (n:=2000) (esz:=1) (k:=.i64) (by omega)
  have hO:=R'.one
  have e2:sliceVV 1 v none (some (some (.int .i64 2000))) none=some v':=e1
  simp -implicitDefEqProofs (disch:=first|omega|(simp only[LnZ];omega))[wrap64,R.len,a1,e2,setC,hO,R'.cells]
  refine HS.init.alloc rfl fun b h1 H=>?_
  simp -implicitDefEqProofs (disch:=omega)[wrap64]
  exact RetK.keep (hk _ _ ⟨b,v',_,rfl,R',H⟩)
 ·have hO:=R.one
  simp -implicitDefEqProofs (disch:=first|omega|(simp only[LnZ];omega))[wrap64,R.len,a1,setC,hO,R.cells]
  refine HS.init.alloc rfl fun b h1 H=>?_
  simp -implicitDefEqProofs (disch:=omega)[wrap64]
  exact RetK.keep (hk _ _ ⟨b,v,_,rfl,R,H⟩)
theorem rd_u8 {P:Program}{t:TypeId}(ht:P.underlying t=some (.int .u8)):RdT P t (BitVec 8):=by
 intro H enc W sp fuel cs x h hwt
 cases fuel with
 | zero=>simp[DataW.trod] at h
 | succ n=>
  unfold DataW.trod at h
  rw[ht] at h
  split at h
  case h_2 k k' m h1=>
   simp only[Option.some.injEq,TypeDesc.int.injEq] at h1
   subst h1
   split at h
   case isTrue hc=>
    obtain⟨rfl,hw⟩:=hc
    have:=bounds_u8 hw
    refine⟨BitVec.ofNat 8 m.toNat,?_⟩
    show _=[Value.int .u8 ((BitVec.ofNat 8 m.toNat).toNat:Int)]
    have e:((BitVec.ofNat 8 m.toNat).toNat:Int)=m:=by
     rw[BitVec.toNat_ofNat,Nat.mod_eq_of_lt (by omega)];omega
    rw[e]
   case isFalse=>simp at h
  all_goals simp_all
def H_spec_DrawMonitorFormula:Hint:=⟨[(0,false),(2,true),(3,false),(4,false),(5,true)],[]⟩
def K42_1:Pl:=.o (.pset none 1 0 3 (.v 5)) <|
 .m 2 7 .done
@[simp] def W42_1 := Pl.w K42_1.eq_1
def K42_2:C:=.seq (.pl <| .e 5 3 <|
 .o (.pget (some 5) none 4 0 (some 3)) <|
 .m 6 3 <|
 .c 7 (.call fn_spec_l12Letters [.v 6]) K42_1) (.ret)
@[simp] def W42_2 := C.w K42_2.eq_1
def K42_3:Pl:=.o (.pnew 4 (.c (.agg #[.int .i64 0,.int .i64 0,.slice none 0 0])) []) <|
 .o (.pset none 4 0 3 (.v 8)) .done
@[simp] def W42_3 := Pl.w K42_3.eq_1
def K42_4:Pl:=.c 8 (.call fn_spec_l5Mutate [.v 5,.v 7]) K42_3
@[simp] def W42_4 := Pl.w K42_4.eq_1
def K42_5:C:=.seq (.pl <| .e 5 4 <|
 .m 5 3 <|
 .m 6 3 <|
 .c 7 (.call fn_spec_l5Formula [.v 6]) K42_4) K42_2
@[simp] def W42_5 := C.w K42_5.eq_1
def K42_6:Pl:=.m 3 6 .done
@[simp] def W42_6 := Pl.w K42_6.eq_1
def K42_7:C:=.seq (.pl <| .e 5 2 <|
 .m 5 0 <|
 .c 6 (.call fn_spec_l16Open [.v 5]) K42_6) K42_5
@[simp] def W42_7 := C.w K42_7.eq_1
def B_spec_DrawMonitorFormula:C:=.seq (.pl <| .e 5 0 <|
 .o (.pnew 1 (.c (.agg #[.int .i64 0,.int .i64 0,.slice none 0 0])) []) <|
 .x 2 (.mv (.c (.slice none 0 0))) .done) K42_7
@[simp] def WB_spec_DrawMonitorFormula := C.w B_spec_DrawMonitorFormula.eq_1
def R_spec_DrawMonitorFormula:FIR:=⟨B_spec_DrawMonitorFormula,5,[(1,some (some 3)),(2,none)]⟩
theorem IR_spec_DrawMonitorFormula:cfun Tryz.prog H_spec_DrawMonitorFormula Tryz.f42=some R_spec_DrawMonitorFormula:=by kernel_rfl
theorem EN_spec_DrawMonitorFormula:ENT Tryz.prog B_spec_DrawMonitorFormula [(1,some (some 3)),(2,none)] 1 5 fn_spec_DrawMonitorFormula:=fun hargs hw=>enter Tryz.func42 rfl IR_spec_DrawMonitorFormula hargs hw
def H_spec_l12Letters:Hint:=⟨[(0,false),(2,false),(3,false),(10,false)],[[1,3]]⟩
def K108_1:C:=.seq (.pl <| .e 4 1 <|
 .m 4 2 <|
 .m 1 4 .done) (.ret)
@[simp] def W108_1 := C.w K108_1.eq_1
def K108_2:Pl:=.m 2 9 .done
@[simp] def W108_2 := Pl.w K108_2.eq_1
def K108_3:Pl:=.o (.psl 8 [.int .i64 0] [(0,1,.v 7)]) <|
 .c 9 (.app 8 1 [.int .i64 0] (.o (.v 4)) (.p 1 8)) K108_2
@[simp] def W108_3 := Pl.w K108_3.eq_1
def K108_4:Pl:=.c 7 (.call fn_spec_l16Rd_num [.v 5,.v 6]) K108_3
@[simp] def W108_4 := Pl.w K108_4.eq_1
def K108_5:C:=.pl <| .e 4 6 <|
 .m 4 2 <|
 .m 5 0 <|
 .c 6 (.bls 1 3 [.int .i64 0] [(0,1,.c (.int .i64 8)),(1,1,.c (.int .i64 (-1))),(2,1,.c (.int .i64 9223372036854775807))]) K108_4
@[simp] def W108_5 := C.w K108_5.eq_1
def K108_6:Pl:=.m 2 6 .done
@[simp] def W108_6 := Pl.w K108_6.eq_1
def K108_7:C:=.block 2 (.pl <| .e 4 3 <|
 .m 4 2 <|
 .o (.psl 5 [.int .i64 0] [(0,1,.c (.int .i64 1))]) <|
 .c 6 (.app 8 1 [.int .i64 0] (.o (.v 4)) (.p 1 5)) K108_6)
@[simp] def W108_7 := C.w K108_7.eq_1
def K108_8:C:=.cond 4 (.v 9) (.skip) (.exit 1)
@[simp] def W108_8 := C.w K108_8.eq_1
def K108_9:Pl:=.x 8 (.bin .add (.c (.int .i64 200)) (.v 7)) <|
 .x 9 (.bin .lss (.v 5) (.v 8)) .done
@[simp] def W108_9 := Pl.w K108_9.eq_1
def K108_10:C:=.seq (.seq (.pl <| .e 4 6 <|
 .m 4 2 <|
 .x 5 (.lenV (.v 4)) <|
 .m 6 0 <|
 .c 7 (.call fn_spec_l16Rd_pick [.v 6,.c (.int .i64 2)]) K108_9) K108_8) K108_7
@[simp] def W108_10 := C.w K108_10.eq_1
def K108_11:C:=.block 1 (.loop 4 [1,3] K108_10)
@[simp] def W108_11 := C.w K108_11.eq_1
def K108_12:C:=.cond 4 (.v 5) K108_11 (.skip)
@[simp] def W108_12 := C.w K108_12.eq_1
def K108_13:C:=.seq (.pl <| .e 4 2 <|
 .x 4 (.bin .eql (.v 3) (.c (.int .i64 1))) <|
 .m 5 4 .done) K108_12
@[simp] def W108_13 := C.w K108_13.eq_1
def K108_14:C:=.cond 4 (.v 5) K108_5 K108_13
@[simp] def W108_14 := C.w K108_14.eq_1
def K108_15:C:=.block 0 (.seq (.pl <| .e 4 2 <|
 .x 4 (.bin .eql (.v 3) (.c (.int .i64 0))) <|
 .m 5 4 .done) K108_14)
@[simp] def W108_15 := C.w K108_15.eq_1
def K108_16:C:=.seq (.seq (.pl <| .e 4 1 <|
 .m 4 0 <|
 .c 3 (.call fn_spec_l16Rd_pick [.v 4,.c (.int .i64 40)]) .done) K108_15) K108_1
@[simp] def W108_16 := C.w K108_16.eq_1
def K108_17:Pl:=.m 2 8 .done
@[simp] def W108_17 := Pl.w K108_17.eq_1
def K108_18:Pl:=.c 8 (.call fn_spec_l6Word [.v 4,.v 7]) K108_17
@[simp] def W108_18 := Pl.w K108_18.eq_1
def K108_19:Pl:=.c 7 (.call fn_spec_l16Rd_num [.v 5,.v 6]) K108_18
@[simp] def W108_19 := Pl.w K108_19.eq_1
def K108_20:C:=.seq (.pl <| .e 4 5 <|
 .m 4 0 <|
 .m 5 0 <|
 .c 6 (.bls 1 6 [.int .i64 0] [(0,1,.c (.int .i64 3)),(1,1,.c (.int .i64 2)),(2,1,.c (.int .i64 4)),(3,1,.c (.int .i64 1)),(4,1,.c (.int .i64 0)),(5,1,.c (.int .i64 6))]) K108_19) K108_16
@[simp] def W108_20 := C.w K108_20.eq_1
def B_spec_l12Letters:C:=.seq (.pl <| .e 4 0 <|
 .x 1 (.mv (.c (.slice none 0 0))) .done) K108_20
@[simp] def WB_spec_l12Letters := C.w B_spec_l12Letters.eq_1
def R_spec_l12Letters:FIR:=⟨B_spec_l12Letters,4,[(1,none)]⟩
theorem IR_spec_l12Letters:cfun Tryz.prog H_spec_l12Letters Tryz.f108=some R_spec_l12Letters:=by kernel_rfl
theorem EN_spec_l12Letters:ENT Tryz.prog B_spec_l12Letters [(1,none)] 1 4 fn_spec_l12Letters:=fun hargs hw=>enter Tryz.func108 rfl IR_spec_l12Letters hargs hw
def H_laws_FnMonitorNegation:Hint:=⟨[(0,false),(2,false),(3,true),(4,false),(5,false),(6,true),(7,false),(8,false)],[]⟩
def K12_1:C:=.seq (.pl <| .e 8 12 <|
 .m 8 4 <|
 .x 9 (.bin .eql (.v 8) (.c (.int .i64 1))) <|
 .m 10 7 <|
 .x 11 (.bin .eql (.v 10) (.c (.int .i64 2))) <|
 .x 12 (.eqb false (.v 9) (.v 11)) <|
 .m 13 12 <|
 .y 13 (.px (some 14) (.mv (.v 4))) <|
 .y 13 (.px (some 15) (.bin .eql (.v 14) (.c (.int .i64 0)))) <|
 .y 13 (.px (some 16) (.mv (.v 7))) <|
 .y 13 (.px (some 17) (.bin .eql (.v 16) (.c (.int .i64 0)))) <|
 .y 13 (.px (some 18) (.eqb false (.v 15) (.v 17))) <|
 .x 19 (.pick (.v 13) (.v 18) (.c (.bool false))) <|
 .m 1 19 .done) (.ret)
@[simp] def W12_1 := C.w K12_1.eq_1
def K12_2:Pl:=.x 12 (.bin .eql (.v 8) (.v 11)) <|
 .m 1 12 .done
@[simp] def W12_2 := Pl.w K12_2.eq_1
def K12_3:C:=.seq (.pl <| .e 8 5 <|
 .m 8 4 <|
 .o (.pget (some 9) none 2 0 (some 3)) <|
 .m 10 3 <|
 .c 11 (.call fn_spec_MonitorFormula [.v 9,.v 10]) K12_2) (.ret)
@[simp] def W12_3 := C.w K12_3.eq_1
def K12_4:C:=.cond 8 (.v 24) K12_3 (.skip)
@[simp] def W12_4 := C.w K12_4.eq_1
def K12_5:Pl:=.x 12 (.bin .neq (.v 8) (.v 11)) <|
 .m 13 12 <|
 .n 13 (.px (some 14) (.mv (.v 6))) <|
 .n 13 (.px (some 15) (.un .not (.v 14))) <|
 .x 16 (.pick (.v 13) (.c (.bool true)) (.v 15)) <|
 .m 17 16 <|
 .n 17 (.px (some 18) (.mv (.v 4))) <|
 .n 17 (.px (some 19) (.bin .geq (.v 18) (.c (.int .i64 3)))) <|
 .x 20 (.pick (.v 17) (.c (.bool true)) (.v 19)) <|
 .m 21 20 <|
 .n 21 (.px (some 22) (.mv (.v 7))) <|
 .n 21 (.px (some 23) (.bin .geq (.v 22) (.c (.int .i64 3)))) <|
 .x 24 (.pick (.v 21) (.c (.bool true)) (.v 23)) .done
@[simp] def W12_5 := Pl.w K12_5.eq_1
def K12_6:C:=.seq (.seq (.pl <| .e 8 17 <|
 .m 8 4 <|
 .o (.pget (some 9) none 2 0 (some 3)) <|
 .m 10 3 <|
 .c 11 (.call fn_spec_MonitorFormula [.v 9,.v 10]) K12_5) K12_4) K12_1
@[simp] def W12_6 := C.w K12_6.eq_1
def K12_7:Pl:=.m 7 10 .done
@[simp] def W12_7 := Pl.w K12_7.eq_1
def K12_8:C:=.seq (.pl <| .e 8 3 <|
 .o (.pget (some 8) none 5 0 (some 3)) <|
 .m 9 3 <|
 .c 10 (.call fn_impl_MonitorFormula [.v 8,.v 9]) K12_7) K12_6
@[simp] def W12_8 := C.w K12_8.eq_1
def K12_9:Pl:=.m 10 9 <|
 .x 11 (.extract 0 (.v 10)) <|
 .x 12 (.extract 1 (.v 10)) <|
 .o (.pnew 5 (.c (.agg #[.int .i64 0,.int .i64 0,.slice none 0 0])) []) <|
 .o (.pset none 5 0 3 (.v 11)) <|
 .m 6 12 .done
@[simp] def W12_9 := Pl.w K12_9.eq_1
def K12_10:C:=.seq (.pl <| .e 8 5 <|
 .o (.pget (some 8) none 2 0 (some 3)) <|
 .c 9 (.call fn_impl_NegateFormula [.v 8]) K12_9) K12_8
@[simp] def W12_10 := C.w K12_10.eq_1
def K12_11:Pl:=.m 4 10 .done
@[simp] def W12_11 := Pl.w K12_11.eq_1
def K12_12:C:=.seq (.pl <| .e 8 3 <|
 .o (.pget (some 8) none 2 0 (some 3)) <|
 .m 9 3 <|
 .c 10 (.call fn_impl_MonitorFormula [.v 8,.v 9]) K12_11) K12_10
@[simp] def W12_12 := C.w K12_12.eq_1
def K12_13:Pl:=.m 10 9 <|
 .x 11 (.extract 0 (.v 10)) <|
 .x 12 (.extract 1 (.v 10)) <|
 .o (.pnew 2 (.c (.agg #[.int .i64 0,.int .i64 0,.slice none 0 0])) []) <|
 .o (.pset none 2 0 3 (.v 11)) <|
 .m 3 12 .done
@[simp] def W12_13 := Pl.w K12_13.eq_1
def K12_14:C:=.seq (.pl <| .e 8 5 <|
 .m 8 0 <|
 .c 9 (.call fn_spec_DrawMonitorFormula [.v 8]) K12_13) K12_12
@[simp] def W12_14 := C.w K12_14.eq_1
def K12_15:C:=.seq (.pl <| .e 8 0 <|
 .x 1 (.mv (.c (.bool true))) .done) (.ret)
@[simp] def W12_15 := C.w K12_15.eq_1
def K12_16:C:=.cond 8 (.v 10) K12_15 (.skip)
@[simp] def W12_16 := C.w K12_16.eq_1
def K12_17:C:=.seq (.seq (.pl <| .e 8 3 <|
 .m 8 0 <|
 .x 9 (.lenV (.v 8)) <|
 .x 10 (.bin .gtr (.v 9) (.c (.int .i64 1048576))) .done) K12_16) K12_14
@[simp] def W12_17 := C.w K12_17.eq_1
def B_laws_FnMonitorNegation:C:=.seq (.pl <| .e 8 0 <|
 .x 1 (.mv (.c (.bool false))) .done) K12_17
@[simp] def WB_laws_FnMonitorNegation := C.w B_laws_FnMonitorNegation.eq_1
def R_laws_FnMonitorNegation:FIR:=⟨B_laws_FnMonitorNegation,8,[(1,none)]⟩
theorem IR_laws_FnMonitorNegation:cfun Tryz.prog H_laws_FnMonitorNegation Tryz.f12=some R_laws_FnMonitorNegation:=by kernel_rfl
theorem EN_laws_FnMonitorNegation:ENT Tryz.prog B_laws_FnMonitorNegation [(1,none)] 1 8 fn_laws_FnMonitorNegation:=fun hargs hw=>enter Tryz.func12 rfl IR_laws_FnMonitorNegation hargs hw
def H_impl_MonitorFormula:Hint:=⟨[(0,false),(1,false),(2,true),(4,false),(5,false),(6,false)],[]⟩
def K39_1:C:=.seq (.pl <| .e 6 6 <|
 .m 6 4 <|
 .m 7 4 <|
 .x 8 (.lenV (.v 7)) <|
 .x 9 (.bin .sub (.v 8) (.c (.int .i64 1))) <|
 .x 10 (.ia 1 (.v 6) (.v 9)) <|
 .l 11 10 <|
 .m 3 11 .done) (.ret)
@[simp] def W39_1 := C.w K39_1.eq_1
def K39_2:C:=.seq (.pl <| .e 6 1 <|
 .m 6 5 <|
 .m 3 6 .done) (.ret)
@[simp] def W39_2 := C.w K39_2.eq_1
def K39_3:C:=.cond 6 (.v 7) K39_2 (.skip)
@[simp] def W39_3 := C.w K39_3.eq_1
def K39_4:C:=.seq (.seq (.pl <| .e 6 2 <|
 .m 6 5 <|
 .x 7 (.bin .neq (.v 6) (.c (.int .i64 0))) .done) K39_3) K39_1
@[simp] def W39_4 := C.w K39_4.eq_1
def K39_5:Pl:=.m 9 8 <|
 .x 10 (.extract 0 (.v 9)) <|
 .x 11 (.extract 1 (.v 9)) <|
 .m 4 10 <|
 .m 5 11 .done
@[simp] def W39_5 := Pl.w K39_5.eq_1
def K39_6:C:=.seq (.pl <| .e 6 6 <|
 .o (.pget (some 6) none 2 0 (some 3)) <|
 .m 7 1 <|
 .c 8 (.call fn_impl_monitorRun [.v 6,.v 7]) K39_5) K39_4
@[simp] def W39_6 := C.w K39_6.eq_1
def B_impl_MonitorFormula:C:=.seq (.pl <| .e 6 0 <|
 .o (.pnew 2 (.v 0) []) <|
 .x 3 (.mv (.c (.int .i64 0))) .done) K39_6
@[simp] def WB_impl_MonitorFormula := C.w B_impl_MonitorFormula.eq_1
def R_impl_MonitorFormula:FIR:=⟨B_impl_MonitorFormula,6,[(3,none)]⟩
theorem IR_impl_MonitorFormula:cfun Tryz.prog H_impl_MonitorFormula Tryz.f39=some R_impl_MonitorFormula:=by kernel_rfl
theorem EN_impl_MonitorFormula:ENT Tryz.prog B_impl_MonitorFormula [(3,none)] 2 6 fn_impl_MonitorFormula:=fun hargs hw=>enter Tryz.func39 rfl IR_impl_MonitorFormula hargs hw
def H_spec_MonitorFormula:Hint:=⟨[(0,false),(1,false),(2,true),(4,false),(5,true),(6,true),(7,false)],[]⟩
def K37_1:Pl:=.m 3 10 .done
@[simp] def W37_1 := Pl.w K37_1.eq_1
def K37_2:C:=.seq (.pl <| .e 7 4 <|
 .o (.pget (some 7) none 4 0 (some 3)) <|
 .o (.pget (some 8) none 5 0 (some 3)) <|
 .m 9 1 <|
 .c 10 (.call fn_spec_l12Verdict [.v 7,.v 8,.v 9]) K37_1) (.ret)
@[simp] def W37_2 := C.w K37_2.eq_1
def K37_3:C:=.seq (.pl <| .e 7 0 <|
 .x 3 (.mv (.c (.int .i64 4))) .done) (.ret)
@[simp] def W37_3 := C.w K37_3.eq_1
def K37_4:C:=.cond 7 (.v 8) K37_3 (.skip)
@[simp] def W37_4 := C.w K37_4.eq_1
def K37_5:C:=.seq (.seq (.pl <| .e 7 2 <|
 .m 7 6 <|
 .x 8 (.un .not (.v 7)) .done) K37_4) K37_2
@[simp] def W37_5 := C.w K37_5.eq_1
def K37_6:Pl:=.m 9 8 <|
 .x 10 (.extract 0 (.v 9)) <|
 .x 11 (.extract 1 (.v 9)) <|
 .x 12 (.extract 2 (.v 9)) <|
 .o (.pnew 4 (.c (.agg #[.slice none 0 0,.slice none 0 0,.slice none 0 0])) []) <|
 .o (.pnew 5 (.c (.agg #[.slice none 0 0,.slice none 0 0,.slice none 0 0])) []) <|
 .o (.pset none 4 0 3 (.v 10)) <|
 .o (.pset none 5 0 3 (.v 11)) <|
 .m 6 12 .done
@[simp] def W37_6 := Pl.w K37_6.eq_1
def K37_7:C:=.seq (.pl <| .e 7 6 <|
 .o (.pget (some 7) none 2 0 (some 3)) <|
 .c 8 (.call fn_spec_l12Both [.v 7]) K37_6) K37_5
@[simp] def W37_7 := C.w K37_7.eq_1
def K37_8:C:=.seq (.pl <| .e 7 0 <|
 .x 3 (.mv (.c (.int .i64 3))) .done) (.ret)
@[simp] def W37_8 := C.w K37_8.eq_1
def K37_9:C:=.cond 7 (.v 14) K37_8 (.skip)
@[simp] def W37_9 := C.w K37_9.eq_1
def K37_10:Pl:=.n 10 (.px (some 13) (.un .not (.v 12))) <|
 .x 14 (.pick (.v 10) (.c (.bool true)) (.v 13)) .done
@[simp] def W37_10 := Pl.w K37_10.eq_1
def K37_11:Pl:=.x 9 (.un .not (.v 8)) <|
 .m 10 9 <|
 .n 10 (.px (some 11) (.mv (.v 1))) <|
 .st (.act (some (.v 10,false)) (.ex (some 12) (.call fn_spec_l12Word [.v 11]))) K37_10
@[simp] def W37_11 := Pl.w K37_11.eq_1
def K37_12:C:=.seq (.seq (.pl <| .e 7 8 <|
 .o (.pget (some 7) none 2 0 (some 3)) <|
 .c 8 (.call fn_spec_FormulaValid [.v 7]) K37_11) K37_9) K37_7
@[simp] def W37_12 := C.w K37_12.eq_1
def B_spec_MonitorFormula:C:=.seq (.pl <| .e 7 0 <|
 .o (.pnew 2 (.v 0) []) <|
 .x 3 (.mv (.c (.int .i64 0))) .done) K37_12
@[simp] def WB_spec_MonitorFormula := C.w B_spec_MonitorFormula.eq_1
def R_spec_MonitorFormula:FIR:=⟨B_spec_MonitorFormula,7,[(3,none)]⟩
theorem IR_spec_MonitorFormula:cfun Tryz.prog H_spec_MonitorFormula Tryz.f37=some R_spec_MonitorFormula:=by kernel_rfl
theorem EN_spec_MonitorFormula:ENT Tryz.prog B_spec_MonitorFormula [(3,none)] 2 7 fn_spec_MonitorFormula:=fun hargs hw=>enter Tryz.func37 rfl IR_spec_MonitorFormula hargs hw
namespace Fm
theorem arity_ge {k:Int}:-1≤arity k:=by
 unfold arity
 split<;>(try split)<;>(try split)<;>omega
end Fm
theorem nods_append:∀{l l2:List Exq},Exq.nods (l++l2)=Exq.nods l+Exq.nods l2
 | [],_=>by simp[Exq.nods]
 | x::l,l2=>by simp[Exq.nods,nods_append (l:=l) (l2:=l2)];omega
theorem c_l5Random {b:Nat}{sl:Value}{l:List (BitVec 8)}:∀(d:Nat),d≤4→∀{g h:Heap}{Γ:List HP}{p:Int},Rep g sl l→HS g (rb b sl p::Γ) h→0≤p→p+4*(2^d:Nat)≤1000000000000 →
  CallE Tryz.prog fn_spec_l5Random [.pointer (some ⟨b,0,none⟩),.int .i64 d] h (fun u h'=>∃(y:Exq) (p':Int),HS g (ow u y::rb b sl p'::Γ) h'∧y.nod<2^(d+1)∧p≤p'∧p'≤p+(4*(2^d:Nat)-2)):=by
 intro d
 induction d with
 | zero=>
  intro _ g h Γ p R H hp hp2
  refine CallE.gen fun k hk=>EN_spec_l5Random rfl ?_
  simp -implicitDefEqProofs (disch:=omega)[wrap64]
  refine (c_pick R H (by omega) (by omega) ⟨by decide,by decide⟩).go ?_
  rintro _ hL1 ⟨r1,rfl,o1,z1,y1,H⟩
  by_cases c1:r1=0
  ·simp -implicitDefEqProofs (disch:=first|omega|(simp only[LnZ];omega))[wrap64,c1]
   refine c_l5True.go ?_
   rintro _ hL2 ⟨rfl,rfl⟩
   simp -implicitDefEqProofs (disch:=first|omega|(simp only[LnZ];omega))[wrap64,setC]
   exact RetK.keep (hk _ _ ⟨Exq.mk 1 0 [],_,H.leaf i64c i64c,by simp[Exq.nod,Exq.nods]<;>omega,by omega,by omega⟩)
  ·simp -implicitDefEqProofs (disch:=first|omega|(simp only[LnZ];omega))[wrap64,c1]
   refine H.bls [(0:Int),1,0,2] rfl rfl (okL (by decide)) (by decide) fun v hL2 H=>?_
   simp -implicitDefEqProofs (disch:=omega)[wrap64]
   refine (c_num R H (by omega) (by omega) (by simp)).go ?_
   rintro _ hL3 ⟨r2,rfl,o2,_,H⟩
   simp -implicitDefEqProofs (disch:=first|omega|(simp only[LnZ];omega))[wrap64,setC]
   exact RetK.keep (hk _ _ ⟨Exq.mk 2 r2 [],_,H.leaf i64c o2,by simp[Exq.nod,Exq.nods]<;>omega,by omega,by omega⟩)
 | succ d ih=>
  intro hd g h Γ p R H hp hp2
  have hq0:2^(d+1)=2*2^d:=by rw[Nat.pow_succ];omega
  have hq1:2^(d+1+1)=4*2^d:=by rw[Nat.pow_succ,Nat.pow_succ];omega
  have hqp:0<2^d:=Nat.two_pow_pos d
  refine CallE.gen fun k hk=>EN_spec_l5Random rfl ?_
  rw[hq0,hq1] at hk
  rw[hq0] at ih
  generalize hQ:2^d=q at *
  by_cases h2:d=0
  ·simp -implicitDefEqProofs (disch:=first|omega|(simp only[LnZ];omega))[wrap64,h2]
   refine (c_pick R H (by omega) (by omega) ⟨by decide,by decide⟩).go ?_
   rintro _ hL1 ⟨r1,rfl,o1,z1,y1,H⟩
   by_cases c1:r1=0
   ·simp -implicitDefEqProofs (disch:=first|omega|(simp only[LnZ];omega))[wrap64,c1]
    refine c_l5True.go ?_
    rintro _ hL2 ⟨rfl,rfl⟩
    simp -implicitDefEqProofs (disch:=first|omega|(simp only[LnZ];omega))[wrap64,setC]
    exact RetK.keep (hk _ _ ⟨Exq.mk 1 0 [],_,H.leaf i64c i64c,by simp[Exq.nod,Exq.nods]<;>omega,by omega,by omega⟩)
   ·simp -implicitDefEqProofs (disch:=first|omega|(simp only[LnZ];omega))[wrap64,c1]
    refine H.bls [(0:Int),1,0,2] rfl rfl (okL (by decide)) (by decide) fun v hL2 H=>?_
    simp -implicitDefEqProofs (disch:=omega)[wrap64]
    refine (c_num R H (by omega) (by omega) (by simp)).go ?_
    rintro _ hL3 ⟨r2,rfl,o2,_,H⟩
    simp -implicitDefEqProofs (disch:=first|omega|(simp only[LnZ];omega))[wrap64,setC]
    exact RetK.keep (hk _ _ ⟨Exq.mk 2 r2 [],_,H.leaf i64c o2,by simp[Exq.nod,Exq.nods]<;>omega,by omega,by omega⟩)
  ·have h3:¬((d:Int)+1<2):=by omega
   simp -implicitDefEqProofs (disch:=first|omega|(simp only[LnZ];omega))[wrap64,h3]
   refine (c_pick R H (by omega) (by omega) ⟨by decide,by decide⟩).go ?_
   rintro _ h1 ⟨r0,rfl,o0,z0,y0,H⟩
   by_cases c0:r0=0
   ·simp -implicitDefEqProofs (disch:=first|omega|(simp only[LnZ];omega))[wrap64,c0]
    refine (c_pick R H (by omega) (by omega) ⟨by decide,by decide⟩).go ?_
    rintro _ hL1 ⟨r1,rfl,o1,z1,y1,H⟩
    by_cases c1:r1=0
    ·simp -implicitDefEqProofs (disch:=first|omega|(simp only[LnZ];omega))[wrap64,c1]
     refine c_l5True.go ?_
     rintro _ hL2 ⟨rfl,rfl⟩
     simp -implicitDefEqProofs (disch:=first|omega|(simp only[LnZ];omega))[wrap64,setC]
     exact RetK.keep (hk _ _ ⟨Exq.mk 1 0 [],_,H.leaf i64c i64c,by simp[Exq.nod,Exq.nods]<;>omega,by omega,by omega⟩)
    ·simp -implicitDefEqProofs (disch:=first|omega|(simp only[LnZ];omega))[wrap64,c1]
     refine H.bls [(0:Int),1,0,2] rfl rfl (okL (by decide)) (by decide) fun v hL2 H=>?_
     simp -implicitDefEqProofs (disch:=omega)[wrap64]
     refine (c_num R H (by omega) (by omega) (by simp)).go ?_
     rintro _ hL3 ⟨r2,rfl,o2,_,H⟩
     simp -implicitDefEqProofs (disch:=first|omega|(simp only[LnZ];omega))[wrap64,setC]
     exact RetK.keep (hk _ _ ⟨Exq.mk 2 r2 [],_,H.leaf i64c o2,by simp[Exq.nod,Exq.nods]<;>omega,by omega,by omega⟩)
   ·simp -implicitDefEqProofs (disch:=first|omega|(simp only[LnZ];omega))[wrap64,c0]
    refine H.bls [(7:Int),9,10,3,4,5,6,8] rfl rfl (okL (by decide)) (by decide) fun v h2 H=>?_
    simp -implicitDefEqProofs (disch:=omega)[wrap64]
    refine (c_num R H (by omega) (by omega) (by simp)).go ?_
    rintro _ h4 ⟨kd,rfl,okd,_,H⟩
    have ha:=Fm.arity_le (k:=kd)
    have ha2:=Fm.arity_ge (k:=kd)
    simp -implicitDefEqProofs (disch:=first|omega|(simp only[LnZ];omega))[wrap64,setC]
    refine c_l5Arity.go ?_
    rintro _ h4 ⟨rfl,rfl⟩
    obtain⟨ar,har⟩:∃ar,ar=Fm.arity kd:=⟨_,rfl⟩
    rw[← har] at ha ha2
    simp -implicitDefEqProofs (disch:=first|omega|(simp only[LnZ];omega))[wrap64,← har]
    refine wp_while (σ:=Nat) (fun j e h'=>∃(ks:List Exq) (w:Value) (p':Int),e=[some (.pointer (some ⟨b,0,none⟩)),some (.int .i64 ((d:Int)+1)),some (.agg #[.int .i64 0,.int .i64 0,.slice none 0 0]),some (.agg #[.int .i64 kd,.int .i64 0,w]),some (.int .i64 (ar-j))]∧HS g (ow w ks::rb b sl p'::Γ) h'∧ks.length=j∧Exq.nods ks≤j*(2*q-1)∧j≤2∧p≤p'∧p'≤p+2+j*(4*q-2)) (fun j=>3-j) 0 ⟨[],.slice none 0 0,_,by simp,H.nil_ow,rfl,by simp[Exq.nods],by omega,by omega,by omega⟩ ?_
    clear H
    rintro J j _ h5 hJ ⟨ks,w,p',rfl,H,hkl,hkn,hj,hp3,hp4⟩
    by_cases c2:(j:Int)<ar
    ·have hj2:j=0∨j=1:=by omega
     simp -implicitDefEqProofs (disch:=first|omega|(simp only[LnZ];omega))[wrap64,c2]
     refine (ih (by omega) R H.sw1 (by omega) (by rcases hj2 with rfl | rfl<;>omega)).go ?_
     rintro _ h6 ⟨y,p2,H,hy,hp5,hp6⟩
     obtain⟨wy,rfl,k1,k2,H'⟩:=H.unExq
     have hO':=H'.rep.one
     have hC':=H'.rep.cells
     simp -implicitDefEqProofs (disch:=first|omega|(simp only[LnZ];omega))[wrap64,setC,hO',hC']
     refine HS.appO (bytes:=40) H.sw2.sw1 rfl rfl rfl rfl rfl (by omega) (by omega) fun w' h7 H=>?_
     have hO:=H.rep.one
     have hC:=H.rep.cells
     simp -implicitDefEqProofs (disch:=first|omega|(simp only[LnZ];omega))[wrap64,setC,hO,hC]
     refine hJ (j+1) _ _ (by omega) ⟨ks++[y],w',p2,by simp;omega,H,by simp[hkl],?_,by omega,by omega,?_⟩
     ·rw[nods_append,show Exq.nods [y]=y.nod by simp[Exq.nods]]
      rcases hj2 with rfl | rfl<;>omega
     ·rcases hj2 with rfl | rfl<;>omega
    ·have hO:=H.rep.one
     have hC:=H.rep.cells
     simp -implicitDefEqProofs (disch:=first|omega|(simp only[LnZ];omega))[wrap64,c2,setC,hO,hC]
     refine RetK.keep (hk _ _ ⟨Exq.mk kd 0 ks,p',HS.mkExq' H okd ⟨by decide,by decide⟩,?_,by omega,?_⟩)
     ·rw[Exq.nod_eq,Exq.kids_mk]
      obtain rfl | rfl | rfl:j=0∨j=1∨j=2:=by omega
      all_goals omega
     ·obtain rfl | rfl | rfl:j=0∨j=1∨j=2:=by omega
      all_goals omega
theorem c_l5Formula2 {b:Nat}{sl:Value}{l:List (BitVec 8)}{g h:Heap}{Γ:List HP}{p:Int}(R:Rep g sl l) (H:HS g (rb b sl p::Γ) h) (hp:0≤p) (hp2:p≤900000000000) :
  CallE Tryz.prog fn_spec_l5Formula [.pointer (some ⟨b,0,none⟩)] h (fun u h'=>∃(y:Exq) (p':Int),HS g (ow u y::rb b sl p'::Γ) h'∧p≤p'∧p'≤p+100∧y.nod≤100):=by
 refine CallE.gen fun k hk=>EN_spec_l5Formula rfl ?_
 simp -implicitDefEqProofs (disch:=omega)[wrap64]
 refine H.bls [(3:Int),2,4,3] rfl rfl (okL (by decide)) (by decide) fun v h1 H=>?_
 simp -implicitDefEqProofs (disch:=omega)[wrap64]
 refine (c_num R H (by omega) (by omega) (by simp)).go ?_
 rintro _ h2 ⟨r,rfl,orr,hr,H⟩
 obtain⟨d,rfl,hd⟩:∃d:Nat,r=d∧d≤4:=by
  simp at hr
  exact⟨r.toNat,by omega,by omega⟩
 have hq:2^d≤2^4:=Nat.pow_le_pow_right (by decide) hd
 simp -implicitDefEqProofs (disch:=omega)[wrap64]
 refine (c_l5Random d hd R H (by omega) (by omega)).go ?_
 rintro _ h3 ⟨y,p1,H,hy,hp3,hp4⟩
 have FY:=H.rep.aExq
 simp -implicitDefEqProofs (disch:=first|omega|(simp only[LnZ];omega))[wrap64,FY]
 refine (c_spec_FormulaValid H.rep).go ?_
 rintro _ h3 ⟨rfl,rfl⟩
 by_cases q:Fm.Ok y
 ·simp -implicitDefEqProofs (disch:=first|omega|(simp only[LnZ];omega))[wrap64,q,FY,setC]
  exact RetK.keep (hk _ _ ⟨y,p1,H,by omega,by omega,by rw[Nat.pow_succ] at hy;omega⟩)
 ·simp -implicitDefEqProofs (disch:=first|omega|(simp only[LnZ];omega))[wrap64,q,setC]
  refine HS.blsO1 ((H.drop).leaf (k:=2) (v:=0) i64c i64c) rfl fun w h4 H=>?_
  simp -implicitDefEqProofs (disch:=first|omega|(simp only[LnZ];omega))[wrap64,setC,H.rep.cells,H.rep.one]
  exact RetK.keep (hk _ _ ⟨_,p1,HS.mkExq' (kd:=10) (vl:=0) H i64c i64c,by omega,by omega,by decide⟩)
theorem c_l6Word {b:Nat}{sl:Value}{l:List (BitVec 8)}{g h:Heap}{Γ:List HP}{p:Int}{n:Nat}(R:Rep g sl l) (H:HS g (rb b sl p::Γ) h) (hp:0≤p) (hp2:p≤900000000000) (hn:n≤1000) :
  CallE Tryz.prog fn_spec_l6Word [.pointer (some ⟨b,0,none⟩),.int .i64 n] h (fun u h'=>∃(W:List Int) (p':Int),HS g (ow u W::rb b sl p'::Γ) h'∧W.length=n∧p≤p'∧p'≤p+2*n):=by
 refine CallE.gen fun k hk=>EN_spec_l6Word rfl ?_
 simp -implicitDefEqProofs (disch:=omega)[wrap64]
 refine H.bls0 Int fun o h1 H=>?_
 simp -implicitDefEqProofs (disch:=omega)[wrap64]
 refine wp_count n (fun i e h'=>∃(o:Value) (W:List Int) (p':Int),e=[some (.pointer (some ⟨b,0,none⟩)),some (.int .i64 n),none,some o,some (.int .i64 i)]∧HS g (ow o W::rb b sl p'::Γ) h'∧W.length=i∧p≤p'∧p'≤p+2*i) ⟨o,[],p,by simp,H,rfl,by omega,by omega⟩ ?_
 clear H
 rintro J i _ h2 hJ hi ⟨o,W,p',rfl,H,hW,h3,h4⟩
 simp -implicitDefEqProofs (disch:=omega)[wrap64]
 refine IteW.mk (fun hlt=>?_) (fun hge=>?_)
 ·have hin:i<n:=by omega
  simp -implicitDefEqProofs (disch:=omega)[wrap64]
  refine H.bls [(0:Int),1,2,3,1,0,5,4,7] rfl rfl (okL (by decide)) (by decide) fun v h5 H=>?_
  simp -implicitDefEqProofs (disch:=omega)[wrap64]
  refine (c_num R (H.under fun _ H=>H.sw1) (by omega) (by omega) (by simp)).go ?_
  rintro _ h6 ⟨r,rfl,o1,_,H⟩
  simp -implicitDefEqProofs (disch:=first|omega|(simp only[LnZ];omega))[wrap64,setC]
  refine HS.app1 (bytes:=8) H.sw1 r rfl rfl rfl o1 rfl rfl (by omega) (by omega) fun o' h7 H=>?_
  simp -implicitDefEqProofs (disch:=omega)[wrap64]
  exact hJ _ _ hin ⟨o',_,_,by simp,H,by simp[hW],by omega,by push_cast;omega⟩
 obtain rfl:i=n:=by omega
 simp -implicitDefEqProofs (disch:=omega)[wrap64]
 exact RetK.keep (hk _ _ ⟨W,p',H,hW,h3,h4⟩)
theorem c_l12Letters {b:Nat}{sl:Value}{l:List (BitVec 8)}{g h:Heap}{Γ:List HP}{p:Int}(R:Rep g sl l) (H:HS g (rb b sl p::Γ) h) (hp:0≤p) (hp2:p≤800000000000) :
  CallE Tryz.prog fn_spec_l12Letters [.pointer (some ⟨b,0,none⟩)] h (fun u h'=>∃(W:List Int) (p':Int),HS g (ow u W::rb b sl p'::Γ) h'∧W.length≤300):=by
 refine CallE.gen fun k hk=>EN_spec_l12Letters rfl ?_
 simp -implicitDefEqProofs (disch:=omega)[wrap64]
 refine H.bls [(3:Int),2,4,1,0,6] rfl rfl (okL (by decide)) (by decide) fun v h1 H=>?_
 simp -implicitDefEqProofs (disch:=omega)[wrap64]
 refine (c_num R H (by omega) (by omega) (by simp)).go ?_
 rintro _ h2 ⟨r,rfl,orr,hr,H⟩
 obtain⟨n,rfl,hn5⟩:∃n:Nat,r=n∧n≤6:=by
  simp at hr
  exact⟨r.toNat,by omega,by omega⟩
 simp -implicitDefEqProofs (disch:=omega)[wrap64]
 refine (c_l6Word R H (by omega) (by omega) (by omega)).go ?_
 rintro s1 h3 ⟨S,p1,H,hS,h4,h5⟩
 simp -implicitDefEqProofs (disch:=omega)[wrap64]
 refine (c_pick (n:=40) R H.sw1 (by omega) (by omega) i64c).go ?_
 rintro _ h11 ⟨r,rfl,o3,z3,y3,H⟩
 by_cases q0:r=0
 ·simp -implicitDefEqProofs (disch:=first|omega|(simp only[LnZ];omega))[wrap64,q0]
  refine H.bls [(8:Int),-1,9223372036854775807] rfl rfl (okL (by decide)) (by decide) fun w k5 H=>?_
  simp -implicitDefEqProofs (disch:=omega)[wrap64]
  refine (c_num R H (by omega) (by omega) (by simp)).go ?_
  rintro _ k6 ⟨r2,rfl,o,_,H⟩
  simp -implicitDefEqProofs (disch:=first|omega|(simp only[LnZ];omega))[wrap64,setC]
  refine HS.app1 (bytes:=8) H.sw1 r2 rfl rfl rfl o rfl rfl (by omega) (by omega) fun w1 k7 H=>?_
  simp -implicitDefEqProofs (disch:=omega)[wrap64]
  exact RetK.keep (hk _ _ ⟨_,_,H,by simp;omega⟩)
 by_cases q1:r=1
 ·simp -implicitDefEqProofs (disch:=first|omega|(simp only[LnZ];omega))[wrap64,q0,q1]
  refine wp_while (σ:=Nat) (fun j e h'=>∃(w:Value) (T:List Int) (q:Int),e=[some (.pointer (some ⟨b,0,none⟩)),none,some w,none]∧HS g (ow w T::rb b sl q::Γ) h'∧T.length=S.length+j∧T.length≤202∧p≤q∧q≤p+200+j) (fun j=>300-j) 0 ⟨s1,S,_,by simp,H.sw1,by omega,by omega,by omega,by omega⟩ ?_
  clear H
  rintro J j _ k5 hJ ⟨w,T,q,rfl,H,hT,hT2,hq1,hq2⟩
  simp -implicitDefEqProofs (disch:=first|omega|(simp only[LnZ];omega))[wrap64,H.rep.len]
  refine (c_pick (n:=2) R H.sw1 (by omega) (by omega) i64c).go ?_
  rintro _ k6 ⟨r2,rfl,o,z2,y2,H⟩
  by_cases c:(T.length:Int)<200+r2
  ·simp -implicitDefEqProofs (disch:=first|omega|(simp only[LnZ];omega))[wrap64,c,setC]
   refine HS.app1 (bytes:=8) H.sw1 (1:Int) rfl rfl rfl ⟨by omega,by omega⟩ rfl rfl (by omega) (by omega) fun w1 k7 H=>?_
   simp -implicitDefEqProofs (disch:=omega)[wrap64]
   exact hJ (j+1) _ _ (by omega) ⟨w1,_,_,by simp,H,by simp;omega,by simp;omega,by omega,by push_cast;omega⟩
  ·simp -implicitDefEqProofs (disch:=first|omega|(simp only[LnZ];omega))[wrap64,c]
   exact RetK.keep (hk _ _ ⟨_,_,H.sw1,by omega⟩)
 simp -implicitDefEqProofs (disch:=first|omega|(simp only[LnZ];omega))[wrap64,q0,q1]
 exact RetK.keep (hk _ _ ⟨_,_,H.sw1,by omega⟩)
theorem c_l5Mutate {b:Nat}{sl v:Value}{l:List (BitVec 8)}{g h:Heap}{Γ:List HP}{p:Int}{x:Exq}(R:Rep g sl l) (Rx:Rep g v x) (hx:x.nod≤1000) (H:HS g (rb b sl p::Γ) h) (hp:0≤p) (hp2:p≤900000000000) :
  CallE Tryz.prog fn_spec_l5Mutate [.pointer (some ⟨b,0,none⟩),v] h (fun u h'=>∃(y:Exq) (p':Int),HS g (ow u y::rb b sl p'::Γ) h'∧p≤p'∧p'≤p+2):=by
 have FX:=Rx.aExq
 refine CallE.gen fun k hk=>EN_spec_l5Mutate rfl ?_
 simp -implicitDefEqProofs (disch:=first|omega|(simp only[LnZ];omega))[wrap64,FX]
 refine (c_l5Copy x (by omega) (Rx.on H)).go ?_
 intro u h1 G
 have H:=G.app H
 have FU:=H.rep.aExq
 obtain⟨wu,rfl,k1,k2,H⟩:=H.unExq
 have hO:=H.rep.one
 have hC:=H.rep.cells
 have hkl:x.kids.length≤1000:=by
  have h1:=x.nod_eq
  have key:∀l:List Exq,l.length≤Exq.nods l:=by
   intro l
   induction l with
   | nil=>simp
   | cons y l ih=>simp only[Exq.nods,List.length_cons];have:=y.nod_eq;omega
  have:=key x.kids
  omega
 simp -implicitDefEqProofs (disch:=first|omega|(simp only[LnZ];omega))[wrap64,setC,FU,hO,hC]
 refine (c_pick (n:=50) R H.sw1 (by omega) (by omega) i64c).go ?_
 rintro _ h2 ⟨r,rfl,o3,z3,y3,H⟩
 by_cases q0:r=0
 ·simp -implicitDefEqProofs (disch:=first|omega|(simp only[LnZ];omega))[wrap64,q0]
  refine H.bls [(0:Int),11,-1,2,3,4] rfl rfl (okL (by decide)) (by decide) fun w h3 H=>?_
  simp -implicitDefEqProofs (disch:=omega)[wrap64]
  refine (c_num R H (by omega) (by omega) (by simp)).go ?_
  rintro _ h4 ⟨r2,rfl,o2,_,H⟩
  simp -implicitDefEqProofs (disch:=first|omega|(simp only[LnZ];omega))[wrap64,setC,hO,hC]
  exact RetK.keep (hk _ _ ⟨Exq.mk r2 x.val x.kids,_,HS.mkExq' (kd:=r2) (vl:=x.val) H.sw1 o2 k2,by omega,by omega⟩)
 by_cases q1:r=1
 ·simp -implicitDefEqProofs (disch:=first|omega|(simp only[LnZ];omega))[wrap64,q0,q1]
  refine H.bls [(-1:Int),3,2,9223372036854775807] rfl rfl (okL (by decide)) (by decide) fun w h3 H=>?_
  simp -implicitDefEqProofs (disch:=omega)[wrap64]
  refine (c_num R H (by omega) (by omega) (by simp)).go ?_
  rintro _ h4 ⟨r2,rfl,o2,_,H⟩
  simp -implicitDefEqProofs (disch:=first|omega|(simp only[LnZ];omega))[wrap64,setC,hO,hC]
  exact RetK.keep (hk _ _ ⟨Exq.mk x.kind r2 x.kids,_,HS.mkExq' (kd:=x.kind) (vl:=r2) H.sw1 k1 o2,by omega,by omega⟩)
 by_cases q2:r=2
 ·simp -implicitDefEqProofs (disch:=first|omega|(simp only[LnZ];omega))[wrap64,q0,q1,q2,setC,hO,hC]
  refine c_l5True.go ?_
  rintro _ h3 ⟨rfl,rfl⟩
  have H0:HS g (ow _ Fm.tru::_) h3:=H.leaf (k:=1) (v:=0) i64c i64c
  simp -implicitDefEqProofs (disch:=first|omega|(simp only[LnZ];omega))[wrap64,setC,hO,hC]
  refine HS.appO (bytes:=40) (H0.sw2.sw1) rfl rfl rfl rfl rfl (by omega) (by omega) fun w' h4 H=>?_
  simp -implicitDefEqProofs (disch:=first|omega|(simp only[LnZ];omega))[wrap64,setC,H.rep.one,H.rep.cells]
  exact RetK.keep (hk _ _ ⟨Exq.mk x.kind x.val (x.kids++[Fm.tru]),_,HS.mkExq' (kd:=x.kind) (vl:=x.val) H k1 k2,by omega,by omega⟩)
 by_cases q3:r=3
 ·simp -implicitDefEqProofs (disch:=first|omega|(simp only[LnZ];omega))[wrap64,q0,q1,q2,q3,setC]
  exact RetK.keep (hk _ _ ⟨Exq.mk 0 0 [],_,H.sw1.drop.leaf (k:=0) (v:=0) i64c i64c,by omega,by omega⟩)
 simp -implicitDefEqProofs (disch:=first|omega|(simp only[LnZ];omega))[wrap64,q0,q1,q2,q3,setC,hO,hC]
 exact RetK.keep (hk _ _ ⟨Exq.mk x.kind x.val x.kids,_,HS.mkExq' (kd:=x.kind) (vl:=x.val) H.sw1 k1 k2,by omega,by omega⟩)
namespace Fm
theorem sat_ngt {w:Nat→Int}{x:Exq}(h:Ok x) {t:Nat}:sat w (ngt x) t↔¬sat w x t:=by
 unfold ngt
 split
 ·rename_i c
  have h1:=h.1.one (.inl c)
  have hl:0<x.kids.length:=by omega
  rw[sat3 c,sk_at hl,List.getD_eq_getElem?_getD,List.getElem?_eq_getElem hl]
  simp
 ·exact sat_neg
theorem pre_ex {W:List Int}(hW:∀y∈W,0≤y∧y≤7):∃w,Lts w∧Pre W w:=by
 refine⟨fun t=>W.getD t 0,fun t=>?_,fun i hi=>by simp[hi]⟩
 by_cases ht:t<W.length
 ·have:=hW _ (List.getElem_mem ht)
  simpa[ht] using this
 ·simp[show W.length≤t by omega]
theorem not_both {x y:Exq}(hx:trOk x) (hy:trOk y) (ax:(trA x).Ok) (ay:(trA y).Ok) (hn:∀w,sat w y 0↔¬sat w x 0) {W:List Int}(hW:∀y∈W,0≤y∧y≤7):¬((trA x).states W=[]∧(trA y).states W=[]):=by
 rintro⟨h1,h2⟩
 obtain⟨w,h3,h4⟩:=pre_ex hW
 have h5:=(bad_iff hx ax hW).1 h1 w h3 h4
 exact (bad_iff hy ay hW).1 h2 w h3 h4 ((hn w).2 h5)
end Fm
namespace Fm
theorem Dual.not_both {x y:Exq}(h:Dual x y) {W:List Int}(hW:LtW W):¬((trA x).states W=[]∧(trA y).states W=[]):=Fm.not_both h.tx h.ty h.ax h.ay h.neg hW
theorem vdt_bad {x y:Exq}{W:List Int}:vdt x y W=2↔(trA x).states W=[]:=by
 unfold vdt
 split
 ·rename_i h;simp[h]
 ·rename_i h;split<;>simp[h]
theorem vdt_good {x y:Exq}(h:Dual x y) {W:List Int}(hW:LtW W):vdt x y W=1↔(trA y).states W=[]:=by
 unfold vdt
 split
 ·rename_i h1
  have:¬(trA y).states W=[]:=fun h2=>h.not_both hW ⟨h1,h2⟩
  simp[this]
 ·split
  ·rename_i h2;simp[h2]
  ·rename_i h2;simp[h2]
theorem vdt_swap {x y:Exq}(h:Dual x y) {W:List Int}(hW:LtW W):(vdt x y W=1↔vdt y x W=2)∧(vdt x y W=0↔vdt y x W=0):=by
 have h1:=vdt_good h hW
 have h2:=vdt_good h.symm hW
 have h3:=vdt_bad (x:=x) (y:=y) (W:=W)
 have h4:=vdt_bad (x:=y) (y:=x) (W:=W)
 have h5:=vdt_rng (x:=x) (y:=y) (W:=W)
 have h6:=vdt_rng (x:=y) (y:=x) (W:=W)
 have h7:vdt x y W=1↔vdt y x W=2:=by rw[h1,h4]
 have h8:vdt y x W=1↔vdt x y W=2:=by rw[h2,h3]
 refine⟨h7,?_⟩
 omega
end Fm
namespace Fm
noncomputable def monF (x:Exq) (W:List Int):Int:=if mvd x W=0 then vdt x (ngt x) W else mvd x W
end Fm
namespace Fm
end Fm
theorem c_MonitorFormula {h:Heap}{v w:Value}{x:Exq}{W:List Int}(R:Rep h v x) (RW:Rep h w W):CallE Tryz.prog fn_impl_MonitorFormula [v,w] h (fun u h'=>h.le h'∧u=.int .i64 (Fm.monF x W)):=by
 have FX:=R.aExq
 refine CallE.gen fun k hk=>EN_impl_MonitorFormula rfl ?_
 simp -implicitDefEqProofs (disch:=first|omega|(simp only[LnZ];omega))[wrap64,FX]
 refine (c_monitorRun R RW).go ?_
 rintro _ h1 ⟨l,rfl,H⟩
 unfold Fm.monF at hk
 by_cases hm:Fm.mvd x W=0
 case neg=>
  rw[if_neg hm] at hk
  simp -implicitDefEqProofs (disch:=first|omega|(simp only[LnZ];omega))[wrap64,hm]
  exact RetK.keep (hk _ _ ⟨H.base,rfl⟩)
 rw[if_pos hm] at hk
 rw[Fm.monL,if_pos hm] at H
 have hl:=Fm.runs_len (x:=x) (W:=W)
 have hli:((Fm.runs x W).length:Int)-1=(W.length:Nat):=by omega
 have hR:=RW.lt
 have ha:=Fm.runs_at (x:=x) (W:=W) (i:=W.length) (by omega)
 rw[List.take_length] at ha
 simp -implicitDefEqProofs (disch:=first|omega|(simp only[LnZ];omega))[wrap64,hm,H.rep.I,hli,ha]
 exact RetK.keep (hk _ _ ⟨H.base,rfl⟩)
theorem c_spec_MonitorFormula {h:Heap}{v w:Value}{x:Exq}{W:List Int}(R:Rep h v x) (RW:Rep h w W):CallE Tryz.prog fn_spec_MonitorFormula [v,w] h (fun u h'=>h.le h'∧u=.int .i64 (Fm.monF x W)):=by
 have FX:=R.aExq
 refine CallE.gen fun k hk=>EN_spec_MonitorFormula rfl ?_
 unfold Fm.monF at hk
 simp -implicitDefEqProofs (disch:=first|omega|(simp only[LnZ];omega))[wrap64,FX]
 refine (c_spec_FormulaValid R).go ?_
 rintro _ h1 ⟨rfl,rfl⟩
 by_cases q1:Fm.Ok x
 case neg=>
  have hm:=Fm.mvd_3 (x:=x) (W:=W) fun hh=>q1 hh.1
  rw[if_neg (by omega),hm] at hk
  simp -implicitDefEqProofs (disch:=first|omega|(simp only[LnZ];omega))[wrap64,q1]
  exact RetK.keep (hk _ _ ⟨Heap.le.refl _,rfl⟩)
 simp -implicitDefEqProofs (disch:=first|omega|(simp only[LnZ];omega))[wrap64,q1]
 refine (c_l12Word RW).go ?_
 rintro _ h1 ⟨rfl,rfl⟩
 by_cases q2:Wok W
 case neg=>
  have hm:=Fm.mvd_3 (x:=x) (W:=W) fun hh=>q2 hh.2
  rw[if_neg (by omega),hm] at hk
  simp -implicitDefEqProofs (disch:=first|omega|(simp only[LnZ];omega))[wrap64,q2]
  exact RetK.keep (hk _ _ ⟨Heap.le.refl _,rfl⟩)
 simp -implicitDefEqProofs (disch:=first|omega|(simp only[LnZ];omega))[wrap64,q2,FX]
 refine (c_l12Both R q1).go ?_
 rintro _ h2 ⟨wa,wb,rfl,H⟩
 have FA:=H.rep.aAut
 have FB:=H.sw1.rep.aAut
 by_cases q3:Fm.trOk x∧Fm.trOk (Fm.ngt x)
 case neg=>
  have hm:=Fm.mvd_4 ⟨q1,q2⟩ q3
  rw[if_neg (by omega),hm] at hk
  simp -implicitDefEqProofs (disch:=first|omega|(simp only[LnZ];omega))[wrap64,q3,FA,FB,setC]
  exact RetK.keep (hk _ _ ⟨H.base,rfl⟩)
 have hm:=Fm.mvd_0 ⟨q1,q2⟩ q3
 rw[if_pos hm] at hk
 rw[Fm.trR,if_pos q3.1,Fm.trR,if_pos q3.2] at H
 simp -implicitDefEqProofs (disch:=first|omega|(simp only[LnZ];omega))[wrap64,q3.1,q3.2,FA,FB,setC]
 refine (c_l12Verdict H.rep H.sw1.rep (RW.on H) (Fm.trA_ok q3.1) (Fm.trA_ok q3.2)).go ?_
 rintro _ h3 ⟨l3,rfl⟩
 simp -implicitDefEqProofs (disch:=omega)[wrap64]
 exact RetK.keep (hk _ _ ⟨H.base.trans l3,rfl⟩)
theorem c_DrawMonitorFormula {h:Heap}{v:Value}{l:List (BitVec 8)}(R:Rep h v l):CallE Tryz.prog fn_spec_DrawMonitorFormula [v] h (fun u h'=>∃(u1 u2:Value) (x:Exq) (W:List Int),u=.tuple #[u1,u2]∧h.le h'∧Rep h' u1 x∧Rep h' u2 W∧W.length≤300):=by
 refine CallE.gen fun k hk=>EN_spec_DrawMonitorFormula rfl ?_
 simp -implicitDefEqProofs (disch:=omega)[wrap64]
 refine (c_l16Open R).go ?_
 rintro _ h1 ⟨b,sl,l',rfl,R',H⟩
 simp -implicitDefEqProofs (disch:=omega)[wrap64]
 refine (c_l5Formula2 R' H (by omega) (by omega)).go ?_
 rintro w h2 ⟨x,p1,H,b1,b2,b3⟩
 obtain⟨g1,H1,H2⟩:=HS.rebase (Δ:=[rb b sl p1]) H.sw1
 have FX:=H.rep.aExq
 simp -implicitDefEqProofs (disch:=first|omega|(simp only[LnZ];omega))[wrap64,FX]
 refine (c_l5Mutate (R'.on H1) H1.rep (by omega) H2 (by omega) (by omega)).go ?_
 rintro u h3 ⟨y,p2,H3,c1,c2⟩
 have H:=H3.app H1
 have FY:=H3.rep.aExq
 simp -implicitDefEqProofs (disch:=first|omega|(simp only[LnZ];omega))[wrap64,FY,setC]
 refine (c_l12Letters R' H.sw1 (by omega) (by omega)).go ?_
 rintro z h4 ⟨W,p3,H,d1⟩
 have FY2:=H.sw2.rep.aExq
 simp -implicitDefEqProofs (disch:=first|omega|(simp only[LnZ];omega))[wrap64,FY2,setC]
 exact RetK.keep (hk _ _ ⟨u,z,y,W,rfl,H.base,H.sw2.rep,H.rep,d1⟩)
namespace Fm
theorem mvd_rng {x:Exq}{W:List Int}:mvd x W=0∨mvd x W=3∨mvd x W=4:=by
 by_cases h:Ok x∧Wok W
 ·by_cases h2:trOk x∧trOk (ngt x)
  ·exact .inl (mvd_0 h h2)
  ·exact .inr (.inr (mvd_4 h h2))
 ·exact .inr (.inl (mvd_3 h))
theorem monF_lt {x:Exq}{W:List Int}(h:monF x W<3):mvd x W=0:=by
 unfold monF at h
 rcases mvd_rng (x:=x) (W:=W) with e | e | e
 ·exact e
 ·rw[e,if_neg (by omega)] at h;omega
 ·rw[e,if_neg (by omega)] at h;omega
theorem mvd_ok {x:Exq}{W:List Int}(h:mvd x W=0):(Ok x∧Wok W)∧trOk x∧trOk (ngt x):=by
 have hv:Ok x∧Wok W:=by
  by_cases q:Ok x∧Wok W
  ·exact q
  ·rw[mvd_3 q] at h;omega
 refine⟨hv,?_⟩
 by_cases q:trOk x∧trOk (ngt x)
 ·exact q
 ·rw[mvd_4 hv q] at h;omega
theorem dual_of {x:Exq}(h:trOk x) (h2:trOk (ngt x)):Dual x (ngt x):=⟨h,h2,trA_ok h,trA_ok h2,fun _=>sat_ngt h.1.1.1⟩
theorem vdt_any {x y z:Exq}(h:Dual x y) (h2:Dual x z) {W:List Int}(hW:LtW W):vdt x y W=vdt x z W:=by
 have a1:=vdt_bad (x:=x) (y:=y) (W:=W)
 have a2:=vdt_bad (x:=x) (y:=z) (W:=W)
 have b1:=(vdt_good h hW).trans (h.good hW)
 have b2:=(vdt_good h2 hW).trans (h2.good hW)
 have e1:vdt x y W=2↔vdt x z W=2:=a1.trans a2.symm
 have e2:vdt x y W=1↔vdt x z W=1:=b1.trans b2.symm
 have r1:=vdt_rng (x:=x) (y:=y) (W:=W)
 have r2:=vdt_rng (x:=x) (y:=z) (W:=W)
 omega
end Fm
theorem c_FnMonitorNegation {h:Heap}{v:Value}{l:List (BitVec 8)}(R:Rep h v l):CallE Tryz.prog fn_laws_FnMonitorNegation [v] h (fun u h'=>h.le h'∧u=.bool true):=by
 refine CallE.gen fun k hk=>EN_laws_FnMonitorNegation rfl ?_
 by_cases a1:(1048576:Int)<l.length
 ·simp -implicitDefEqProofs (disch:=first|omega|(simp only[LnZ];omega))[wrap64,R.len,a1]
  exact RetK.keep (hk _ _ ⟨Heap.le.refl _,rfl⟩)
 simp -implicitDefEqProofs (disch:=first|omega|(simp only[LnZ];omega))[wrap64,R.len,a1]
 refine (c_DrawMonitorFormula R).go ?_
 rintro _ h1 ⟨u1,u2,x,W,rfl,l1,Rx,RW,hWl⟩
 have FX:=Rx.aExq
 simp -implicitDefEqProofs (disch:=first|omega|(simp only[LnZ];omega))[wrap64,FX,setC]
 refine (c_MonitorFormula Rx RW).go ?_
 rintro _ h2 ⟨l2,rfl⟩
 simp -implicitDefEqProofs (disch:=first|omega|(simp only[LnZ];omega))[wrap64,FX]
 refine (c_NegateFormula (Rx.le l2)).go ?_
 rintro _ h3 ⟨g,rfl,l3,Rg⟩
 have FG:=Rg.aExq
 have RW:=RW.le (l2.trans l3)
 have Rx:=Rx.le (l2.trans l3)
 simp -implicitDefEqProofs (disch:=first|omega|(simp only[LnZ];omega))[wrap64,FG,setC]
 refine (c_MonitorFormula Rg RW).go ?_
 rintro _ h4 ⟨l4,rfl⟩
 simp -implicitDefEqProofs (disch:=first|omega|(simp only[LnZ];omega))[wrap64,FX]
 refine (c_spec_MonitorFormula (Rx.le l4) (RW.le l4)).go ?_
 rintro _ h5 ⟨l5,rfl⟩
 have lb:=l1.trans (l2.trans (l3.trans (l4.trans l5)))
 have again:∀{k':Value→Prop},True:=fun {_}=>trivial
 by_cases q:Fm.Ok x∧Fm.Ok (Fm.ngt x)
 case neg=>
  have hqb:(decide (Fm.Ok x)&&decide (Fm.Ok (Fm.ngt x)))=false:=by
   rw[← Bool.decide_and];exact decide_eq_false q
  simp -implicitDefEqProofs (disch:=first|omega|(simp only[LnZ];omega))[wrap64,hqb,FX]
  refine (c_spec_MonitorFormula ((Rx.le l4).le l5) ((RW.le l4).le l5)).go ?_
  rintro _ h6 ⟨l6,rfl⟩
  simp -implicitDefEqProofs (disch:=omega)[wrap64]
  exact RetK.keep (hk _ _ ⟨lb.trans l6,rfl⟩)
 rw[if_pos q]
 by_cases q3:Fm.monF x W<3
 case neg=>
  have q3':3≤Fm.monF x W:=by omega
  simp -implicitDefEqProofs (disch:=first|omega|(simp only[LnZ];omega))[wrap64,q.1,q.2,q3',FX]
  refine (c_spec_MonitorFormula ((Rx.le l4).le l5) ((RW.le l4).le l5)).go ?_
  rintro _ h6 ⟨l6,rfl⟩
  simp -implicitDefEqProofs (disch:=omega)[wrap64]
  exact RetK.keep (hk _ _ ⟨lb.trans l6,rfl⟩)
 have q3':¬3≤Fm.monF x W:=by omega
 by_cases q4:Fm.monF (Fm.ngt x) W<3
 case neg=>
  have q4':3≤Fm.monF (Fm.ngt x) W:=by omega
  simp -implicitDefEqProofs (disch:=first|omega|(simp only[LnZ];omega))[wrap64,q.1,q.2,q3',q4',FX]
  refine (c_spec_MonitorFormula ((Rx.le l4).le l5) ((RW.le l4).le l5)).go ?_
  rintro _ h6 ⟨l6,rfl⟩
  simp -implicitDefEqProofs (disch:=omega)[wrap64]
  exact RetK.keep (hk _ _ ⟨lb.trans l6,rfl⟩)
 have q4':¬3≤Fm.monF (Fm.ngt x) W:=by omega
 have m1:=Fm.monF_lt q3
 have m2:=Fm.monF_lt q4
 obtain⟨⟨_,hw⟩,t1,t2⟩:=Fm.mvd_ok m1
 obtain⟨_,_,t3⟩:=Fm.mvd_ok m2
 have hW:Fm.LtW W:=hw.2
 have e1:Fm.monF x W=Fm.vdt x (Fm.ngt x) W:=by rw[Fm.monF,if_pos m1]
 have e2:Fm.monF (Fm.ngt x) W=Fm.vdt (Fm.ngt x) x W:=by
  rw[Fm.monF,if_pos m2]
  exact Fm.vdt_any (Fm.dual_of t2 t3) (Fm.dual_of t1 t2).symm hW
 obtain⟨s1,s2⟩:=Fm.vdt_swap (Fm.dual_of t1 t2) hW
 rw[← e1,← e2] at s1 s2
 have r1:Fm.monF x W=0∨Fm.monF x W=1∨Fm.monF x W=2:=by rw[e1];exact Fm.vdt_rng
 have r2:Fm.monF (Fm.ngt x) W=0∨Fm.monF (Fm.ngt x) W=1∨Fm.monF (Fm.ngt x) W=2:=by rw[e2];exact Fm.vdt_rng
 have d1:decide (Fm.monF x W=1)=decide (Fm.monF (Fm.ngt x) W=2):=decide_eq_decide.2 s1
 have d2:decide (Fm.monF x W=0)=decide (Fm.monF (Fm.ngt x) W=0):=decide_eq_decide.2 s2
 simp -implicitDefEqProofs (disch:=first|omega|(simp only[LnZ];omega))[wrap64,q.1,q.2,q3',q4',d1,d2]
 exact RetK.keep (hk _ _ ⟨lb,by simp⟩)
end Go.Proofs.YtbanccfdojgocaaGreat
