/-
  Texts of this proof, one behind the other.
-/
import Derived.Test.YtedbaenahnfhfaaGreatYF3
set_option linter.all false
set_option linter.unusedVariables false
set_option linter.unusedSimpArgs false
set_option linter.defProp false
set_option maxRecDepth 1000000
namespace Go.Proofs.YtedbaenahnfhfaaGreat
open Go
def H_impl_translator_fulfils:Hint:=⟨[(0,false),(1,false),(2,false),(6,false),(7,false)],[]⟩
abbrev K40_1:Pl:=.x 24 (.pick (.v 10) (.c (.bool true)) (.v 23)) <|
 .m 3 24 .done
abbrev K40_2:C:=.seq (.pl <| .e 5 20 <|
 .m 5 1 <|
 .m 6 4 <|
 .x 7 (.bin .shr (.v 5) (.v 6)) <|
 .x 8 (.bin .and (.v 7) (.c (.int .i64 1))) <|
 .x 9 (.bin .eql (.v 8) (.c (.int .i64 0))) <|
 .m 10 9 <|
 .n 10 (.px (some 11) (.mv (.v 0))) <|
 .n 10 (.px (some 12) (.mv (.v 0))) <|
 .n 10 (.px (some 13) (.nilc (.v 12))) <|
 .n 10 (.px (some 14) (.fa 0 (.v 13))) <|
 .n 10 (.ld (some 15) (.v 14) none) <|
 .n 10 (.px (some 16) (.mv (.v 4))) <|
 .n 10 (.px (some 17) (.ia 3 (.v 15) (.v 16))) <|
 .n 10 (.px (some 18) (.fa 2 (.v 17))) <|
 .n 10 (.ld (some 19) (.v 18) none) <|
 .n 10 (.px (some 20) (.ia 3 (.v 19) (.c (.int .i64 1)))) <|
 .n 10 (.ld (some 21) (.v 20) (some 3)) <|
 .n 10 (.px (some 22) (.mv (.v 1))) <|
 .st (.act (some (.v 10,false)) (.ex (some 23) (.call fn_impl_translator_holds [.v 11,.v 21,.v 22]))) K40_1) (.ret)
abbrev K40_3:C:=.seq (.pl <| .e 5 7 <|
 .m 5 0 <|
 .x 6 (.nilc (.v 5)) <|
 .x 7 (.fa 1 (.v 6)) <|
 .l 8 7 <|
 .m 9 2 <|
 .x 10 (.ia 1 (.v 8) (.v 9)) <|
 .l 11 10 <|
 .m 4 11 .done) K40_2
abbrev B_impl_translator_fulfils:C:=.seq (.pl <| .e 5 0 <|
 .x 3 (.mv (.c (.bool false))) .done) K40_3
def R_impl_translator_fulfils:FIR:=⟨B_impl_translator_fulfils,5,[(3,none)]⟩
theorem IR_impl_translator_fulfils:cfun Tryz.prog H_impl_translator_fulfils Tryz.f40=some R_impl_translator_fulfils:=by kernel_rfl
theorem EN_impl_translator_fulfils:ENT Tryz.prog B_impl_translator_fulfils [(3,none)] 3 5 fn_impl_translator_fulfils:=fun hargs hw=>enter Tryz.func40 rfl IR_impl_translator_fulfils hargs hw
def H_impl_translator_holds:Hint:=⟨[(0,false),(1,false),(2,false),(4,true),(6,false),(7,false),(22,false)],[]⟩
abbrev K38_1:C:=.seq (.pl <| .e 7 0 <|
 .x 4 (.mv (.c (.bool true))) .done) (.ret)
abbrev K38_2:Pl:=.x 14 (.un .not (.v 13)) <|
 .m 4 14 .done
abbrev K38_3:C:=.seq (.pl <| .e 7 8 <|
 .m 7 0 <|
 .a 8 3 <|
 .g 9 8 3 2 <|
 .x 10 (.ia 3 (.v 9) (.c (.int .i64 0))) <|
 .o (.ld (some 11) (.v 10) (some 3)) <|
 .m 12 2 <|
 .c 13 (.call fn_impl_translator_holds [.v 7,.v 11,.v 12]) K38_2) (.ret)
abbrev K38_4:Pl:=.x 22 (.pick (.v 14) (.v 21) (.c (.bool false))) <|
 .m 4 22 .done
abbrev K38_5:Pl:=.m 14 13 <|
 .y 14 (.px (some 15) (.mv (.v 0))) <|
 .y 14 (.als 16 none 3) <|
 .y 14 (.pget (some 17) (some 16) 3 2 none) <|
 .y 14 (.px (some 18) (.ia 3 (.v 17) (.c (.int .i64 1)))) <|
 .y 14 (.ld (some 19) (.v 18) (some 3)) <|
 .y 14 (.px (some 20) (.mv (.v 2))) <|
 .st (.act (some (.v 14,true)) (.ex (some 21) (.call fn_impl_translator_holds [.v 15,.v 19,.v 20]))) K38_4
abbrev K38_6:C:=.seq (.pl <| .e 7 16 <|
 .m 7 0 <|
 .a 8 3 <|
 .g 9 8 3 2 <|
 .x 10 (.ia 3 (.v 9) (.c (.int .i64 0))) <|
 .o (.ld (some 11) (.v 10) (some 3)) <|
 .m 12 2 <|
 .c 13 (.call fn_impl_translator_holds [.v 7,.v 11,.v 12]) K38_5) (.ret)
abbrev K38_7:Pl:=.x 22 (.pick (.v 14) (.c (.bool true)) (.v 21)) <|
 .m 4 22 .done
abbrev K38_8:Pl:=.m 14 13 <|
 .n 14 (.px (some 15) (.mv (.v 0))) <|
 .n 14 (.als 16 none 3) <|
 .n 14 (.pget (some 17) (some 16) 3 2 none) <|
 .n 14 (.px (some 18) (.ia 3 (.v 17) (.c (.int .i64 1)))) <|
 .n 14 (.ld (some 19) (.v 18) (some 3)) <|
 .n 14 (.px (some 20) (.mv (.v 2))) <|
 .st (.act (some (.v 14,false)) (.ex (some 21) (.call fn_impl_translator_holds [.v 15,.v 19,.v 20]))) K38_7
abbrev K38_9:C:=.seq (.pl <| .e 7 16 <|
 .m 7 0 <|
 .a 8 3 <|
 .g 9 8 3 2 <|
 .x 10 (.ia 3 (.v 9) (.c (.int .i64 0))) <|
 .o (.ld (some 11) (.v 10) (some 3)) <|
 .m 12 2 <|
 .c 13 (.call fn_impl_translator_holds [.v 7,.v 11,.v 12]) K38_8) (.ret)
abbrev K38_10:C:=.cond 7 (.v 8) K38_9 (.skip)
abbrev K38_11:C:=.seq (.pl <| .e 7 2 <|
 .x 7 (.bin .eql (.v 6) (.c (.int .i64 5))) <|
 .m 8 7 .done) K38_10
abbrev K38_12:C:=.cond 7 (.v 8) K38_6 K38_11
abbrev K38_13:C:=.seq (.pl <| .e 7 2 <|
 .x 7 (.bin .eql (.v 6) (.c (.int .i64 4))) <|
 .m 8 7 .done) K38_12
abbrev K38_14:C:=.cond 7 (.v 8) K38_3 K38_13
abbrev K38_15:C:=.block 0 (.seq (.pl <| .e 7 2 <|
 .x 7 (.bin .eql (.v 6) (.c (.int .i64 3))) <|
 .m 8 7 .done) K38_14)
abbrev K38_16:C:=.seq (.seq (.pl <| .e 7 1 <|
 .a 7 3 <|
 .g 6 7 3 0 .done) K38_15) K38_1
abbrev K38_17:C:=.seq (.pl <| .e 7 5 <|
 .m 7 2 <|
 .m 8 5 <|
 .x 9 (.bin .shr (.v 7) (.v 8)) <|
 .x 10 (.bin .and (.v 9) (.c (.int .i64 1))) <|
 .x 11 (.bin .eql (.v 10) (.c (.int .i64 1))) <|
 .m 4 11 .done) (.ret)
abbrev K38_18:C:=.cond 7 (.v 8) K38_17 (.skip)
abbrev K38_19:C:=.seq (.pl <| .e 7 2 <|
 .m 7 5 <|
 .x 8 (.bin .geq (.v 7) (.c (.int .i64 0))) .done) K38_18
abbrev K38_20:Pl:=.m 5 12 .done
abbrev K38_21:C:=.seq (.seq (.pl <| .e 7 6 <|
 .m 7 0 <|
 .x 8 (.nilc (.v 7)) <|
 .x 9 (.fa 0 (.v 8)) <|
 .l 10 9 <|
 .o (.pget (some 11) none 3 0 (some 3)) <|
 .c 12 (.call fn_impl_formulaAt [.v 10,.v 11]) K38_20) K38_19) K38_16
abbrev B_impl_translator_holds:C:=.seq (.pl <| .e 7 0 <|
 .o (.pnew 3 (.v 1) []) <|
 .x 4 (.mv (.c (.bool false))) .done) K38_21
def R_impl_translator_holds:FIR:=⟨B_impl_translator_holds,7,[(4,none)]⟩
theorem IR_impl_translator_holds:cfun Tryz.prog H_impl_translator_holds Tryz.f38=some R_impl_translator_holds:=by kernel_rfl
theorem EN_impl_translator_holds:ENT Tryz.prog B_impl_translator_holds [(4,none)] 3 7 fn_impl_translator_holds:=fun hargs hw=>enter Tryz.func38 rfl IR_impl_translator_holds hargs hw
def H_impl_translator_moves:Hint:=⟨[(0,false),(1,false),(3,true),(4,false),(5,false),(6,false),(7,false),(8,false),(9,true),(10,false),(11,false),(12,false),(18,false),(19,false),(20,false),(67,false),(68,false)],[[1,3,7,8,9,10,11,15,16],[1,3,7,8,9,11,12,13,14]]⟩
abbrev K42_1:C:=.seq (.pl <| .e 17 1 <|
 .m 17 10 <|
 .m 3 17 .done) (.ret)
abbrev K42_2:C:=.pl <| .e 17 1 <|
 .x 17 (.bin .add (.v 16) (.c (.int .i64 1))) <|
 .m 16 17 .done
abbrev K42_3:Pl:=.m 10 25 .done
abbrev K42_4:C:=.pl <| .e 17 9 <|
 .m 17 10 <|
 .m 18 4 <|
 .m 19 5 <|
 .m 20 11 <|
 .m 21 6 <|
 .x 22 (.build [.int .i64 0,.int .i64 0] [(0,1,.v 20),(1,1,.v 21)]) <|
 .x 23 (.build [.int .i64 0,.int .i64 0,.int .i64 0,.int .i64 0] [(0,1,.v 18),(1,1,.v 19),(2,2,.v 22)]) <|
 .o (.psl 24 [.int .i64 0,.int .i64 0,.int .i64 0,.int .i64 0] [(0,4,.v 23)]) <|
 .c 25 (.app 32 4 [.int .i64 0,.int .i64 0,.int .i64 0,.int .i64 0] (.o (.v 17)) (.p 1 24)) K42_3
abbrev K42_5:C:=.cond 17 (.v 21) K42_4 (.skip)
abbrev K42_6:C:=.seq (.pl <| .e 17 5 <|
 .m 17 0 <|
 .a 18 2 <|
 .g 19 18 2 0 <|
 .m 20 11 <|
 .c 21 (.call fn_impl_translator_follows [.v 17,.v 19,.v 20]) .done) K42_5
abbrev K42_7:C:=.seq (.block 3 (.seq (.pl <| .e 17 1 <|
 .m 17 16 <|
 .m 11 17 .done) K42_6)) K42_2
abbrev K42_8:C:=.seq (.cond 17 (.v 17) (.skip) (.exit 2)) K42_7
abbrev K42_9:C:=.seq (.pl <| .e 17 1 <|
 .x 17 (.bin .lss (.v 16) (.v 15)) .done) K42_8
abbrev K42_10:C:=.block 2 (.loop 17 [1,3,7,8,9,11,12,13,14] K42_9)
abbrev K42_11:C:=.seq (.seq (.pl <| .e 17 5 <|
 .m 17 0 <|
 .x 18 (.nilc (.v 17)) <|
 .x 19 (.fa 0 (.v 18)) <|
 .l 20 19 <|
 .x 21 (.lenV (.v 20)) <|
 .x 15 (.bin .shl (.c (.int .i64 1)) (.v 21)) <|
 .x 16 (.mv (.c (.int .i64 0))) .done) K42_10) K42_1
abbrev K42_12:C:=.seq (.pl <| .e 17 0 <|
 .x 10 (.mv (.c (.slice none 0 0))) .done) K42_11
abbrev K42_13:C:=.pl <| .e 17 4 <|
 .m 17 6 <|
 .x 18 (.bin .add (.v 17) (.c (.int .i64 1))) <|
 .m 19 9 <|
 .x 20 (.bin .rem (.v 18) (.v 19)) <|
 .m 6 20 .done
abbrev K42_14:C:=.cond 17 (.v 25) K42_13 (.skip)
abbrev K42_15:Pl:=.x 25 (.pick (.v 19) (.v 24) (.c (.bool false))) .done
abbrev K42_16:C:=.seq (.pl <| .e 17 9 <|
 .m 17 9 <|
 .x 18 (.bin .gtr (.v 17) (.c (.int .i64 0))) <|
 .m 19 18 <|
 .y 19 (.px (some 20) (.mv (.v 0))) <|
 .y 19 (.als 21 none 2) <|
 .y 19 (.pget (some 22) (some 21) 2 0 none) <|
 .y 19 (.px (some 23) (.mv (.v 6))) <|
 .st (.act (some (.v 19,true)) (.ex (some 24) (.call fn_impl_translator_fulfils [.v 20,.v 22,.v 23]))) K42_15) K42_14
abbrev K42_17:C:=.seq (.seq (.pl <| .e 17 5 <|
 .m 17 0 <|
 .x 18 (.nilc (.v 17)) <|
 .x 19 (.fa 1 (.v 18)) <|
 .l 20 19 <|
 .x 21 (.lenV (.v 20)) <|
 .m 9 21 .done) K42_16) K42_12
abbrev K42_18:C:=.pl <| .e 17 1 <|
 .x 17 (.bin .add (.v 14) (.c (.int .i64 1))) <|
 .m 14 17 .done
abbrev K42_19:C:=.pl <| .e 17 10 <|
 .m 17 5 <|
 .a 18 2 <|
 .g 19 18 2 0 <|
 .m 20 7 <|
 .x 21 (.bin .shr (.v 19) (.v 20)) <|
 .x 22 (.bin .and (.v 21) (.c (.int .i64 1))) <|
 .a 23 8 <|
 .g 24 23 8 1 <|
 .x 25 (.bin .shl (.v 22) (.v 24)) <|
 .x 26 (.bin .or (.v 17) (.v 25)) <|
 .m 5 26 .done
abbrev K42_20:C:=.seq (.pl <| .e 17 5 <|
 .m 17 4 <|
 .a 18 8 <|
 .g 19 18 8 1 <|
 .x 20 (.bin .shl (.c (.int .i64 1)) (.v 19)) <|
 .x 21 (.bin .or (.v 17) (.v 20)) <|
 .m 4 21 .done) K42_19
abbrev K42_21:C:=.cond 17 (.v 19) K42_20 (.skip)
abbrev K42_22:C:=.seq (.pl <| .e 17 3 <|
 .a 17 8 <|
 .g 18 17 8 0 <|
 .x 19 (.bin .eql (.v 18) (.c (.int .i64 2))) .done) K42_21
abbrev K42_23:C:=.seq (.block 1 (.seq (.pl <| .e 17 3 <|
 .m 17 14 <|
 .x 18 (.ia 3 (.v 12) (.v 14)) <|
 .o (.ld (some 19) (.v 18) (some 3)) <|
 .o (.pnew 8 (.c (.agg #[.int .i64 0,.int .i64 0,.slice none 0 0])) []) <|
 .m 7 17 <|
 .o (.pset none 8 0 3 (.v 19)) .done) K42_22)) K42_18
abbrev K42_24:C:=.seq (.cond 17 (.v 17) (.skip) (.exit 0)) K42_23
abbrev K42_25:C:=.seq (.pl <| .e 17 1 <|
 .x 17 (.bin .lss (.v 14) (.v 13)) .done) K42_24
abbrev K42_26:C:=.block 0 (.loop 17 [1,3,7,8,9,10,11,15,16] K42_25)
abbrev K42_27:C:=.seq (.seq (.pl <| .e 17 3 <|
 .m 17 0 <|
 .x 18 (.nilc (.v 17)) <|
 .x 19 (.fa 0 (.v 18)) <|
 .l 12 19 <|
 .x 13 (.lenV (.v 12)) <|
 .x 14 (.mv (.c (.int .i64 0))) .done) K42_26) K42_17
abbrev K42_28:C:=.seq (.pl <| .e 17 2 <|
 .a 17 2 <|
 .g 18 17 2 1 <|
 .x 4 (.mv (.c (.int .i64 0))) <|
 .x 5 (.mv (.c (.int .i64 0))) <|
 .m 6 18 .done) K42_27
abbrev B_impl_translator_moves:C:=.seq (.pl <| .e 17 0 <|
 .o (.pnew 2 (.v 1) []) <|
 .x 3 (.mv (.c (.slice none 0 0))) .done) K42_28
def R_impl_translator_moves:FIR:=⟨B_impl_translator_moves,17,[(3,none)]⟩
theorem IR_impl_translator_moves:cfun Tryz.prog H_impl_translator_moves Tryz.f42=some R_impl_translator_moves:=by kernel_rfl
theorem EN_impl_translator_moves:ENT Tryz.prog B_impl_translator_moves [(3,none)] 2 17 fn_impl_translator_moves:=fun hargs hw=>enter Tryz.func42 rfl IR_impl_translator_moves hargs hw
def H_impl_wordOk:Hint:=⟨[(0,false),(2,false)],[]⟩
abbrev K84_1:Pl:=.x 8 (.pick (.v 5) (.v 7) (.c (.bool false))) <|
 .m 1 8 .done
abbrev K84_2:C:=.seq (.pl <| .e 2 7 <|
 .m 2 0 <|
 .x 3 (.lenV (.v 2)) <|
 .x 4 (.bin .leq (.v 3) (.c (.int .i64 200))) <|
 .m 5 4 <|
 .y 5 (.px (some 6) (.mv (.v 0))) <|
 .st (.act (some (.v 5,true)) (.ex (some 7) (.call fn_impl_letters [.v 6]))) K84_1) (.ret)
abbrev B_impl_wordOk:C:=.seq (.pl <| .e 2 0 <|
 .x 1 (.mv (.c (.bool false))) .done) K84_2
def R_impl_wordOk:FIR:=⟨B_impl_wordOk,2,[(1,none)]⟩
theorem IR_impl_wordOk:cfun Tryz.prog H_impl_wordOk Tryz.f84=some R_impl_wordOk:=by kernel_rfl
theorem EN_impl_wordOk:ENT Tryz.prog B_impl_wordOk [(1,none)] 1 2 fn_impl_wordOk:=fun hargs hw=>enter Tryz.func84 rfl IR_impl_wordOk hargs hw
def H_slices_Clip_S_bool_bool:Hint:=⟨[(0,false),(2,false)],[]⟩
abbrev K157_1:C:=.seq (.pl <| .e 2 6 <|
 .m 2 0 <|
 .m 3 0 <|
 .x 4 (.lenV (.v 3)) <|
 .m 5 0 <|
 .x 6 (.lenV (.v 5)) <|
 .x 7 (.sliceV 1 (.v 2) none (some (.v 4)) (some (.v 6))) <|
 .m 1 7 .done) (.ret)
abbrev B_slices_Clip_S_bool_bool:C:=.seq (.pl <| .e 2 0 <|
 .x 1 (.mv (.c (.slice none 0 0))) .done) K157_1
def R_slices_Clip_S_bool_bool:FIR:=⟨B_slices_Clip_S_bool_bool,2,[(1,none)]⟩
theorem IR_slices_Clip_S_bool_bool:cfun Tryz.prog H_slices_Clip_S_bool_bool Tryz.f157=some R_slices_Clip_S_bool_bool:=by kernel_rfl
theorem EN_slices_Clip_S_bool_bool:ENT Tryz.prog B_slices_Clip_S_bool_bool [(1,none)] 1 2 fn_slices_Clip_S_bool_bool:=fun hargs hw=>enter Tryz.func157 rfl IR_slices_Clip_S_bool_bool hargs hw
def H_slices_Clip_S_impl_Formula_impl_Formula:Hint:=⟨[(0,false),(2,false)],[]⟩
abbrev K115_1:C:=.seq (.pl <| .e 2 6 <|
 .m 2 0 <|
 .m 3 0 <|
 .x 4 (.lenV (.v 3)) <|
 .m 5 0 <|
 .x 6 (.lenV (.v 5)) <|
 .x 7 (.sliceV 3 (.v 2) none (some (.v 4)) (some (.v 6))) <|
 .m 1 7 .done) (.ret)
abbrev B_slices_Clip_S_impl_Formula_impl_Formula:C:=.seq (.pl <| .e 2 0 <|
 .x 1 (.mv (.c (.slice none 0 0))) .done) K115_1
def R_slices_Clip_S_impl_Formula_impl_Formula:FIR:=⟨B_slices_Clip_S_impl_Formula_impl_Formula,2,[(1,none)]⟩
theorem IR_slices_Clip_S_impl_Formula_impl_Formula:cfun Tryz.prog H_slices_Clip_S_impl_Formula_impl_Formula Tryz.f115=some R_slices_Clip_S_impl_Formula_impl_Formula:=by kernel_rfl
theorem EN_slices_Clip_S_impl_Formula_impl_Formula:ENT Tryz.prog B_slices_Clip_S_impl_Formula_impl_Formula [(1,none)] 1 2 fn_slices_Clip_S_impl_Formula_impl_Formula:=fun hargs hw=>enter Tryz.func115 rfl IR_slices_Clip_S_impl_Formula_impl_Formula hargs hw
def H_slices_Clip_S_impl_Transition_impl_Transition:Hint:=⟨[(0,false),(2,false)],[]⟩
abbrev K159_1:C:=.seq (.pl <| .e 2 6 <|
 .m 2 0 <|
 .m 3 0 <|
 .x 4 (.lenV (.v 3)) <|
 .m 5 0 <|
 .x 6 (.lenV (.v 5)) <|
 .x 7 (.sliceV 4 (.v 2) none (some (.v 4)) (some (.v 6))) <|
 .m 1 7 .done) (.ret)
abbrev B_slices_Clip_S_impl_Transition_impl_Transition:C:=.seq (.pl <| .e 2 0 <|
 .x 1 (.mv (.c (.slice none 0 0))) .done) K159_1
def R_slices_Clip_S_impl_Transition_impl_Transition:FIR:=⟨B_slices_Clip_S_impl_Transition_impl_Transition,2,[(1,none)]⟩
theorem IR_slices_Clip_S_impl_Transition_impl_Transition:cfun Tryz.prog H_slices_Clip_S_impl_Transition_impl_Transition Tryz.f159=some R_slices_Clip_S_impl_Transition_impl_Transition:=by kernel_rfl
theorem EN_slices_Clip_S_impl_Transition_impl_Transition:ENT Tryz.prog B_slices_Clip_S_impl_Transition_impl_Transition [(1,none)] 1 2 fn_slices_Clip_S_impl_Transition_impl_Transition:=fun hargs hw=>enter Tryz.func159 rfl IR_slices_Clip_S_impl_Transition_impl_Transition hargs hw
def H_slices_Clip_S_int_int:Hint:=⟨[(0,false),(2,false)],[]⟩
abbrev K45_1:C:=.seq (.pl <| .e 2 6 <|
 .m 2 0 <|
 .m 3 0 <|
 .x 4 (.lenV (.v 3)) <|
 .m 5 0 <|
 .x 6 (.lenV (.v 5)) <|
 .x 7 (.sliceV 1 (.v 2) none (some (.v 4)) (some (.v 6))) <|
 .m 1 7 .done) (.ret)
abbrev B_slices_Clip_S_int_int:C:=.seq (.pl <| .e 2 0 <|
 .x 1 (.mv (.c (.slice none 0 0))) .done) K45_1
def R_slices_Clip_S_int_int:FIR:=⟨B_slices_Clip_S_int_int,2,[(1,none)]⟩
theorem IR_slices_Clip_S_int_int:cfun Tryz.prog H_slices_Clip_S_int_int Tryz.f45=some R_slices_Clip_S_int_int:=by kernel_rfl
theorem EN_slices_Clip_S_int_int:ENT Tryz.prog B_slices_Clip_S_int_int [(1,none)] 1 2 fn_slices_Clip_S_int_int:=fun hargs hw=>enter Tryz.func45 rfl IR_slices_Clip_S_int_int hargs hw
def H_slices_Clone_S_bool_bool:Hint:=⟨[(0,false),(2,false)],[]⟩
abbrev K158_1:Pl:=.m 1 4 .done
abbrev K158_2:C:=.seq (.pl <| .e 2 3 <|
 .o (.psl 2 [] []) <|
 .m 3 0 <|
 .c 4 (.app 1 1 [.bool false] (.p 0 2) (.o (.v 3))) K158_1) (.ret)
abbrev K158_3:C:=.seq (.pl <| .e 2 0 <|
 .x 1 (.mv (.c (.slice none 0 0))) .done) (.ret)
abbrev K158_4:C:=.cond 2 (.v 3) K158_3 (.skip)
abbrev K158_5:C:=.seq (.seq (.pl <| .e 2 2 <|
 .m 2 0 <|
 .x 3 (.isNil false (.v 2)) .done) K158_4) K158_2
abbrev B_slices_Clone_S_bool_bool:C:=.seq (.pl <| .e 2 0 <|
 .x 1 (.mv (.c (.slice none 0 0))) .done) K158_5
def R_slices_Clone_S_bool_bool:FIR:=⟨B_slices_Clone_S_bool_bool,2,[(1,none)]⟩
theorem IR_slices_Clone_S_bool_bool:cfun Tryz.prog H_slices_Clone_S_bool_bool Tryz.f158=some R_slices_Clone_S_bool_bool:=by kernel_rfl
theorem EN_slices_Clone_S_bool_bool:ENT Tryz.prog B_slices_Clone_S_bool_bool [(1,none)] 1 2 fn_slices_Clone_S_bool_bool:=fun hargs hw=>enter Tryz.func158 rfl IR_slices_Clone_S_bool_bool hargs hw
def H_slices_Clone_S_impl_Formula_impl_Formula:Hint:=⟨[(0,false),(2,false)],[]⟩
abbrev K154_1:Pl:=.m 1 4 .done
abbrev K154_2:C:=.seq (.pl <| .e 2 3 <|
 .o (.psl 2 [] []) <|
 .m 3 0 <|
 .c 4 (.app 40 3 [.int .i64 0,.int .i64 0,.slice none 0 0] (.p 0 2) (.o (.v 3))) K154_1) (.ret)
abbrev K154_3:C:=.seq (.pl <| .e 2 0 <|
 .x 1 (.mv (.c (.slice none 0 0))) .done) (.ret)
abbrev K154_4:C:=.cond 2 (.v 3) K154_3 (.skip)
abbrev K154_5:C:=.seq (.seq (.pl <| .e 2 2 <|
 .m 2 0 <|
 .x 3 (.isNil false (.v 2)) .done) K154_4) K154_2
abbrev B_slices_Clone_S_impl_Formula_impl_Formula:C:=.seq (.pl <| .e 2 0 <|
 .x 1 (.mv (.c (.slice none 0 0))) .done) K154_5
def R_slices_Clone_S_impl_Formula_impl_Formula:FIR:=⟨B_slices_Clone_S_impl_Formula_impl_Formula,2,[(1,none)]⟩
theorem IR_slices_Clone_S_impl_Formula_impl_Formula:cfun Tryz.prog H_slices_Clone_S_impl_Formula_impl_Formula Tryz.f154=some R_slices_Clone_S_impl_Formula_impl_Formula:=by kernel_rfl
theorem EN_slices_Clone_S_impl_Formula_impl_Formula:ENT Tryz.prog B_slices_Clone_S_impl_Formula_impl_Formula [(1,none)] 1 2 fn_slices_Clone_S_impl_Formula_impl_Formula:=fun hargs hw=>enter Tryz.func154 rfl IR_slices_Clone_S_impl_Formula_impl_Formula hargs hw
def H_slices_Clone_S_impl_Transition_impl_Transition:Hint:=⟨[(0,false),(2,false)],[]⟩
abbrev K160_1:Pl:=.m 1 4 .done
abbrev K160_2:C:=.seq (.pl <| .e 2 3 <|
 .o (.psl 2 [] []) <|
 .m 3 0 <|
 .c 4 (.app 32 4 [.int .i64 0,.int .i64 0,.int .i64 0,.int .i64 0] (.p 0 2) (.o (.v 3))) K160_1) (.ret)
abbrev K160_3:C:=.seq (.pl <| .e 2 0 <|
 .x 1 (.mv (.c (.slice none 0 0))) .done) (.ret)
abbrev K160_4:C:=.cond 2 (.v 3) K160_3 (.skip)
abbrev K160_5:C:=.seq (.seq (.pl <| .e 2 2 <|
 .m 2 0 <|
 .x 3 (.isNil false (.v 2)) .done) K160_4) K160_2
abbrev B_slices_Clone_S_impl_Transition_impl_Transition:C:=.seq (.pl <| .e 2 0 <|
 .x 1 (.mv (.c (.slice none 0 0))) .done) K160_5
def R_slices_Clone_S_impl_Transition_impl_Transition:FIR:=⟨B_slices_Clone_S_impl_Transition_impl_Transition,2,[(1,none)]⟩
theorem IR_slices_Clone_S_impl_Transition_impl_Transition:cfun Tryz.prog H_slices_Clone_S_impl_Transition_impl_Transition Tryz.f160=some R_slices_Clone_S_impl_Transition_impl_Transition:=by kernel_rfl
theorem EN_slices_Clone_S_impl_Transition_impl_Transition:ENT Tryz.prog B_slices_Clone_S_impl_Transition_impl_Transition [(1,none)] 1 2 fn_slices_Clone_S_impl_Transition_impl_Transition:=fun hargs hw=>enter Tryz.func160 rfl IR_slices_Clone_S_impl_Transition_impl_Transition hargs hw
def H_slices_Clone_S_int_int:Hint:=⟨[(0,false),(2,false)],[]⟩
abbrev K132_1:Pl:=.m 1 4 .done
abbrev K132_2:C:=.seq (.pl <| .e 2 3 <|
 .o (.psl 2 [] []) <|
 .m 3 0 <|
 .c 4 (.app 8 1 [.int .i64 0] (.p 0 2) (.o (.v 3))) K132_1) (.ret)
abbrev K132_3:C:=.seq (.pl <| .e 2 0 <|
 .x 1 (.mv (.c (.slice none 0 0))) .done) (.ret)
abbrev K132_4:C:=.cond 2 (.v 3) K132_3 (.skip)
abbrev K132_5:C:=.seq (.seq (.pl <| .e 2 2 <|
 .m 2 0 <|
 .x 3 (.isNil false (.v 2)) .done) K132_4) K132_2
abbrev B_slices_Clone_S_int_int:C:=.seq (.pl <| .e 2 0 <|
 .x 1 (.mv (.c (.slice none 0 0))) .done) K132_5
def R_slices_Clone_S_int_int:FIR:=⟨B_slices_Clone_S_int_int,2,[(1,none)]⟩
theorem IR_slices_Clone_S_int_int:cfun Tryz.prog H_slices_Clone_S_int_int Tryz.f132=some R_slices_Clone_S_int_int:=by kernel_rfl
theorem EN_slices_Clone_S_int_int:ENT Tryz.prog B_slices_Clone_S_int_int [(1,none)] 1 2 fn_slices_Clone_S_int_int:=fun hargs hw=>enter Tryz.func132 rfl IR_slices_Clone_S_int_int hargs hw
def H_slices_ContainsFunc_S_impl_Formula_impl_Formula:Hint:=⟨[(0,false),(1,false),(4,false)],[]⟩
abbrev K152_1:Pl:=.x 6 (.bin .geq (.v 5) (.c (.int .i64 0))) <|
 .m 2 6 .done
abbrev K152_2:C:=.seq (.pl <| .e 3 4 <|
 .m 3 0 <|
 .m 4 1 <|
 .c 5 (.call fn_slices_IndexFunc_S_impl_Formula_impl_Formula [.v 3,.v 4]) K152_1) (.ret)
abbrev B_slices_ContainsFunc_S_impl_Formula_impl_Formula:C:=.seq (.pl <| .e 3 0 <|
 .x 2 (.mv (.c (.bool false))) .done) K152_2
def R_slices_ContainsFunc_S_impl_Formula_impl_Formula:FIR:=⟨B_slices_ContainsFunc_S_impl_Formula_impl_Formula,3,[(2,none)]⟩
theorem IR_slices_ContainsFunc_S_impl_Formula_impl_Formula:cfun Tryz.prog H_slices_ContainsFunc_S_impl_Formula_impl_Formula Tryz.f152=some R_slices_ContainsFunc_S_impl_Formula_impl_Formula:=by kernel_rfl
theorem EN_slices_ContainsFunc_S_impl_Formula_impl_Formula:ENT Tryz.prog B_slices_ContainsFunc_S_impl_Formula_impl_Formula [(2,none)] 2 3 fn_slices_ContainsFunc_S_impl_Formula_impl_Formula:=fun hargs hw=>enter Tryz.func152 rfl IR_slices_ContainsFunc_S_impl_Formula_impl_Formula hargs hw
def H_slices_ContainsFunc_S_impl_Transition_impl_Transition:Hint:=⟨[(0,false),(1,false),(4,false)],[]⟩
abbrev K121_1:Pl:=.x 6 (.bin .geq (.v 5) (.c (.int .i64 0))) <|
 .m 2 6 .done
abbrev K121_2:C:=.seq (.pl <| .e 3 4 <|
 .m 3 0 <|
 .m 4 1 <|
 .c 5 (.call fn_slices_IndexFunc_S_impl_Transition_impl_Transition [.v 3,.v 4]) K121_1) (.ret)
abbrev B_slices_ContainsFunc_S_impl_Transition_impl_Transition:C:=.seq (.pl <| .e 3 0 <|
 .x 2 (.mv (.c (.bool false))) .done) K121_2
def R_slices_ContainsFunc_S_impl_Transition_impl_Transition:FIR:=⟨B_slices_ContainsFunc_S_impl_Transition_impl_Transition,3,[(2,none)]⟩
theorem IR_slices_ContainsFunc_S_impl_Transition_impl_Transition:cfun Tryz.prog H_slices_ContainsFunc_S_impl_Transition_impl_Transition Tryz.f121=some R_slices_ContainsFunc_S_impl_Transition_impl_Transition:=by kernel_rfl
theorem EN_slices_ContainsFunc_S_impl_Transition_impl_Transition:ENT Tryz.prog B_slices_ContainsFunc_S_impl_Transition_impl_Transition [(2,none)] 2 3 fn_slices_ContainsFunc_S_impl_Transition_impl_Transition:=fun hargs hw=>enter Tryz.func121 rfl IR_slices_ContainsFunc_S_impl_Transition_impl_Transition hargs hw
def H_slices_ContainsFunc_S_int_int:Hint:=⟨[(0,false),(1,false),(4,false)],[]⟩
abbrev K110_1:Pl:=.x 6 (.bin .geq (.v 5) (.c (.int .i64 0))) <|
 .m 2 6 .done
abbrev K110_2:C:=.seq (.pl <| .e 3 4 <|
 .m 3 0 <|
 .m 4 1 <|
 .c 5 (.call fn_slices_IndexFunc_S_int_int [.v 3,.v 4]) K110_1) (.ret)
abbrev B_slices_ContainsFunc_S_int_int:C:=.seq (.pl <| .e 3 0 <|
 .x 2 (.mv (.c (.bool false))) .done) K110_2
def R_slices_ContainsFunc_S_int_int:FIR:=⟨B_slices_ContainsFunc_S_int_int,3,[(2,none)]⟩
theorem IR_slices_ContainsFunc_S_int_int:cfun Tryz.prog H_slices_ContainsFunc_S_int_int Tryz.f110=some R_slices_ContainsFunc_S_int_int:=by kernel_rfl
theorem EN_slices_ContainsFunc_S_int_int:ENT Tryz.prog B_slices_ContainsFunc_S_int_int [(2,none)] 2 3 fn_slices_ContainsFunc_S_int_int:=fun hargs hw=>enter Tryz.func110 rfl IR_slices_ContainsFunc_S_int_int hargs hw
def H_slices_Contains_S_bool_bool:Hint:=⟨[(0,false),(1,false),(4,false)],[]⟩
abbrev K50_1:Pl:=.x 6 (.bin .geq (.v 5) (.c (.int .i64 0))) <|
 .m 2 6 .done
abbrev K50_2:C:=.seq (.pl <| .e 3 4 <|
 .m 3 0 <|
 .m 4 1 <|
 .c 5 (.call fn_slices_Index_S_bool_bool [.v 3,.v 4]) K50_1) (.ret)
abbrev B_slices_Contains_S_bool_bool:C:=.seq (.pl <| .e 3 0 <|
 .x 2 (.mv (.c (.bool false))) .done) K50_2
def R_slices_Contains_S_bool_bool:FIR:=⟨B_slices_Contains_S_bool_bool,3,[(2,none)]⟩
theorem IR_slices_Contains_S_bool_bool:cfun Tryz.prog H_slices_Contains_S_bool_bool Tryz.f50=some R_slices_Contains_S_bool_bool:=by kernel_rfl
theorem EN_slices_Contains_S_bool_bool:ENT Tryz.prog B_slices_Contains_S_bool_bool [(2,none)] 2 3 fn_slices_Contains_S_bool_bool:=fun hargs hw=>enter Tryz.func50 rfl IR_slices_Contains_S_bool_bool hargs hw
def H_slices_Contains_S_int_int:Hint:=⟨[(0,false),(1,false),(4,false)],[]⟩
abbrev K134_1:Pl:=.x 6 (.bin .geq (.v 5) (.c (.int .i64 0))) <|
 .m 2 6 .done
abbrev K134_2:C:=.seq (.pl <| .e 3 4 <|
 .m 3 0 <|
 .m 4 1 <|
 .c 5 (.call fn_slices_Index_S_int_int [.v 3,.v 4]) K134_1) (.ret)
abbrev B_slices_Contains_S_int_int:C:=.seq (.pl <| .e 3 0 <|
 .x 2 (.mv (.c (.bool false))) .done) K134_2
def R_slices_Contains_S_int_int:FIR:=⟨B_slices_Contains_S_int_int,3,[(2,none)]⟩
theorem IR_slices_Contains_S_int_int:cfun Tryz.prog H_slices_Contains_S_int_int Tryz.f134=some R_slices_Contains_S_int_int:=by kernel_rfl
theorem EN_slices_Contains_S_int_int:ENT Tryz.prog B_slices_Contains_S_int_int [(2,none)] 2 3 fn_slices_Contains_S_int_int:=fun hargs hw=>enter Tryz.func134 rfl IR_slices_Contains_S_int_int hargs hw
def H_slices_EqualFunc_S_impl_Formula_S_impl_Formula_impl_Formula_impl_Formula:Hint:=⟨[(0,false),(1,false),(2,false),(6,false),(7,false),(8,true),(9,true),(15,false),(16,false),(17,false)],[[0,3,4,5,6]]⟩
abbrev K156_1:C:=.seq (.pl <| .e 10 0 <|
 .x 3 (.mv (.c (.bool true))) .done) (.ret)
abbrev K156_2:C:=.pl <| .e 10 1 <|
 .x 10 (.bin .add (.v 9) (.c (.int .i64 1))) <|
 .m 9 10 .done
abbrev K156_3:C:=.seq (.pl <| .e 10 0 <|
 .x 3 (.mv (.c (.bool false))) .done) (.ret)
abbrev K156_4:C:=.cond 10 (.v 14) K156_3 (.skip)
abbrev K156_5:Pl:=.x 14 (.un .not (.v 13)) .done
abbrev K156_6:C:=.seq (.pl <| .e 10 5 <|
 .m 10 2 <|
 .o (.pget (some 11) none 5 0 (some 3)) <|
 .o (.pget (some 12) none 6 0 (some 3)) <|
 .c 13 (.callv (.v 10) [.v 11,.v 12]) K156_5) K156_4
abbrev K156_7:C:=.seq (.pl <| .e 10 4 <|
 .m 10 1 <|
 .m 11 4 <|
 .x 12 (.ia 3 (.v 10) (.v 11)) <|
 .o (.ld (some 13) (.v 12) (some 3)) <|
 .o (.pnew 6 (.c (.agg #[.int .i64 0,.int .i64 0,.slice none 0 0])) []) <|
 .o (.pset none 6 0 3 (.v 13)) .done) K156_6
abbrev K156_8:C:=.seq (.block 1 (.seq (.pl <| .e 10 3 <|
 .m 10 9 <|
 .x 11 (.ia 3 (.v 7) (.v 9)) <|
 .o (.ld (some 12) (.v 11) (some 3)) <|
 .o (.pnew 5 (.c (.agg #[.int .i64 0,.int .i64 0,.slice none 0 0])) []) <|
 .m 4 10 <|
 .o (.pset none 5 0 3 (.v 12)) .done) K156_7)) K156_2
abbrev K156_9:C:=.seq (.cond 10 (.v 10) (.skip) (.exit 0)) K156_8
abbrev K156_10:C:=.seq (.pl <| .e 10 1 <|
 .x 10 (.bin .lss (.v 9) (.v 8)) .done) K156_9
abbrev K156_11:C:=.block 0 (.loop 10 [0,3,4,5,6] K156_10)
abbrev K156_12:C:=.seq (.seq (.pl <| .e 10 0 <|
 .m 7 0 <|
 .x 8 (.lenV (.v 7)) <|
 .x 9 (.mv (.c (.int .i64 0))) .done) K156_11) K156_1
abbrev K156_13:C:=.seq (.pl <| .e 10 0 <|
 .x 3 (.mv (.c (.bool false))) .done) (.ret)
abbrev K156_14:C:=.cond 10 (.v 14) K156_13 (.skip)
abbrev K156_15:C:=.seq (.seq (.pl <| .e 10 5 <|
 .m 10 0 <|
 .x 11 (.lenV (.v 10)) <|
 .m 12 1 <|
 .x 13 (.lenV (.v 12)) <|
 .x 14 (.bin .neq (.v 11) (.v 13)) .done) K156_14) K156_12
abbrev B_slices_EqualFunc_S_impl_Formula_S_impl_Formula_impl_Formula_impl_Formula:C:=.seq (.pl <| .e 10 0 <|
 .x 3 (.mv (.c (.bool false))) .done) K156_15
def R_slices_EqualFunc_S_impl_Formula_S_impl_Formula_impl_Formula_impl_Formula:FIR:=⟨B_slices_EqualFunc_S_impl_Formula_S_impl_Formula_impl_Formula_impl_Formula,10,[(3,none)]⟩
theorem IR_slices_EqualFunc_S_impl_Formula_S_impl_Formula_impl_Formula_impl_Formula:cfun Tryz.prog H_slices_EqualFunc_S_impl_Formula_S_impl_Formula_impl_Formula_impl_Formula Tryz.f156=some R_slices_EqualFunc_S_impl_Formula_S_impl_Formula_impl_Formula_impl_Formula:=by kernel_rfl
theorem EN_slices_EqualFunc_S_impl_Formula_S_impl_Formula_impl_Formula_impl_Formula:ENT Tryz.prog B_slices_EqualFunc_S_impl_Formula_S_impl_Formula_impl_Formula_impl_Formula [(3,none)] 3 10 fn_slices_EqualFunc_S_impl_Formula_S_impl_Formula_impl_Formula_impl_Formula:=fun hargs hw=>enter Tryz.func156 rfl IR_slices_EqualFunc_S_impl_Formula_S_impl_Formula_impl_Formula_impl_Formula hargs hw
def H_slices_IndexFunc_S_impl_Formula_impl_Formula:Hint:=⟨[(0,false),(1,false),(4,false),(5,false),(7,false),(8,false)],[[2,3]]⟩
abbrev K118_1:C:=.seq (.pl <| .e 6 0 <|
 .x 2 (.mv (.c (.int .i64 (-1)))) .done) (.ret)
abbrev K118_2:C:=.pl <| .e 6 1 <|
 .x 6 (.bin .add (.v 5) (.c (.int .i64 1))) <|
 .m 5 6 .done
abbrev K118_3:C:=.seq (.pl <| .e 6 1 <|
 .m 6 3 <|
 .m 2 6 .done) (.ret)
abbrev K118_4:C:=.cond 6 (.v 11) K118_3 (.skip)
abbrev K118_5:C:=.seq (.pl <| .e 6 6 <|
 .m 6 1 <|
 .m 7 0 <|
 .m 8 3 <|
 .x 9 (.ia 3 (.v 7) (.v 8)) <|
 .o (.ld (some 10) (.v 9) (some 3)) <|
 .c 11 (.callv (.v 6) [.v 10]) .done) K118_4
abbrev K118_6:C:=.seq (.block 1 (.seq (.pl <| .e 6 1 <|
 .m 6 5 <|
 .m 3 6 .done) K118_5)) K118_2
abbrev K118_7:C:=.seq (.cond 6 (.v 6) (.skip) (.exit 0)) K118_6
abbrev K118_8:C:=.seq (.pl <| .e 6 1 <|
 .x 6 (.bin .lss (.v 5) (.v 4)) .done) K118_7
abbrev K118_9:C:=.block 0 (.loop 6 [2,3] K118_8)
abbrev K118_10:C:=.seq (.seq (.pl <| .e 6 1 <|
 .m 6 0 <|
 .x 4 (.lenV (.v 6)) <|
 .x 5 (.mv (.c (.int .i64 0))) .done) K118_9) K118_1
abbrev B_slices_IndexFunc_S_impl_Formula_impl_Formula:C:=.seq (.pl <| .e 6 0 <|
 .x 2 (.mv (.c (.int .i64 0))) .done) K118_10
def R_slices_IndexFunc_S_impl_Formula_impl_Formula:FIR:=⟨B_slices_IndexFunc_S_impl_Formula_impl_Formula,6,[(2,none)]⟩
theorem IR_slices_IndexFunc_S_impl_Formula_impl_Formula:cfun Tryz.prog H_slices_IndexFunc_S_impl_Formula_impl_Formula Tryz.f118=some R_slices_IndexFunc_S_impl_Formula_impl_Formula:=by kernel_rfl
theorem EN_slices_IndexFunc_S_impl_Formula_impl_Formula:ENT Tryz.prog B_slices_IndexFunc_S_impl_Formula_impl_Formula [(2,none)] 2 6 fn_slices_IndexFunc_S_impl_Formula_impl_Formula:=fun hargs hw=>enter Tryz.func118 rfl IR_slices_IndexFunc_S_impl_Formula_impl_Formula hargs hw
def H_slices_IndexFunc_S_impl_Transition_impl_Transition:Hint:=⟨[(0,false),(1,false),(4,false),(5,false),(7,false),(8,false)],[[2,3]]⟩
abbrev K130_1:C:=.seq (.pl <| .e 6 0 <|
 .x 2 (.mv (.c (.int .i64 (-1)))) .done) (.ret)
abbrev K130_2:C:=.pl <| .e 6 1 <|
 .x 6 (.bin .add (.v 5) (.c (.int .i64 1))) <|
 .m 5 6 .done
abbrev K130_3:C:=.seq (.pl <| .e 6 1 <|
 .m 6 3 <|
 .m 2 6 .done) (.ret)
abbrev K130_4:C:=.cond 6 (.v 11) K130_3 (.skip)
abbrev K130_5:C:=.seq (.pl <| .e 6 6 <|
 .m 6 1 <|
 .m 7 0 <|
 .m 8 3 <|
 .x 9 (.ia 4 (.v 7) (.v 8)) <|
 .o (.ld (some 10) (.v 9) (some 4)) <|
 .c 11 (.callv (.v 6) [.v 10]) .done) K130_4
abbrev K130_6:C:=.seq (.block 1 (.seq (.pl <| .e 6 1 <|
 .m 6 5 <|
 .m 3 6 .done) K130_5)) K130_2
abbrev K130_7:C:=.seq (.cond 6 (.v 6) (.skip) (.exit 0)) K130_6
abbrev K130_8:C:=.seq (.pl <| .e 6 1 <|
 .x 6 (.bin .lss (.v 5) (.v 4)) .done) K130_7
abbrev K130_9:C:=.block 0 (.loop 6 [2,3] K130_8)
abbrev K130_10:C:=.seq (.seq (.pl <| .e 6 1 <|
 .m 6 0 <|
 .x 4 (.lenV (.v 6)) <|
 .x 5 (.mv (.c (.int .i64 0))) .done) K130_9) K130_1
abbrev B_slices_IndexFunc_S_impl_Transition_impl_Transition:C:=.seq (.pl <| .e 6 0 <|
 .x 2 (.mv (.c (.int .i64 0))) .done) K130_10
def R_slices_IndexFunc_S_impl_Transition_impl_Transition:FIR:=⟨B_slices_IndexFunc_S_impl_Transition_impl_Transition,6,[(2,none)]⟩
theorem IR_slices_IndexFunc_S_impl_Transition_impl_Transition:cfun Tryz.prog H_slices_IndexFunc_S_impl_Transition_impl_Transition Tryz.f130=some R_slices_IndexFunc_S_impl_Transition_impl_Transition:=by kernel_rfl
theorem EN_slices_IndexFunc_S_impl_Transition_impl_Transition:ENT Tryz.prog B_slices_IndexFunc_S_impl_Transition_impl_Transition [(2,none)] 2 6 fn_slices_IndexFunc_S_impl_Transition_impl_Transition:=fun hargs hw=>enter Tryz.func130 rfl IR_slices_IndexFunc_S_impl_Transition_impl_Transition hargs hw
def H_slices_IndexFunc_S_int_int:Hint:=⟨[(0,false),(1,false),(4,false),(5,false),(7,false),(8,false)],[[2,3]]⟩
abbrev K150_1:C:=.seq (.pl <| .e 6 0 <|
 .x 2 (.mv (.c (.int .i64 (-1)))) .done) (.ret)
abbrev K150_2:C:=.pl <| .e 6 1 <|
 .x 6 (.bin .add (.v 5) (.c (.int .i64 1))) <|
 .m 5 6 .done
abbrev K150_3:C:=.seq (.pl <| .e 6 1 <|
 .m 6 3 <|
 .m 2 6 .done) (.ret)
abbrev K150_4:C:=.cond 6 (.v 11) K150_3 (.skip)
abbrev K150_5:C:=.seq (.pl <| .e 6 6 <|
 .m 6 1 <|
 .m 7 0 <|
 .m 8 3 <|
 .x 9 (.ia 1 (.v 7) (.v 8)) <|
 .l 10 9 <|
 .c 11 (.callv (.v 6) [.v 10]) .done) K150_4
abbrev K150_6:C:=.seq (.block 1 (.seq (.pl <| .e 6 1 <|
 .m 6 5 <|
 .m 3 6 .done) K150_5)) K150_2
abbrev K150_7:C:=.seq (.cond 6 (.v 6) (.skip) (.exit 0)) K150_6
abbrev K150_8:C:=.seq (.pl <| .e 6 1 <|
 .x 6 (.bin .lss (.v 5) (.v 4)) .done) K150_7
abbrev K150_9:C:=.block 0 (.loop 6 [2,3] K150_8)
abbrev K150_10:C:=.seq (.seq (.pl <| .e 6 1 <|
 .m 6 0 <|
 .x 4 (.lenV (.v 6)) <|
 .x 5 (.mv (.c (.int .i64 0))) .done) K150_9) K150_1
abbrev B_slices_IndexFunc_S_int_int:C:=.seq (.pl <| .e 6 0 <|
 .x 2 (.mv (.c (.int .i64 0))) .done) K150_10
def R_slices_IndexFunc_S_int_int:FIR:=⟨B_slices_IndexFunc_S_int_int,6,[(2,none)]⟩
theorem IR_slices_IndexFunc_S_int_int:cfun Tryz.prog H_slices_IndexFunc_S_int_int Tryz.f150=some R_slices_IndexFunc_S_int_int:=by kernel_rfl
theorem EN_slices_IndexFunc_S_int_int:ENT Tryz.prog B_slices_IndexFunc_S_int_int [(2,none)] 2 6 fn_slices_IndexFunc_S_int_int:=fun hargs hw=>enter Tryz.func150 rfl IR_slices_IndexFunc_S_int_int hargs hw
def H_slices_Index_S_bool_bool:Hint:=⟨[(0,false),(1,false),(4,false),(5,false),(7,false),(8,false)],[[2,3]]⟩
abbrev K95_1:C:=.seq (.pl <| .e 6 0 <|
 .x 2 (.mv (.c (.int .i64 (-1)))) .done) (.ret)
abbrev K95_2:C:=.pl <| .e 6 1 <|
 .x 6 (.bin .add (.v 5) (.c (.int .i64 1))) <|
 .m 5 6 .done
abbrev K95_3:C:=.seq (.pl <| .e 6 1 <|
 .m 6 3 <|
 .m 2 6 .done) (.ret)
abbrev K95_4:C:=.cond 6 (.v 11) K95_3 (.skip)
abbrev K95_5:C:=.seq (.pl <| .e 6 6 <|
 .m 6 1 <|
 .m 7 0 <|
 .m 8 3 <|
 .x 9 (.ia 1 (.v 7) (.v 8)) <|
 .l 10 9 <|
 .x 11 (.eqb false (.v 6) (.v 10)) .done) K95_4
abbrev K95_6:C:=.seq (.block 1 (.seq (.pl <| .e 6 1 <|
 .m 6 5 <|
 .m 3 6 .done) K95_5)) K95_2
abbrev K95_7:C:=.seq (.cond 6 (.v 6) (.skip) (.exit 0)) K95_6
abbrev K95_8:C:=.seq (.pl <| .e 6 1 <|
 .x 6 (.bin .lss (.v 5) (.v 4)) .done) K95_7
abbrev K95_9:C:=.block 0 (.loop 6 [2,3] K95_8)
abbrev K95_10:C:=.seq (.seq (.pl <| .e 6 1 <|
 .m 6 0 <|
 .x 4 (.lenV (.v 6)) <|
 .x 5 (.mv (.c (.int .i64 0))) .done) K95_9) K95_1
abbrev B_slices_Index_S_bool_bool:C:=.seq (.pl <| .e 6 0 <|
 .x 2 (.mv (.c (.int .i64 0))) .done) K95_10
def R_slices_Index_S_bool_bool:FIR:=⟨B_slices_Index_S_bool_bool,6,[(2,none)]⟩
theorem IR_slices_Index_S_bool_bool:cfun Tryz.prog H_slices_Index_S_bool_bool Tryz.f95=some R_slices_Index_S_bool_bool:=by kernel_rfl
theorem EN_slices_Index_S_bool_bool:ENT Tryz.prog B_slices_Index_S_bool_bool [(2,none)] 2 6 fn_slices_Index_S_bool_bool:=fun hargs hw=>enter Tryz.func95 rfl IR_slices_Index_S_bool_bool hargs hw
def H_slices_Index_S_int_int:Hint:=⟨[(0,false),(1,false),(4,false),(5,false),(7,false),(8,false)],[[2,3]]⟩
abbrev K165_1:C:=.seq (.pl <| .e 6 0 <|
 .x 2 (.mv (.c (.int .i64 (-1)))) .done) (.ret)
abbrev K165_2:C:=.pl <| .e 6 1 <|
 .x 6 (.bin .add (.v 5) (.c (.int .i64 1))) <|
 .m 5 6 .done
abbrev K165_3:C:=.seq (.pl <| .e 6 1 <|
 .m 6 3 <|
 .m 2 6 .done) (.ret)
abbrev K165_4:C:=.cond 6 (.v 11) K165_3 (.skip)
abbrev K165_5:C:=.seq (.pl <| .e 6 6 <|
 .m 6 1 <|
 .m 7 0 <|
 .m 8 3 <|
 .x 9 (.ia 1 (.v 7) (.v 8)) <|
 .l 10 9 <|
 .x 11 (.bin .eql (.v 6) (.v 10)) .done) K165_4
abbrev K165_6:C:=.seq (.block 1 (.seq (.pl <| .e 6 1 <|
 .m 6 5 <|
 .m 3 6 .done) K165_5)) K165_2
abbrev K165_7:C:=.seq (.cond 6 (.v 6) (.skip) (.exit 0)) K165_6
abbrev K165_8:C:=.seq (.pl <| .e 6 1 <|
 .x 6 (.bin .lss (.v 5) (.v 4)) .done) K165_7
abbrev K165_9:C:=.block 0 (.loop 6 [2,3] K165_8)
abbrev K165_10:C:=.seq (.seq (.pl <| .e 6 1 <|
 .m 6 0 <|
 .x 4 (.lenV (.v 6)) <|
 .x 5 (.mv (.c (.int .i64 0))) .done) K165_9) K165_1
abbrev B_slices_Index_S_int_int:C:=.seq (.pl <| .e 6 0 <|
 .x 2 (.mv (.c (.int .i64 0))) .done) K165_10
def R_slices_Index_S_int_int:FIR:=⟨B_slices_Index_S_int_int,6,[(2,none)]⟩
theorem IR_slices_Index_S_int_int:cfun Tryz.prog H_slices_Index_S_int_int Tryz.f165=some R_slices_Index_S_int_int:=by kernel_rfl
theorem EN_slices_Index_S_int_int:ENT Tryz.prog B_slices_Index_S_int_int [(2,none)] 2 6 fn_slices_Index_S_int_int:=fun hargs hw=>enter Tryz.func165 rfl IR_slices_Index_S_int_int hargs hw
def H_spec_AutomatonValid:Hint:=⟨[(0,false),(1,true),(2,false),(3,false),(4,false),(5,false)],[[0,2,5],[0,2,4]]⟩
abbrev K143_1:C:=.seq (.pl <| .e 6 0 <|
 .x 2 (.mv (.c (.bool true))) .done) (.ret)
abbrev K143_2:C:=.pl <| .e 6 2 <|
 .m 6 5 <|
 .x 7 (.bin .add (.v 6) (.c (.int .i64 1))) <|
 .m 5 7 .done
abbrev K143_3:C:=.seq (.pl <| .e 6 0 <|
 .x 2 (.mv (.c (.bool false))) .done) (.ret)
abbrev K143_4:C:=.cond 6 (.v 13) K143_3 (.skip)
abbrev K143_5:Pl:=.x 13 (.un .not (.v 12)) .done
abbrev K143_6:C:=.seq (.block 3 (.seq (.pl <| .e 6 8 <|
 .a 6 1 <|
 .g 7 6 1 2 <|
 .m 8 5 <|
 .x 9 (.ia 4 (.v 7) (.v 8)) <|
 .o (.ld (some 10) (.v 9) (some 4)) <|
 .m 11 3 <|
 .c 12 (.call fn_spec_l7Edge [.v 10,.v 11]) K143_5) K143_4)) K143_2
abbrev K143_7:C:=.cond 6 (.v 10) (.skip) (.exit 2)
abbrev K143_8:C:=.seq (.seq (.pl <| .e 6 5 <|
 .m 6 5 <|
 .a 7 1 <|
 .g 8 7 1 2 <|
 .x 9 (.lenV (.v 8)) <|
 .x 10 (.bin .lss (.v 6) (.v 9)) .done) K143_7) K143_6
abbrev K143_9:C:=.block 2 (.loop 6 [0,2,4] K143_8)
abbrev K143_10:C:=.seq (.seq (.pl <| .e 6 0 <|
 .x 5 (.mv (.c (.int .i64 0))) .done) K143_9) K143_1
abbrev K143_11:C:=.pl <| .e 6 2 <|
 .m 6 4 <|
 .x 7 (.bin .add (.v 6) (.c (.int .i64 1))) <|
 .m 4 7 .done
abbrev K143_12:C:=.seq (.pl <| .e 6 0 <|
 .x 2 (.mv (.c (.bool false))) .done) (.ret)
abbrev K143_13:C:=.cond 6 (.v 38) K143_12 (.skip)
abbrev K143_14:C:=.seq (.block 1 (.seq (.pl <| .e 6 33 <|
 .a 6 1 <|
 .g 7 6 1 0 <|
 .m 8 4 <|
 .x 9 (.ia 1 (.v 7) (.v 8)) <|
 .l 10 9 <|
 .x 11 (.bin .lss (.v 10) (.c (.int .i64 0))) <|
 .m 12 11 <|
 .n 12 (.als 13 none 1) <|
 .n 12 (.pget (some 14) (some 13) 1 0 none) <|
 .n 12 (.px (some 15) (.mv (.v 4))) <|
 .n 12 (.px (some 16) (.ia 1 (.v 14) (.v 15))) <|
 .n 12 (.ld (some 17) (.v 16) none) <|
 .n 12 (.px (some 18) (.mv (.v 3))) <|
 .n 12 (.px (some 19) (.bin .geq (.v 17) (.v 18))) <|
 .x 20 (.pick (.v 12) (.c (.bool true)) (.v 19)) <|
 .m 21 20 <|
 .n 21 (.px (some 22) (.mv (.v 4))) <|
 .n 21 (.px (some 23) (.bin .gtr (.v 22) (.c (.int .i64 0)))) <|
 .n 21 (.px (some 24) (.mv (.v 23))) <|
 .y 24 (.als 25 none 1) <|
 .y 24 (.pget (some 26) (some 25) 1 0 none) <|
 .y 24 (.px (some 27) (.mv (.v 4))) <|
 .y 24 (.px (some 28) (.bin .sub (.v 27) (.c (.int .i64 1)))) <|
 .y 24 (.px (some 29) (.ia 1 (.v 26) (.v 28))) <|
 .y 24 (.ld (some 30) (.v 29) none) <|
 .y 24 (.als 31 none 1) <|
 .y 24 (.pget (some 32) (some 31) 1 0 none) <|
 .y 24 (.px (some 33) (.mv (.v 4))) <|
 .y 24 (.px (some 34) (.ia 1 (.v 32) (.v 33))) <|
 .y 24 (.ld (some 35) (.v 34) none) <|
 .y 24 (.px (some 36) (.bin .geq (.v 30) (.v 35))) <|
 .n 21 (.px (some 37) (.pick (.v 24) (.v 36) (.c (.bool false)))) <|
 .x 38 (.pick (.v 21) (.c (.bool true)) (.v 37)) .done) K143_13)) K143_11
abbrev K143_15:C:=.cond 6 (.v 10) (.skip) (.exit 0)
abbrev K143_16:C:=.seq (.seq (.pl <| .e 6 5 <|
 .m 6 4 <|
 .a 7 1 <|
 .g 8 7 1 0 <|
 .x 9 (.lenV (.v 8)) <|
 .x 10 (.bin .lss (.v 6) (.v 9)) .done) K143_15) K143_14
abbrev K143_17:C:=.block 0 (.loop 6 [0,2,5] K143_16)
abbrev K143_18:C:=.seq (.seq (.pl <| .e 6 0 <|
 .x 4 (.mv (.c (.int .i64 0))) .done) K143_17) K143_10
abbrev K143_19:C:=.seq (.pl <| .e 6 0 <|
 .x 2 (.mv (.c (.bool false))) .done) (.ret)
abbrev K143_20:C:=.cond 6 (.v 24) K143_19 (.skip)
abbrev K143_21:C:=.seq (.seq (.pl <| .e 6 19 <|
 .m 6 3 <|
 .x 7 (.bin .lss (.v 6) (.c (.int .i64 1))) <|
 .m 8 7 <|
 .n 8 (.px (some 9) (.mv (.v 3))) <|
 .n 8 (.px (some 10) (.bin .gtr (.v 9) (.c (.int .i64 64)))) <|
 .x 11 (.pick (.v 8) (.c (.bool true)) (.v 10)) <|
 .m 12 11 <|
 .n 12 (.als 13 none 1) <|
 .n 12 (.pget (some 14) (some 13) 1 0 none) <|
 .n 12 (.px (some 15) (.lenV (.v 14))) <|
 .n 12 (.px (some 16) (.mv (.v 3))) <|
 .n 12 (.px (some 17) (.bin .gtr (.v 15) (.v 16))) <|
 .x 18 (.pick (.v 12) (.c (.bool true)) (.v 17)) <|
 .m 19 18 <|
 .n 19 (.als 20 none 1) <|
 .n 19 (.pget (some 21) (some 20) 1 2 none) <|
 .n 19 (.px (some 22) (.lenV (.v 21))) <|
 .n 19 (.px (some 23) (.bin .gtr (.v 22) (.c (.int .i64 2048)))) <|
 .x 24 (.pick (.v 19) (.c (.bool true)) (.v 23)) .done) K143_20) K143_18
abbrev K143_22:C:=.seq (.pl <| .e 6 3 <|
 .a 6 1 <|
 .g 7 6 1 1 <|
 .x 8 (.lenV (.v 7)) <|
 .m 3 8 .done) K143_21
abbrev B_spec_AutomatonValid:C:=.seq (.pl <| .e 6 0 <|
 .o (.pnew 1 (.v 0) []) <|
 .x 2 (.mv (.c (.bool false))) .done) K143_22
def R_spec_AutomatonValid:FIR:=⟨B_spec_AutomatonValid,6,[(2,none)]⟩
theorem IR_spec_AutomatonValid:cfun Tryz.prog H_spec_AutomatonValid Tryz.f143=some R_spec_AutomatonValid:=by kernel_rfl
theorem EN_spec_AutomatonValid:ENT Tryz.prog B_spec_AutomatonValid [(2,none)] 1 6 fn_spec_AutomatonValid:=fun hargs hw=>enter Tryz.func143 rfl IR_spec_AutomatonValid hargs hw
def H_spec_BasicFormulas:Hint:=⟨[(0,false),(1,true),(2,false),(3,false),(4,true),(5,false),(6,false),(7,false),(8,false)],[[0,1,2,3,4,5]]⟩
abbrev K98_1:C:=.seq (.pl <| .e 9 1 <|
 .m 9 6 <|
 .m 2 9 <|
 .x 3 (.mv (.c (.bool true))) .done) (.ret)
abbrev K98_2:Pl:=.m 2 9 <|
 .x 3 (.mv (.c (.bool false))) .done
abbrev K98_3:C:=.seq (.pl <| .e 9 1 <|
 .c 9 (.bls 3 0 [.int .i64 0,.int .i64 0,.slice none 0 0] []) K98_2) (.ret)
abbrev K98_4:C:=.cond 9 (.v 11) K98_3 (.skip)
abbrev K98_5:C:=.seq (.seq (.pl <| .e 9 3 <|
 .m 9 6 <|
 .x 10 (.lenV (.v 9)) <|
 .x 11 (.bin .gtr (.v 10) (.c (.int .i64 5))) .done) K98_4) K98_1
abbrev K98_6:C:=.pl <| .e 9 2 <|
 .m 9 8 <|
 .x 10 (.bin .add (.v 9) (.c (.int .i64 1))) <|
 .m 8 10 .done
abbrev K98_7:Pl:=.m 6 15 .done
abbrev K98_8:C:=.pl <| .e 9 7 <|
 .m 9 6 <|
 .m 10 7 <|
 .m 11 8 <|
 .x 12 (.ia 3 (.v 10) (.v 11)) <|
 .o (.ld (some 13) (.v 12) (some 3)) <|
 .o (.psl 14 [.int .i64 0,.int .i64 0,.slice none 0 0] [(0,3,.v 13)]) <|
 .c 15 (.app 40 3 [.int .i64 0,.int .i64 0,.slice none 0 0] (.o (.v 9)) (.p 1 14)) K98_7
abbrev K98_9:C:=.cond 9 (.v 13) K98_8 (.skip)
abbrev K98_10:C:=.seq (.block 1 (.seq (.pl <| .e 9 5 <|
 .m 9 7 <|
 .m 10 8 <|
 .x 11 (.ia 3 (.v 9) (.v 10)) <|
 .o (.ld (some 12) (.v 11) (some 3)) <|
 .c 13 (.call fn_spec_l7Basic [.v 12]) .done) K98_9)) K98_6
abbrev K98_11:C:=.cond 9 (.v 12) (.skip) (.exit 0)
abbrev K98_12:C:=.seq (.seq (.pl <| .e 9 4 <|
 .m 9 8 <|
 .m 10 7 <|
 .x 11 (.lenV (.v 10)) <|
 .x 12 (.bin .lss (.v 9) (.v 11)) .done) K98_11) K98_10
abbrev K98_13:C:=.block 0 (.loop 9 [0,1,2,3,4,5] K98_12)
abbrev K98_14:C:=.seq (.seq (.pl <| .e 9 0 <|
 .x 8 (.mv (.c (.int .i64 0))) .done) K98_13) K98_5
abbrev K98_15:Pl:=.m 7 10 .done
abbrev K98_16:C:=.seq (.pl <| .e 9 2 <|
 .o (.pget (some 9) none 4 0 (some 3)) <|
 .c 10 (.call fn_spec_l5Subs [.c (.slice none 0 0),.v 9]) K98_15) K98_14
abbrev K98_17:Pl:=.m 6 9 .done
abbrev K98_18:C:=.seq (.pl <| .e 9 1 <|
 .c 9 (.bls 3 0 [.int .i64 0,.int .i64 0,.slice none 0 0] []) K98_17) K98_16
abbrev K98_19:Pl:=.m 2 9 <|
 .x 3 (.mv (.c (.bool false))) .done
abbrev K98_20:C:=.seq (.pl <| .e 9 1 <|
 .c 9 (.bls 3 0 [.int .i64 0,.int .i64 0,.slice none 0 0] []) K98_19) (.ret)
abbrev K98_21:C:=.cond 9 (.v 10) K98_20 (.skip)
abbrev K98_22:C:=.seq (.seq (.pl <| .e 9 2 <|
 .m 9 5 <|
 .x 10 (.un .not (.v 9)) .done) K98_21) K98_18
abbrev K98_23:Pl:=.m 11 10 <|
 .x 12 (.extract 0 (.v 11)) <|
 .x 13 (.extract 1 (.v 11)) <|
 .o (.pnew 4 (.c (.agg #[.int .i64 0,.int .i64 0,.slice none 0 0])) []) <|
 .o (.pset none 4 0 3 (.v 12)) <|
 .m 5 13 .done
abbrev K98_24:C:=.seq (.pl <| .e 9 5 <|
 .o (.pget (some 9) none 1 0 (some 3)) <|
 .c 10 (.call fn_spec_NormalForm [.v 9]) K98_23) K98_22
abbrev B_spec_BasicFormulas:C:=.seq (.pl <| .e 9 0 <|
 .o (.pnew 1 (.v 0) []) <|
 .x 2 (.mv (.c (.slice none 0 0))) <|
 .x 3 (.mv (.c (.bool false))) .done) K98_24
def R_spec_BasicFormulas:FIR:=⟨B_spec_BasicFormulas,9,[(2,none),(3,none)]⟩
theorem IR_spec_BasicFormulas:cfun Tryz.prog H_spec_BasicFormulas Tryz.f98=some R_spec_BasicFormulas:=by kernel_rfl
theorem EN_spec_BasicFormulas:ENT Tryz.prog B_spec_BasicFormulas [(2,none),(3,none)] 1 9 fn_spec_BasicFormulas:=fun hargs hw=>enter Tryz.func98 rfl IR_spec_BasicFormulas hargs hw
def H_spec_DrawMonitorFormula:Hint:=⟨[(0,false),(2,true),(3,false),(4,false),(5,true)],[]⟩
abbrev K12_1:Pl:=.o (.pset none 1 0 3 (.v 5)) <|
 .m 2 7 .done
abbrev K12_2:C:=.seq (.pl <| .e 5 3 <|
 .o (.pget (some 5) none 4 0 (some 3)) <|
 .m 6 3 <|
 .c 7 (.call fn_spec_l12Letters [.v 6]) K12_1) (.ret)
abbrev K12_3:Pl:=.o (.pnew 4 (.c (.agg #[.int .i64 0,.int .i64 0,.slice none 0 0])) []) <|
 .o (.pset none 4 0 3 (.v 8)) .done
abbrev K12_4:Pl:=.c 8 (.call fn_spec_l5Mutate [.v 5,.v 7]) K12_3
abbrev K12_5:C:=.seq (.pl <| .e 5 4 <|
 .m 5 3 <|
 .m 6 3 <|
 .c 7 (.call fn_spec_l5Formula [.v 6]) K12_4) K12_2
abbrev K12_6:Pl:=.m 3 6 .done
abbrev K12_7:C:=.seq (.pl <| .e 5 2 <|
 .m 5 0 <|
 .c 6 (.call fn_spec_l16Open [.v 5]) K12_6) K12_5
abbrev B_spec_DrawMonitorFormula:C:=.seq (.pl <| .e 5 0 <|
 .o (.pnew 1 (.c (.agg #[.int .i64 0,.int .i64 0,.slice none 0 0])) []) <|
 .x 2 (.mv (.c (.slice none 0 0))) .done) K12_7
def R_spec_DrawMonitorFormula:FIR:=⟨B_spec_DrawMonitorFormula,5,[(1,some (some 3)),(2,none)]⟩
theorem IR_spec_DrawMonitorFormula:cfun Tryz.prog H_spec_DrawMonitorFormula Tryz.f12=some R_spec_DrawMonitorFormula:=by kernel_rfl
theorem EN_spec_DrawMonitorFormula:ENT Tryz.prog B_spec_DrawMonitorFormula [(1,some (some 3)),(2,none)] 1 5 fn_spec_DrawMonitorFormula:=fun hargs hw=>enter Tryz.func12 rfl IR_spec_DrawMonitorFormula hargs hw
def H_spec_FormulaSame:Hint:=⟨[(0,false),(1,false),(2,true),(3,true),(4,false),(5,false)],[[0,1,4]]⟩
abbrev K167_1:C:=.seq (.pl <| .e 6 0 <|
 .x 4 (.mv (.c (.bool true))) .done) (.ret)
abbrev K167_2:C:=.pl <| .e 6 2 <|
 .m 6 5 <|
 .x 7 (.bin .add (.v 6) (.c (.int .i64 1))) <|
 .m 5 7 .done
abbrev K167_3:C:=.seq (.pl <| .e 6 0 <|
 .x 4 (.mv (.c (.bool false))) .done) (.ret)
abbrev K167_4:C:=.cond 6 (.v 17) K167_3 (.skip)
abbrev K167_5:Pl:=.x 17 (.un .not (.v 16)) .done
abbrev K167_6:C:=.seq (.block 1 (.seq (.pl <| .e 6 12 <|
 .a 6 2 <|
 .g 7 6 2 2 <|
 .m 8 5 <|
 .x 9 (.ia 3 (.v 7) (.v 8)) <|
 .o (.ld (some 10) (.v 9) (some 3)) <|
 .a 11 3 <|
 .g 12 11 3 2 <|
 .m 13 5 <|
 .x 14 (.ia 3 (.v 12) (.v 13)) <|
 .o (.ld (some 15) (.v 14) (some 3)) <|
 .c 16 (.call fn_spec_FormulaSame [.v 10,.v 15]) K167_5) K167_4)) K167_2
abbrev K167_7:C:=.cond 6 (.v 10) (.skip) (.exit 0)
abbrev K167_8:C:=.seq (.seq (.pl <| .e 6 5 <|
 .m 6 5 <|
 .a 7 2 <|
 .g 8 7 2 2 <|
 .x 9 (.lenV (.v 8)) <|
 .x 10 (.bin .lss (.v 6) (.v 9)) .done) K167_7) K167_6
abbrev K167_9:C:=.block 0 (.loop 6 [0,1,4] K167_8)
abbrev K167_10:C:=.seq (.seq (.pl <| .e 6 0 <|
 .x 5 (.mv (.c (.int .i64 0))) .done) K167_9) K167_1
abbrev K167_11:C:=.seq (.pl <| .e 6 0 <|
 .x 4 (.mv (.c (.bool false))) .done) (.ret)
abbrev K167_12:C:=.cond 6 (.v 26) K167_11 (.skip)
abbrev K167_13:C:=.seq (.seq (.pl <| .e 6 21 <|
 .a 6 2 <|
 .g 7 6 2 0 <|
 .a 8 3 <|
 .g 9 8 3 0 <|
 .x 10 (.bin .neq (.v 7) (.v 9)) <|
 .m 11 10 <|
 .n 11 (.als 12 none 2) <|
 .n 11 (.pget (some 13) (some 12) 2 1 none) <|
 .n 11 (.als 14 none 3) <|
 .n 11 (.pget (some 15) (some 14) 3 1 none) <|
 .n 11 (.px (some 16) (.bin .neq (.v 13) (.v 15))) <|
 .x 17 (.pick (.v 11) (.c (.bool true)) (.v 16)) <|
 .m 18 17 <|
 .n 18 (.als 19 none 2) <|
 .n 18 (.pget (some 20) (some 19) 2 2 none) <|
 .n 18 (.px (some 21) (.lenV (.v 20))) <|
 .n 18 (.als 22 none 3) <|
 .n 18 (.pget (some 23) (some 22) 3 2 none) <|
 .n 18 (.px (some 24) (.lenV (.v 23))) <|
 .n 18 (.px (some 25) (.bin .neq (.v 21) (.v 24))) <|
 .x 26 (.pick (.v 18) (.c (.bool true)) (.v 25)) .done) K167_12) K167_10
abbrev B_spec_FormulaSame:C:=.seq (.pl <| .e 6 0 <|
 .o (.pnew 2 (.v 0) []) <|
 .o (.pnew 3 (.v 1) []) <|
 .x 4 (.mv (.c (.bool false))) .done) K167_13
def R_spec_FormulaSame:FIR:=⟨B_spec_FormulaSame,6,[(4,none)]⟩
theorem IR_spec_FormulaSame:cfun Tryz.prog H_spec_FormulaSame Tryz.f167=some R_spec_FormulaSame:=by kernel_rfl
theorem EN_spec_FormulaSame:ENT Tryz.prog B_spec_FormulaSame [(4,none)] 2 6 fn_spec_FormulaSame:=fun hargs hw=>enter Tryz.func167 rfl IR_spec_FormulaSame hargs hw
def H_spec_FormulaValid:Hint:=⟨[(0,false),(1,true),(2,false)],[]⟩
abbrev K20_1:Pl:=.y 5 (.px (some 8) (.bin .leq (.v 7) (.c (.int .i64 12)))) <|
 .x 9 (.pick (.v 5) (.v 8) (.c (.bool false))) <|
 .m 2 9 .done
abbrev K20_2:Pl:=.m 5 4 <|
 .y 5 (.pget (some 6) none 1 0 (some 3)) <|
 .st (.act (some (.v 5,true)) (.ex (some 7) (.call fn_spec_l5Count [.v 6,.c (.int .i64 6)]))) K20_1
abbrev K20_3:C:=.seq (.pl <| .e 3 7 <|
 .o (.pget (some 3) none 1 0 (some 3)) <|
 .c 4 (.call fn_spec_l5Shape [.v 3,.c (.int .i64 6)]) K20_2) (.ret)
abbrev B_spec_FormulaValid:C:=.seq (.pl <| .e 3 0 <|
 .o (.pnew 1 (.v 0) []) <|
 .x 2 (.mv (.c (.bool false))) .done) K20_3
def R_spec_FormulaValid:FIR:=⟨B_spec_FormulaValid,3,[(2,none)]⟩
theorem IR_spec_FormulaValid:cfun Tryz.prog H_spec_FormulaValid Tryz.f20=some R_spec_FormulaValid:=by kernel_rfl
theorem EN_spec_FormulaValid:ENT Tryz.prog B_spec_FormulaValid [(2,none)] 1 3 fn_spec_FormulaValid:=fun hargs hw=>enter Tryz.func20 rfl IR_spec_FormulaValid hargs hw
def H_spec_LiveStates:Hint:=⟨[(0,false),(1,true),(2,false),(3,false),(4,false),(5,false),(6,false),(7,false),(8,false)],[[0,2,6,7,8],[0,2]]⟩
abbrev K107_1:C:=.seq (.pl <| .e 9 1 <|
 .m 9 3 <|
 .m 2 9 .done) (.ret)
abbrev K107_2:C:=.pl <| .e 9 2 <|
 .m 9 5 <|
 .x 10 (.bin .add (.v 9) (.c (.int .i64 1))) <|
 .m 5 10 .done
abbrev K107_3:Pl:=.m 3 12 .done
abbrev K107_4:C:=.pl <| .e 9 4 <|
 .m 9 3 <|
 .m 10 7 <|
 .o (.psl 11 [.bool false] [(0,1,.v 10)]) <|
 .c 12 (.app 1 1 [.bool false] (.o (.v 9)) (.p 1 11)) K107_3
abbrev K107_5:C:=.pl <| .e 9 2 <|
 .m 9 8 <|
 .x 10 (.bin .add (.v 9) (.c (.int .i64 1))) <|
 .m 8 10 .done
abbrev K107_6:Pl:=.x 24 (.pick (.v 17) (.v 23) (.c (.bool false))) <|
 .m 7 24 .done
abbrev K107_7:C:=.seq (.block 3 (.pl <| .e 9 16 <|
 .a 9 1 <|
 .g 10 9 1 1 <|
 .m 11 6 <|
 .m 12 8 <|
 .x 13 (.ia 1 (.v 11) (.v 12)) <|
 .l 14 13 <|
 .x 15 (.ia 1 (.v 10) (.v 14)) <|
 .l 16 15 <|
 .m 17 16 <|
 .y 17 (.px (some 18) (.mv (.v 4))) <|
 .y 17 (.px (some 19) (.mv (.v 6))) <|
 .y 17 (.px (some 20) (.mv (.v 8))) <|
 .y 17 (.px (some 21) (.ia 1 (.v 19) (.v 20))) <|
 .y 17 (.ld (some 22) (.v 21) none) <|
 .st (.act (some (.v 17,true)) (.ex (some 23) (.call fn_spec_l7Loop [.v 18,.v 22]))) K107_6)) K107_5
abbrev K107_8:C:=.cond 9 (.v 16) (.skip) (.exit 2)
abbrev K107_9:C:=.seq (.seq (.pl <| .e 9 8 <|
 .m 9 8 <|
 .m 10 6 <|
 .x 11 (.lenV (.v 10)) <|
 .x 12 (.bin .lss (.v 9) (.v 11)) <|
 .m 13 12 <|
 .y 13 (.px (some 14) (.mv (.v 7))) <|
 .y 13 (.px (some 15) (.un .not (.v 14))) <|
 .x 16 (.pick (.v 13) (.v 15) (.c (.bool false))) .done) K107_8) K107_7
abbrev K107_10:C:=.block 2 (.loop 9 [0,2] K107_9)
abbrev K107_11:C:=.seq (.seq (.pl <| .e 9 0 <|
 .x 8 (.mv (.c (.int .i64 0))) .done) K107_10) K107_4
abbrev K107_12:C:=.seq (.pl <| .e 9 0 <|
 .x 7 (.mv (.c (.bool false))) .done) K107_11
abbrev K107_13:Pl:=.m 6 12 .done
abbrev K107_14:Pl:=.c 12 (.call fn_spec_l7Reach [.v 9,.v 11]) K107_13
abbrev K107_15:C:=.seq (.block 1 (.seq (.pl <| .e 9 4 <|
 .m 9 4 <|
 .m 10 5 <|
 .c 11 (.bls 1 1 [.int .i64 0] [(0,1,.v 10)]) K107_14) K107_12)) K107_2
abbrev K107_16:C:=.cond 9 (.v 13) (.skip) (.exit 0)
abbrev K107_17:C:=.seq (.seq (.pl <| .e 9 5 <|
 .m 9 5 <|
 .a 10 1 <|
 .g 11 10 1 1 <|
 .x 12 (.lenV (.v 11)) <|
 .x 13 (.bin .lss (.v 9) (.v 12)) .done) K107_16) K107_15
abbrev K107_18:C:=.block 0 (.loop 9 [0,2,6,7,8] K107_17)
abbrev K107_19:C:=.seq (.seq (.pl <| .e 9 0 <|
 .x 5 (.mv (.c (.int .i64 0))) .done) K107_18) K107_1
abbrev K107_20:Pl:=.m 4 10 .done
abbrev K107_21:C:=.seq (.pl <| .e 9 2 <|
 .o (.pget (some 9) none 1 0 (some 3)) <|
 .c 10 (.call fn_spec_l7Next [.v 9]) K107_20) K107_19
abbrev K107_22:C:=.seq (.pl <| .e 9 1 <|
 .m 9 3 <|
 .m 2 9 .done) (.ret)
abbrev K107_23:C:=.cond 9 (.v 11) K107_22 (.skip)
abbrev K107_24:Pl:=.x 11 (.un .not (.v 10)) .done
abbrev K107_25:C:=.seq (.seq (.pl <| .e 9 3 <|
 .o (.pget (some 9) none 1 0 (some 3)) <|
 .c 10 (.call fn_spec_AutomatonValid [.v 9]) K107_24) K107_23) K107_21
abbrev K107_26:Pl:=.m 3 9 .done
abbrev K107_27:C:=.seq (.pl <| .e 9 1 <|
 .c 9 (.bls 1 0 [.bool false] []) K107_26) K107_25
abbrev B_spec_LiveStates:C:=.seq (.pl <| .e 9 0 <|
 .o (.pnew 1 (.v 0) []) <|
 .x 2 (.mv (.c (.slice none 0 0))) .done) K107_27
def R_spec_LiveStates:FIR:=⟨B_spec_LiveStates,9,[(2,none)]⟩
theorem IR_spec_LiveStates:cfun Tryz.prog H_spec_LiveStates Tryz.f107=some R_spec_LiveStates:=by kernel_rfl
theorem EN_spec_LiveStates:ENT Tryz.prog B_spec_LiveStates [(2,none)] 1 9 fn_spec_LiveStates:=fun hargs hw=>enter Tryz.func107 rfl IR_spec_LiveStates hargs hw
def H_spec_NegateFormula:Hint:=⟨[(0,false),(1,true),(2,true),(3,false),(4,true)],[]⟩
abbrev K106_1:C:=.seq (.pl <| .e 5 1 <|
 .o (.pget (some 5) none 4 0 (some 3)) <|
 .o (.pset none 2 0 3 (.v 5)) <|
 .x 3 (.mv (.c (.bool true))) .done) (.ret)
abbrev K106_2:C:=.seq (.pl <| .e 5 1 <|
 .x 5 (.build [.int .i64 0,.int .i64 0,.slice none 0 0] []) <|
 .o (.pset none 2 0 3 (.v 5)) <|
 .x 3 (.mv (.c (.bool false))) .done) (.ret)
abbrev K106_3:C:=.cond 5 (.v 7) K106_2 (.skip)
abbrev K106_4:Pl:=.x 7 (.un .not (.v 6)) .done
abbrev K106_5:C:=.seq (.seq (.pl <| .e 5 3 <|
 .o (.pget (some 5) none 4 0 (some 3)) <|
 .c 6 (.call fn_spec_FormulaValid [.v 5]) K106_4) K106_3) K106_1
abbrev K106_6:Pl:=.o (.pnew 4 (.c (.agg #[.int .i64 0,.int .i64 0,.slice none 0 0])) []) <|
 .o (.pset none 4 0 3 (.v 7)) .done
abbrev K106_7:Pl:=.c 7 (.call fn_spec_l5Not [.v 6]) K106_6
abbrev K106_8:C:=.seq (.pl <| .e 5 3 <|
 .o (.pget (some 5) none 1 0 (some 3)) <|
 .c 6 (.call fn_spec_l5Copy [.v 5]) K106_7) K106_5
abbrev K106_9:Pl:=.o (.pset none 2 0 3 (.v 9)) <|
 .x 3 (.mv (.c (.bool true))) .done
abbrev K106_10:C:=.seq (.pl <| .e 5 5 <|
 .a 5 1 <|
 .g 6 5 1 2 <|
 .x 7 (.ia 3 (.v 6) (.c (.int .i64 0))) <|
 .o (.ld (some 8) (.v 7) (some 3)) <|
 .c 9 (.call fn_spec_l5Copy [.v 8]) K106_9) (.ret)
abbrev K106_11:C:=.cond 5 (.v 7) K106_10 (.skip)
abbrev K106_12:C:=.seq (.seq (.pl <| .e 5 3 <|
 .a 5 1 <|
 .g 6 5 1 0 <|
 .x 7 (.bin .eql (.v 6) (.c (.int .i64 3))) .done) K106_11) K106_8
abbrev K106_13:C:=.seq (.pl <| .e 5 1 <|
 .x 5 (.build [.int .i64 0,.int .i64 0,.slice none 0 0] []) <|
 .o (.pset none 2 0 3 (.v 5)) <|
 .x 3 (.mv (.c (.bool false))) .done) (.ret)
abbrev K106_14:C:=.cond 5 (.v 7) K106_13 (.skip)
abbrev K106_15:Pl:=.x 7 (.un .not (.v 6)) .done
abbrev K106_16:C:=.seq (.seq (.pl <| .e 5 3 <|
 .o (.pget (some 5) none 1 0 (some 3)) <|
 .c 6 (.call fn_spec_FormulaValid [.v 5]) K106_15) K106_14) K106_12
abbrev B_spec_NegateFormula:C:=.seq (.pl <| .e 5 0 <|
 .o (.pnew 1 (.v 0) []) <|
 .o (.pnew 2 (.c (.agg #[.int .i64 0,.int .i64 0,.slice none 0 0])) []) <|
 .x 3 (.mv (.c (.bool false))) .done) K106_16
def R_spec_NegateFormula:FIR:=⟨B_spec_NegateFormula,5,[(2,some (some 3)),(3,none)]⟩
theorem IR_spec_NegateFormula:cfun Tryz.prog H_spec_NegateFormula Tryz.f106=some R_spec_NegateFormula:=by kernel_rfl
theorem EN_spec_NegateFormula:ENT Tryz.prog B_spec_NegateFormula [(2,some (some 3)),(3,none)] 1 5 fn_spec_NegateFormula:=fun hargs hw=>enter Tryz.func106 rfl IR_spec_NegateFormula hargs hw
def H_impl_AutomatonValid:Hint:=⟨[(0,false),(1,true),(2,false),(3,false),(4,false),(6,false),(11,false),(12,false),(13,false)],[[0,2,5]]⟩
abbrev K81_1:Pl:=.y 17 (.px (some 22) (.un .not (.v 21))) <|
 .x 23 (.pick (.v 17) (.v 22) (.c (.bool false))) <|
 .m 2 23 .done
abbrev K81_2:Pl:=.m 11 10 <|
 .y 11 (.als 12 none 1) <|
 .y 11 (.pget (some 13) (some 12) 1 2 none) <|
 .y 11 (.px (some 14) (.lenV (.v 13))) <|
 .y 11 (.px (some 15) (.bin .leq (.v 14) (.c (.int .i64 2048)))) <|
 .x 16 (.pick (.v 11) (.v 15) (.c (.bool false))) <|
 .m 17 16 <|
 .y 17 (.als 18 none 1) <|
 .y 17 (.pget (some 19) (some 18) 1 2 none) <|
 .y 17 (.px (some 20) (.mkf (.func fn_impl_AutomatonValid_1) [] [.v 3])) <|
 .st (.act (some (.v 17,true)) (.ex (some 21) (.call fn_slices_ContainsFunc_S_impl_Transition_impl_Transition [.v 19,.v 20]))) K81_1
abbrev K81_3:C:=.seq (.pl <| .e 9 15 <|
 .l 9 3 <|
 .c 10 (.call fn_impl_in [.v 9,.c (.int .i64 1),.c (.int .i64 64)]) K81_2) (.ret)
abbrev K81_4:C:=.pl <| .e 9 1 <|
 .x 9 (.bin .add (.v 8) (.c (.int .i64 1))) <|
 .m 8 9 .done
abbrev K81_5:C:=.pl <| .e 9 1 <|
 .m 9 5 <|
 .m 4 9 .done
abbrev K81_6:C:=.seq (.pl <| .e 9 0 <|
 .x 2 (.mv (.c (.bool false))) .done) (.ret)
abbrev K81_7:C:=.cond 9 (.v 15) K81_6 (.skip)
abbrev K81_8:Pl:=.x 15 (.un .not (.v 14)) .done
abbrev K81_9:C:=.seq (.seq (.pl <| .e 9 7 <|
 .m 9 5 <|
 .m 10 4 <|
 .x 11 (.bin .add (.v 10) (.c (.int .i64 1))) <|
 .l 12 3 <|
 .x 13 (.bin .sub (.v 12) (.c (.int .i64 1))) <|
 .c 14 (.call fn_impl_in [.v 9,.v 11,.v 13]) K81_8) K81_7) K81_5
abbrev K81_10:C:=.seq (.block 1 (.seq (.pl <| .e 9 2 <|
 .x 9 (.ia 1 (.v 6) (.v 8)) <|
 .l 10 9 <|
 .m 5 10 .done) K81_9)) K81_4
abbrev K81_11:C:=.seq (.cond 9 (.v 9) (.skip) (.exit 0)) K81_10
abbrev K81_12:C:=.seq (.pl <| .e 9 1 <|
 .x 9 (.bin .lss (.v 8) (.v 7)) .done) K81_11
abbrev K81_13:C:=.block 0 (.loop 9 [0,2,5] K81_12)
abbrev K81_14:C:=.seq (.seq (.pl <| .e 9 1 <|
 .a 9 1 <|
 .g 6 9 1 0 <|
 .x 7 (.lenV (.v 6)) <|
 .x 8 (.mv (.c (.int .i64 0))) .done) K81_13) K81_3
abbrev K81_15:C:=.seq (.pl <| .e 9 0 <|
 .x 4 (.mv (.c (.int .i64 (-1)))) .done) K81_14
abbrev K81_16:Pl:=.o (.ex none (.store 1 (.v 3) (.v 11))) .done
abbrev K81_17:C:=.seq (.pl <| .e 9 3 <|
 .a 9 1 <|
 .g 10 9 1 1 <|
 .x 11 (.lenV (.v 10)) <|
 .c 3 (.alloc (.c (.int .i64 0))) K81_16) K81_15
abbrev B_impl_AutomatonValid:C:=.seq (.pl <| .e 9 0 <|
 .o (.pnew 1 (.v 0) []) <|
 .x 2 (.mv (.c (.bool false))) .done) K81_17
def R_impl_AutomatonValid:FIR:=⟨B_impl_AutomatonValid,9,[(2,none)]⟩
theorem IR_impl_AutomatonValid:cfun Tryz.prog H_impl_AutomatonValid Tryz.f81=some R_impl_AutomatonValid:=by kernel_rfl
theorem EN_impl_AutomatonValid:ENT Tryz.prog B_impl_AutomatonValid [(2,none)] 1 9 fn_impl_AutomatonValid:=fun hargs hw=>enter Tryz.func81 rfl IR_impl_AutomatonValid hargs hw
def H_impl_AutomatonValid_1:Hint:=⟨[(0,false),(1,false),(2,true),(3,false)],[]⟩
abbrev K122_1:Pl:=.n 18 (.px (some 22) (.un .not (.v 21))) <|
 .x 23 (.pick (.v 18) (.c (.bool true)) (.v 22)) <|
 .m 24 23 <|
 .n 24 (.als 25 none 2) <|
 .n 24 (.pget (some 26) (some 25) 2 2 none) <|
 .n 24 (.px (some 27) (.bin .lss (.v 26) (.c (.int .i64 0)))) <|
 .x 28 (.pick (.v 24) (.c (.bool true)) (.v 27)) <|
 .m 29 28 <|
 .n 29 (.als 30 none 2) <|
 .n 29 (.pget (some 31) (some 30) 2 2 none) <|
 .n 29 (.als 32 none 2) <|
 .n 29 (.pget (some 33) (some 32) 2 1 none) <|
 .n 29 (.px (some 34) (.bin .andNot (.v 31) (.v 33))) <|
 .n 29 (.px (some 35) (.bin .neq (.v 34) (.c (.int .i64 0)))) <|
 .x 36 (.pick (.v 29) (.c (.bool true)) (.v 35)) <|
 .m 3 36 .done
abbrev K122_2:Pl:=.n 10 (.px (some 16) (.un .not (.v 15))) <|
 .x 17 (.pick (.v 10) (.c (.bool true)) (.v 16)) <|
 .m 18 17 <|
 .n 18 (.als 19 none 2) <|
 .n 18 (.pget (some 20) (some 19) 2 1 none) <|
 .st (.act (some (.v 18,false)) (.ex (some 21) (.call fn_impl_in [.v 20,.c (.int .i64 0),.c (.int .i64 7)]))) K122_1
abbrev K122_3:Pl:=.x 9 (.un .not (.v 8)) <|
 .m 10 9 <|
 .n 10 (.als 11 none 2) <|
 .n 10 (.pget (some 12) (some 11) 2 3 none) <|
 .n 10 (.ld (some 13) (.v 1) none) <|
 .n 10 (.px (some 14) (.bin .sub (.v 13) (.c (.int .i64 1)))) <|
 .st (.act (some (.v 10,false)) (.ex (some 15) (.call fn_impl_in [.v 12,.c (.int .i64 0),.v 14]))) K122_2
abbrev K122_4:C:=.seq (.pl <| .e 4 33 <|
 .a 4 2 <|
 .g 5 4 2 0 <|
 .l 6 1 <|
 .x 7 (.bin .sub (.v 6) (.c (.int .i64 1))) <|
 .c 8 (.call fn_impl_in [.v 5,.c (.int .i64 0),.v 7]) K122_3) (.ret)
abbrev B_impl_AutomatonValid_1:C:=.seq (.pl <| .e 4 0 <|
 .o (.pnew 2 (.v 0) []) <|
 .x 3 (.mv (.c (.bool false))) .done) K122_4
def R_impl_AutomatonValid_1:FIR:=⟨B_impl_AutomatonValid_1,4,[(3,none)]⟩
theorem IR_impl_AutomatonValid_1:cfun Tryz.prog H_impl_AutomatonValid_1 Tryz.f122=some R_impl_AutomatonValid_1:=by kernel_rfl
theorem EN_impl_AutomatonValid_1:ENT Tryz.prog B_impl_AutomatonValid_1 [(3,none)] 2 4 fn_impl_AutomatonValid_1:=fun hargs hw=>enter Tryz.func122 rfl IR_impl_AutomatonValid_1 hargs hw
def H_impl_Automaton_after:Hint:=⟨[(0,false),(1,false),(2,false),(3,false),(4,true),(8,false),(9,false),(11,true),(16,false),(17,false),(18,false)],[[0,4,5,7]]⟩
abbrev K51_1:C:=.seq (.pl <| .e 11 1 <|
 .m 11 6 <|
 .m 5 11 .done) (.ret)
abbrev K51_2:C:=.pl <| .e 11 1 <|
 .x 11 (.bin .add (.v 10) (.c (.int .i64 1))) <|
 .m 10 11 .done
abbrev K51_3:C:=.pl <| .e 11 4 <|
 .m 11 6 <|
 .a 12 7 <|
 .g 13 12 7 3 <|
 .x 14 (.ia 1 (.v 11) (.v 13)) <|
 .o (.ex none (.store 1 (.v 14) (.c (.bool true)))) .done
abbrev K51_4:C:=.cond 11 (.v 27) K51_3 (.skip)
abbrev K51_5:Pl:=.x 27 (.pick (.v 23) (.v 26) (.c (.bool false))) .done
abbrev K51_6:C:=.seq (.pl <| .e 11 17 <|
 .m 11 2 <|
 .a 12 7 <|
 .g 13 12 7 0 <|
 .x 14 (.ia 1 (.v 11) (.v 13)) <|
 .l 15 14 <|
 .m 16 15 <|
 .y 16 (.px (some 17) (.mv (.v 1))) <|
 .y 16 (.als 18 none 7) <|
 .y 16 (.pget (some 19) (some 18) 7 3 none) <|
 .y 16 (.px (some 20) (.ia 1 (.v 17) (.v 19))) <|
 .y 16 (.ld (some 21) (.v 20) none) <|
 .x 22 (.pick (.v 16) (.v 21) (.c (.bool false))) <|
 .m 23 22 <|
 .y 23 (.pget (some 24) none 7 0 (some 4)) <|
 .y 23 (.px (some 25) (.mv (.v 3))) <|
 .st (.act (some (.v 23,true)) (.ex (some 26) (.call fn_impl_Transition_takes [.v 24,.v 25]))) K51_5) K51_4
abbrev K51_7:C:=.seq (.block 1 (.seq (.pl <| .e 11 2 <|
 .x 11 (.ia 4 (.v 8) (.v 10)) <|
 .o (.ld (some 12) (.v 11) (some 4)) <|
 .o (.pnew 7 (.c (.agg #[.int .i64 0,.int .i64 0,.int .i64 0,.int .i64 0])) []) <|
 .o (.pset none 7 0 4 (.v 12)) .done) K51_6)) K51_2
abbrev K51_8:C:=.seq (.cond 11 (.v 11) (.skip) (.exit 0)) K51_7
abbrev K51_9:C:=.seq (.pl <| .e 11 1 <|
 .x 11 (.bin .lss (.v 10) (.v 9)) .done) K51_8
abbrev K51_10:C:=.block 0 (.loop 11 [0,4,5,7] K51_9)
abbrev K51_11:C:=.seq (.seq (.pl <| .e 11 1 <|
 .a 11 4 <|
 .g 8 11 4 2 <|
 .x 9 (.lenV (.v 8)) <|
 .x 10 (.mv (.c (.int .i64 0))) .done) K51_10) K51_1
abbrev K51_12:Pl:=.m 6 13 .done
abbrev K51_13:C:=.seq (.pl <| .e 11 3 <|
 .m 11 1 <|
 .x 12 (.lenV (.v 11)) <|
 .c 13 (.mks 1 1 [.bool false] (.v 12) (.v 12)) K51_12) K51_11
abbrev B_impl_Automaton_after:C:=.seq (.pl <| .e 11 0 <|
 .o (.pnew 4 (.v 0) []) <|
 .x 5 (.mv (.c (.slice none 0 0))) .done) K51_13
def R_impl_Automaton_after:FIR:=⟨B_impl_Automaton_after,11,[(5,none)]⟩
theorem IR_impl_Automaton_after:cfun Tryz.prog H_impl_Automaton_after Tryz.f51=some R_impl_Automaton_after:=by kernel_rfl
theorem EN_impl_Automaton_after:ENT Tryz.prog B_impl_Automaton_after [(5,none)] 4 11 fn_impl_Automaton_after:=fun hargs hw=>enter Tryz.func51 rfl IR_impl_Automaton_after hargs hw
def H_impl_Automaton_begin:Hint:=⟨[(0,false),(1,false),(2,true),(4,false),(5,false),(7,false),(12,false),(13,false),(14,false)],[[0,2,3,5]]⟩
abbrev K49_1:C:=.seq (.pl <| .e 9 1 <|
 .m 9 4 <|
 .m 3 9 .done) (.ret)
abbrev K49_2:C:=.pl <| .e 9 1 <|
 .x 9 (.bin .add (.v 8) (.c (.int .i64 1))) <|
 .m 8 9 .done
abbrev K49_3:C:=.pl <| .e 9 7 <|
 .m 9 4 <|
 .m 10 5 <|
 .m 11 1 <|
 .m 12 5 <|
 .x 13 (.ia 1 (.v 11) (.v 12)) <|
 .l 14 13 <|
 .x 15 (.ia 1 (.v 9) (.v 10)) <|
 .o (.ex none (.store 1 (.v 15) (.v 14))) .done
abbrev K49_4:C:=.seq (.block 1 (.seq (.pl <| .e 9 2 <|
 .x 9 (.ia 1 (.v 6) (.v 8)) <|
 .l 10 9 <|
 .m 5 10 .done) K49_3)) K49_2
abbrev K49_5:C:=.seq (.cond 9 (.v 9) (.skip) (.exit 0)) K49_4
abbrev K49_6:C:=.seq (.pl <| .e 9 1 <|
 .x 9 (.bin .lss (.v 8) (.v 7)) .done) K49_5
abbrev K49_7:C:=.block 0 (.loop 9 [0,2,3,5] K49_6)
abbrev K49_8:C:=.seq (.seq (.pl <| .e 9 1 <|
 .a 9 2 <|
 .g 6 9 2 0 <|
 .x 7 (.lenV (.v 6)) <|
 .x 8 (.mv (.c (.int .i64 0))) .done) K49_7) K49_1
abbrev K49_9:Pl:=.m 4 11 .done
abbrev K49_10:C:=.seq (.pl <| .e 9 3 <|
 .m 9 1 <|
 .x 10 (.lenV (.v 9)) <|
 .c 11 (.mks 1 1 [.bool false] (.v 10) (.v 10)) K49_9) K49_8
abbrev B_impl_Automaton_begin:C:=.seq (.pl <| .e 9 0 <|
 .o (.pnew 2 (.v 0) []) <|
 .x 3 (.mv (.c (.slice none 0 0))) .done) K49_10
def R_impl_Automaton_begin:FIR:=⟨B_impl_Automaton_begin,9,[(3,none)]⟩
theorem IR_impl_Automaton_begin:cfun Tryz.prog H_impl_Automaton_begin Tryz.f49=some R_impl_Automaton_begin:=by kernel_rfl
theorem EN_impl_Automaton_begin:ENT Tryz.prog B_impl_Automaton_begin [(3,none)] 2 9 fn_impl_Automaton_begin:=fun hargs hw=>enter Tryz.func49 rfl IR_impl_Automaton_begin hargs hw
def H_impl_Automaton_copyOf:Hint:=⟨[(0,false),(1,true),(2,true)],[]⟩
abbrev K82_1:Pl:=.x 12 (.build [.slice none 0 0,.slice none 0 0,.slice none 0 0] [(0,1,.v 5),(1,1,.v 8),(2,1,.v 11)]) <|
 .o (.pset none 2 0 3 (.v 12)) .done
abbrev K82_2:Pl:=.c 11 (.call fn_impl_clone_impl_Transition [.v 10]) K82_1
abbrev K82_3:Pl:=.c 8 (.call fn_impl_clone_bool [.v 7]) K82_2
abbrev K82_4:C:=.seq (.pl <| .e 3 10 <|
 .a 3 1 <|
 .g 4 3 1 0 <|
 .a 6 1 <|
 .g 7 6 1 1 <|
 .a 9 1 <|
 .g 10 9 1 2 <|
 .c 5 (.call fn_impl_clone_int [.v 4]) K82_3) (.ret)
abbrev B_impl_Automaton_copyOf:C:=.seq (.pl <| .e 3 0 <|
 .o (.pnew 1 (.v 0) []) <|
 .o (.pnew 2 (.c (.agg #[.slice none 0 0,.slice none 0 0,.slice none 0 0])) []) .done) K82_4
def R_impl_Automaton_copyOf:FIR:=⟨B_impl_Automaton_copyOf,3,[(2,some (some 3))]⟩
theorem IR_impl_Automaton_copyOf:cfun Tryz.prog H_impl_Automaton_copyOf Tryz.f82=some R_impl_Automaton_copyOf:=by kernel_rfl
theorem EN_impl_Automaton_copyOf:ENT Tryz.prog B_impl_Automaton_copyOf [(2,some (some 3))] 1 3 fn_impl_Automaton_copyOf:=fun hargs hw=>enter Tryz.func82 rfl IR_impl_Automaton_copyOf hargs hw
def H_impl_Automaton_live:Hint:=⟨[(0,false),(1,true),(2,false),(3,false),(4,false),(5,false),(6,false),(7,false),(8,false),(17,false),(18,false),(24,false),(25,false),(26,false)],[[0,2,6,7,8,11,12,13],[0,2,7,8]]⟩
abbrev K48_1:C:=.seq (.pl <| .e 14 1 <|
 .m 14 5 <|
 .m 2 14 .done) (.ret)
abbrev K48_2:C:=.pl <| .e 14 1 <|
 .x 14 (.bin .add (.v 10) (.c (.int .i64 1))) <|
 .m 10 14 .done
abbrev K48_3:C:=.pl <| .e 14 1 <|
 .x 14 (.bin .add (.v 13) (.c (.int .i64 1))) <|
 .m 13 14 .done
abbrev K48_4:C:=.pl <| .e 14 23 <|
 .m 14 5 <|
 .m 15 6 <|
 .m 16 5 <|
 .m 17 6 <|
 .x 18 (.ia 1 (.v 16) (.v 17)) <|
 .l 19 18 <|
 .m 20 19 <|
 .n 20 (.px (some 21) (.mv (.v 8))) <|
 .n 20 (.px (some 22) (.mv (.v 21))) <|
 .y 22 (.px (some 23) (.mv (.v 4))) <|
 .y 22 (.px (some 24) (.mv (.v 7))) <|
 .y 22 (.px (some 25) (.ia 1 (.v 23) (.v 24))) <|
 .y 22 (.ld (some 26) (.v 25) none) <|
 .n 20 (.px (some 27) (.pick (.v 22) (.v 26) (.c (.bool false)))) <|
 .n 20 (.px (some 28) (.mv (.v 27))) <|
 .y 28 (.als 29 none 1) <|
 .y 28 (.pget (some 30) (some 29) 1 1 none) <|
 .y 28 (.px (some 31) (.mv (.v 7))) <|
 .y 28 (.px (some 32) (.ia 1 (.v 30) (.v 31))) <|
 .y 28 (.ld (some 33) (.v 32) none) <|
 .n 20 (.px (some 34) (.pick (.v 28) (.v 33) (.c (.bool false)))) <|
 .x 35 (.pick (.v 20) (.c (.bool true)) (.v 34)) <|
 .x 36 (.ia 1 (.v 14) (.v 15)) <|
 .o (.ex none (.store 1 (.v 36) (.v 35))) .done
abbrev K48_5:C:=.seq (.block 3 (.seq (.pl <| .e 14 3 <|
 .m 14 13 <|
 .x 15 (.ia 1 (.v 11) (.v 13)) <|
 .l 16 15 <|
 .m 7 14 <|
 .m 8 16 .done) K48_4)) K48_3
abbrev K48_6:C:=.seq (.cond 14 (.v 14) (.skip) (.exit 2)) K48_5
abbrev K48_7:C:=.seq (.pl <| .e 14 1 <|
 .x 14 (.bin .lss (.v 13) (.v 12)) .done) K48_6
abbrev K48_8:C:=.block 2 (.loop 14 [0,2,7,8] K48_7)
abbrev K48_9:Pl:=.x 12 (.lenV (.v 11)) <|
 .x 13 (.mv (.c (.int .i64 0))) .done
abbrev K48_10:Pl:=.c 11 (.call fn_impl_reachable [.v 14,.v 16]) K48_9
abbrev K48_11:C:=.seq (.pl <| .e 14 3 <|
 .m 14 3 <|
 .m 15 6 <|
 .c 16 (.bls 1 1 [.int .i64 0] [(0,1,.v 15)]) K48_10) K48_8
abbrev K48_12:C:=.seq (.block 1 (.seq (.pl <| .e 14 1 <|
 .m 14 10 <|
 .m 6 14 .done) K48_11)) K48_2
abbrev K48_13:C:=.seq (.cond 14 (.v 14) (.skip) (.exit 0)) K48_12
abbrev K48_14:C:=.seq (.pl <| .e 14 1 <|
 .x 14 (.bin .lss (.v 10) (.v 9)) .done) K48_13
abbrev K48_15:C:=.block 0 (.loop 14 [0,2,6,7,8,11,12,13] K48_14)
abbrev K48_16:C:=.seq (.seq (.pl <| .e 14 1 <|
 .m 14 3 <|
 .x 9 (.lenV (.v 14)) <|
 .x 10 (.mv (.c (.int .i64 0))) .done) K48_15) K48_1
abbrev K48_17:Pl:=.m 5 16 .done
abbrev K48_18:C:=.seq (.pl <| .e 14 3 <|
 .m 14 3 <|
 .x 15 (.lenV (.v 14)) <|
 .c 16 (.mks 1 1 [.bool false] (.v 15) (.v 15)) K48_17) K48_16
abbrev K48_19:Pl:=.m 4 15 .done
abbrev K48_20:C:=.seq (.pl <| .e 14 2 <|
 .m 14 3 <|
 .c 15 (.call fn_impl_cyclic [.v 14]) K48_19) K48_18
abbrev K48_21:Pl:=.m 3 15 .done
abbrev K48_22:C:=.seq (.pl <| .e 14 2 <|
 .o (.pget (some 14) none 1 0 (some 3)) <|
 .c 15 (.call fn_impl_Automaton_next [.v 14]) K48_21) K48_20
abbrev B_impl_Automaton_live:C:=.seq (.pl <| .e 14 0 <|
 .o (.pnew 1 (.v 0) []) <|
 .x 2 (.mv (.c (.slice none 0 0))) .done) K48_22
def R_impl_Automaton_live:FIR:=⟨B_impl_Automaton_live,14,[(2,none)]⟩
theorem IR_impl_Automaton_live:cfun Tryz.prog H_impl_Automaton_live Tryz.f48=some R_impl_Automaton_live:=by kernel_rfl
theorem EN_impl_Automaton_live:ENT Tryz.prog B_impl_Automaton_live [(2,none)] 1 14 fn_impl_Automaton_live:=fun hargs hw=>enter Tryz.func48 rfl IR_impl_Automaton_live hargs hw
def H_impl_Automaton_next:Hint:=⟨[(0,false),(1,true),(2,false),(3,false),(5,true),(11,false),(12,false),(13,false)],[[0,1,2,4]]⟩
abbrev K87_1:C:=.seq (.pl <| .e 8 1 <|
 .m 8 3 <|
 .m 2 8 .done) (.ret)
abbrev K87_2:C:=.pl <| .e 8 1 <|
 .x 8 (.bin .add (.v 7) (.c (.int .i64 1))) <|
 .m 7 8 .done
abbrev K87_3:Pl:=.x 20 (.ia 1 (.v 8) (.v 10)) <|
 .o (.ex none (.store 1 (.v 20) (.v 19))) .done
abbrev K87_4:C:=.pl <| .e 8 13 <|
 .m 8 3 <|
 .a 9 4 <|
 .g 10 9 4 0 <|
 .m 11 3 <|
 .a 12 4 <|
 .g 13 12 4 0 <|
 .x 14 (.ia 1 (.v 11) (.v 13)) <|
 .l 15 14 <|
 .a 16 4 <|
 .g 17 16 4 3 <|
 .o (.psl 18 [.int .i64 0] [(0,1,.v 17)]) <|
 .c 19 (.app 8 1 [.int .i64 0] (.o (.v 15)) (.p 1 18)) K87_3
abbrev K87_5:C:=.seq (.block 1 (.seq (.pl <| .e 8 2 <|
 .x 8 (.ia 4 (.v 5) (.v 7)) <|
 .o (.ld (some 9) (.v 8) (some 4)) <|
 .o (.pnew 4 (.c (.agg #[.int .i64 0,.int .i64 0,.int .i64 0,.int .i64 0])) []) <|
 .o (.pset none 4 0 4 (.v 9)) .done) K87_4)) K87_2
abbrev K87_6:C:=.seq (.cond 8 (.v 8) (.skip) (.exit 0)) K87_5
abbrev K87_7:C:=.seq (.pl <| .e 8 1 <|
 .x 8 (.bin .lss (.v 7) (.v 6)) .done) K87_6
abbrev K87_8:C:=.block 0 (.loop 8 [0,1,2,4] K87_7)
abbrev K87_9:C:=.seq (.seq (.pl <| .e 8 1 <|
 .a 8 1 <|
 .g 5 8 1 2 <|
 .x 6 (.lenV (.v 5)) <|
 .x 7 (.mv (.c (.int .i64 0))) .done) K87_8) K87_1
abbrev K87_10:Pl:=.m 3 11 .done
abbrev K87_11:C:=.seq (.pl <| .e 8 4 <|
 .a 8 1 <|
 .g 9 8 1 1 <|
 .x 10 (.lenV (.v 9)) <|
 .c 11 (.mks 24 1 [.slice none 0 0] (.v 10) (.v 10)) K87_10) K87_9
abbrev B_impl_Automaton_next:C:=.seq (.pl <| .e 8 0 <|
 .o (.pnew 1 (.v 0) []) <|
 .x 2 (.mv (.c (.slice none 0 0))) .done) K87_11
def R_impl_Automaton_next:FIR:=⟨B_impl_Automaton_next,8,[(2,none)]⟩
theorem IR_impl_Automaton_next:cfun Tryz.prog H_impl_Automaton_next Tryz.f87=some R_impl_Automaton_next:=by kernel_rfl
theorem EN_impl_Automaton_next:ENT Tryz.prog B_impl_Automaton_next [(2,none)] 1 8 fn_impl_Automaton_next:=fun hargs hw=>enter Tryz.func87 rfl IR_impl_Automaton_next hargs hw
def H_impl_BasicFormulas:Hint:=⟨[(0,false),(1,true),(2,false),(3,false),(4,true),(5,false),(6,false)],[]⟩
abbrev K36_1:C:=.seq (.pl <| .e 7 1 <|
 .m 7 6 <|
 .m 2 7 <|
 .x 3 (.mv (.c (.bool true))) .done) (.ret)
abbrev K36_2:C:=.seq (.pl <| .e 7 0 <|
 .x 2 (.mv (.c (.slice none 0 0))) <|
 .x 3 (.mv (.c (.bool false))) .done) (.ret)
abbrev K36_3:C:=.cond 7 (.v 9) K36_2 (.skip)
abbrev K36_4:C:=.seq (.seq (.pl <| .e 7 3 <|
 .m 7 6 <|
 .x 8 (.lenV (.v 7)) <|
 .x 9 (.bin .gtr (.v 8) (.c (.int .i64 5))) .done) K36_3) K36_1
abbrev K36_5:Pl:=.m 6 8 .done
abbrev K36_6:C:=.seq (.pl <| .e 7 2 <|
 .o (.pget (some 7) none 4 0 (some 3)) <|
 .c 8 (.call fn_impl_basics [.v 7]) K36_5) K36_4
abbrev K36_7:C:=.seq (.pl <| .e 7 0 <|
 .x 2 (.mv (.c (.slice none 0 0))) <|
 .x 3 (.mv (.c (.bool false))) .done) (.ret)
abbrev K36_8:C:=.cond 7 (.v 8) K36_7 (.skip)
abbrev K36_9:C:=.seq (.seq (.pl <| .e 7 2 <|
 .m 7 5 <|
 .x 8 (.un .not (.v 7)) .done) K36_8) K36_6
abbrev K36_10:Pl:=.m 9 8 <|
 .x 10 (.extract 0 (.v 9)) <|
 .x 11 (.extract 1 (.v 9)) <|
 .o (.pnew 4 (.c (.agg #[.int .i64 0,.int .i64 0,.slice none 0 0])) []) <|
 .o (.pset none 4 0 3 (.v 10)) <|
 .m 5 11 .done
abbrev K36_11:C:=.seq (.pl <| .e 7 5 <|
 .o (.pget (some 7) none 1 0 (some 3)) <|
 .c 8 (.call fn_impl_NormalForm [.v 7]) K36_10) K36_9
abbrev B_impl_BasicFormulas:C:=.seq (.pl <| .e 7 0 <|
 .o (.pnew 1 (.v 0) []) <|
 .x 2 (.mv (.c (.slice none 0 0))) <|
 .x 3 (.mv (.c (.bool false))) .done) K36_11
def R_impl_BasicFormulas:FIR:=⟨B_impl_BasicFormulas,7,[(2,none),(3,none)]⟩
theorem IR_impl_BasicFormulas:cfun Tryz.prog H_impl_BasicFormulas Tryz.f36=some R_impl_BasicFormulas:=by kernel_rfl
theorem EN_impl_BasicFormulas:ENT Tryz.prog B_impl_BasicFormulas [(2,none),(3,none)] 1 7 fn_impl_BasicFormulas:=fun hargs hw=>enter Tryz.func36 rfl IR_impl_BasicFormulas hargs hw
def H_impl_FormulaNodes:Hint:=⟨[(0,false),(1,true),(2,false),(3,false)],[]⟩
abbrev K66_1:C:=.seq (.pl <| .e 4 1 <|
 .l 4 3 <|
 .m 2 4 .done) (.ret)
abbrev K66_2:C:=.seq (.pl <| .e 4 0 <|
 .x 2 (.mv (.c (.int .i64 0))) .done) (.ret)
abbrev K66_3:C:=.cond 4 (.v 6) K66_2 (.skip)
abbrev K66_4:Pl:=.x 6 (.un .not (.v 5)) .done
abbrev K66_5:C:=.seq (.seq (.pl <| .e 4 3 <|
 .o (.pget (some 4) none 1 0 (some 3)) <|
 .c 5 (.call fn_impl_Formula_walk [.v 4,.c (.int .i64 1),.v 3]) K66_4) K66_3) K66_1
abbrev K66_6:Pl:=.o (.ex none (.store 1 (.v 3) (.c (.int .i64 0)))) .done
abbrev K66_7:C:=.seq (.pl <| .e 4 0 <|
 .c 3 (.alloc (.c (.int .i64 0))) K66_6) K66_5
abbrev B_impl_FormulaNodes:C:=.seq (.pl <| .e 4 0 <|
 .o (.pnew 1 (.v 0) []) <|
 .x 2 (.mv (.c (.int .i64 0))) .done) K66_7
def R_impl_FormulaNodes:FIR:=⟨B_impl_FormulaNodes,4,[(2,none)]⟩
theorem IR_impl_FormulaNodes:cfun Tryz.prog H_impl_FormulaNodes Tryz.f66=some R_impl_FormulaNodes:=by kernel_rfl
theorem EN_impl_FormulaNodes:ENT Tryz.prog B_impl_FormulaNodes [(2,none)] 1 4 fn_impl_FormulaNodes:=fun hargs hw=>enter Tryz.func66 rfl IR_impl_FormulaNodes hargs hw
def H_impl_FormulaSame:Hint:=⟨[(0,false),(1,false),(2,true),(3,true),(4,false)],[]⟩
abbrev K120_1:Pl:=.x 23 (.pick (.v 17) (.v 22) (.c (.bool false))) <|
 .m 4 23 .done
abbrev K120_2:C:=.seq (.pl <| .e 5 19 <|
 .a 5 2 <|
 .g 6 5 2 0 <|
 .a 7 3 <|
 .g 8 7 3 0 <|
 .x 9 (.bin .eql (.v 6) (.v 8)) <|
 .m 10 9 <|
 .y 10 (.als 11 none 2) <|
 .y 10 (.pget (some 12) (some 11) 2 1 none) <|
 .y 10 (.als 13 none 3) <|
 .y 10 (.pget (some 14) (some 13) 3 1 none) <|
 .y 10 (.px (some 15) (.bin .eql (.v 12) (.v 14))) <|
 .x 16 (.pick (.v 10) (.v 15) (.c (.bool false))) <|
 .m 17 16 <|
 .y 17 (.als 18 none 2) <|
 .y 17 (.pget (some 19) (some 18) 2 2 none) <|
 .y 17 (.als 20 none 3) <|
 .y 17 (.pget (some 21) (some 20) 3 2 none) <|
 .st (.act (some (.v 17,true)) (.ex (some 22) (.call fn_slices_EqualFunc_S_impl_Formula_S_impl_Formula_impl_Formula_impl_Formula [.v 19,.v 21,.c (.func (.func 120) #[] #[])]))) K120_1) (.ret)
abbrev B_impl_FormulaSame:C:=.seq (.pl <| .e 5 0 <|
 .o (.pnew 2 (.v 0) []) <|
 .o (.pnew 3 (.v 1) []) <|
 .x 4 (.mv (.c (.bool false))) .done) K120_2
def R_impl_FormulaSame:FIR:=⟨B_impl_FormulaSame,5,[(4,none)]⟩
theorem IR_impl_FormulaSame:cfun Tryz.prog H_impl_FormulaSame Tryz.f120=some R_impl_FormulaSame:=by kernel_rfl
theorem EN_impl_FormulaSame:ENT Tryz.prog B_impl_FormulaSame [(4,none)] 2 5 fn_impl_FormulaSame:=fun hargs hw=>enter Tryz.func120 rfl IR_impl_FormulaSame hargs hw
def H_impl_FormulaValid:Hint:=⟨[(0,false),(1,true),(2,false)],[]⟩
abbrev K33_1:Pl:=.x 5 (.bin .gtr (.v 4) (.c (.int .i64 0))) <|
 .m 2 5 .done
abbrev K33_2:C:=.seq (.pl <| .e 3 3 <|
 .o (.pget (some 3) none 1 0 (some 3)) <|
 .c 4 (.call fn_impl_FormulaNodes [.v 3]) K33_1) (.ret)
abbrev B_impl_FormulaValid:C:=.seq (.pl <| .e 3 0 <|
 .o (.pnew 1 (.v 0) []) <|
 .x 2 (.mv (.c (.bool false))) .done) K33_2
def R_impl_FormulaValid:FIR:=⟨B_impl_FormulaValid,3,[(2,none)]⟩
theorem IR_impl_FormulaValid:cfun Tryz.prog H_impl_FormulaValid Tryz.f33=some R_impl_FormulaValid:=by kernel_rfl
theorem EN_impl_FormulaValid:ENT Tryz.prog B_impl_FormulaValid [(2,none)] 1 3 fn_impl_FormulaValid:=fun hargs hw=>enter Tryz.func33 rfl IR_impl_FormulaValid hargs hw
def H_impl_Formula_copyOf:Hint:=⟨[(0,false),(1,true),(2,true),(3,true),(4,false),(5,true),(15,false),(16,false),(17,false)],[[0,1,4,5]]⟩
abbrev K74_1:C:=.seq (.pl <| .e 9 1 <|
 .o (.pget (some 9) none 3 0 (some 3)) <|
 .o (.pset none 2 0 3 (.v 9)) .done) (.ret)
abbrev K74_2:C:=.pl <| .e 9 1 <|
 .x 9 (.bin .add (.v 8) (.c (.int .i64 1))) <|
 .m 8 9 .done
abbrev K74_3:Pl:=.x 14 (.ia 3 (.v 10) (.v 11)) <|
 .o (.ex none (.store 3 (.v 14) (.v 13))) .done
abbrev K74_4:C:=.pl <| .e 9 6 <|
 .a 9 3 <|
 .g 10 9 3 2 <|
 .m 11 4 <|
 .o (.pget (some 12) none 5 0 (some 3)) <|
 .c 13 (.call fn_impl_Formula_copyOf [.v 12]) K74_3
abbrev K74_5:C:=.seq (.block 1 (.seq (.pl <| .e 9 3 <|
 .m 9 8 <|
 .x 10 (.ia 3 (.v 6) (.v 8)) <|
 .o (.ld (some 11) (.v 10) (some 3)) <|
 .o (.pnew 5 (.c (.agg #[.int .i64 0,.int .i64 0,.slice none 0 0])) []) <|
 .m 4 9 <|
 .o (.pset none 5 0 3 (.v 11)) .done) K74_4)) K74_2
abbrev K74_6:C:=.seq (.cond 9 (.v 9) (.skip) (.exit 0)) K74_5
abbrev K74_7:C:=.seq (.pl <| .e 9 1 <|
 .x 9 (.bin .lss (.v 8) (.v 7)) .done) K74_6
abbrev K74_8:C:=.block 0 (.loop 9 [0,1,4,5] K74_7)
abbrev K74_9:C:=.seq (.seq (.pl <| .e 9 1 <|
 .a 9 1 <|
 .g 6 9 1 2 <|
 .x 7 (.lenV (.v 6)) <|
 .x 8 (.mv (.c (.int .i64 0))) .done) K74_8) K74_1
abbrev K74_10:Pl:=.x 16 (.build [.int .i64 0,.int .i64 0,.slice none 0 0] [(0,1,.v 10),(1,1,.v 12),(2,1,.v 15)]) <|
 .o (.pset none 3 0 3 (.v 16)) .done
abbrev K74_11:C:=.seq (.pl <| .e 9 8 <|
 .a 9 1 <|
 .g 10 9 1 0 <|
 .a 11 1 <|
 .g 12 11 1 1 <|
 .a 13 1 <|
 .g 14 13 1 2 <|
 .o (.pnew 3 (.c (.agg #[.int .i64 0,.int .i64 0,.slice none 0 0])) []) <|
 .c 15 (.call fn_impl_clone_impl_Formula [.v 14]) K74_10) K74_9
abbrev B_impl_Formula_copyOf:C:=.seq (.pl <| .e 9 0 <|
 .o (.pnew 1 (.v 0) []) <|
 .o (.pnew 2 (.c (.agg #[.int .i64 0,.int .i64 0,.slice none 0 0])) []) .done) K74_11
def R_impl_Formula_copyOf:FIR:=⟨B_impl_Formula_copyOf,9,[(2,some (some 3))]⟩
theorem IR_impl_Formula_copyOf:cfun Tryz.prog H_impl_Formula_copyOf Tryz.f74=some R_impl_Formula_copyOf:=by kernel_rfl
theorem EN_impl_Formula_copyOf:ENT Tryz.prog B_impl_Formula_copyOf [(2,some (some 3))] 1 9 fn_impl_Formula_copyOf:=fun hargs hw=>enter Tryz.func74 rfl IR_impl_Formula_copyOf hargs hw
def H_impl_Formula_negation:Hint:=⟨[(0,false),(1,true),(2,true)],[]⟩
abbrev K35_1:Pl:=.o (.pset none 2 0 3 (.v 6)) .done
abbrev K35_2:Pl:=.c 6 (.call fn_impl_formula [.c (.int .i64 3),.v 5]) K35_1
abbrev K35_3:Pl:=.c 5 (.bls 3 1 [.int .i64 0,.int .i64 0,.slice none 0 0] [(0,3,.v 4)]) K35_2
abbrev K35_4:C:=.seq (.pl <| .e 3 4 <|
 .o (.pget (some 3) none 1 0 (some 3)) <|
 .c 4 (.call fn_impl_Formula_copyOf [.v 3]) K35_3) (.ret)
abbrev K35_5:Pl:=.o (.pset none 2 0 3 (.v 7)) .done
abbrev K35_6:C:=.seq (.pl <| .e 3 5 <|
 .a 3 1 <|
 .g 4 3 1 2 <|
 .x 5 (.ia 3 (.v 4) (.c (.int .i64 0))) <|
 .o (.ld (some 6) (.v 5) (some 3)) <|
 .c 7 (.call fn_impl_Formula_copyOf [.v 6]) K35_5) (.ret)
abbrev K35_7:C:=.cond 3 (.v 5) K35_6 (.skip)
abbrev K35_8:C:=.seq (.seq (.pl <| .e 3 3 <|
 .a 3 1 <|
 .g 4 3 1 0 <|
 .x 5 (.bin .eql (.v 4) (.c (.int .i64 3))) .done) K35_7) K35_4
abbrev B_impl_Formula_negation:C:=.seq (.pl <| .e 3 0 <|
 .o (.pnew 1 (.v 0) []) <|
 .o (.pnew 2 (.c (.agg #[.int .i64 0,.int .i64 0,.slice none 0 0])) []) .done) K35_8
def R_impl_Formula_negation:FIR:=⟨B_impl_Formula_negation,3,[(2,some (some 3))]⟩
theorem IR_impl_Formula_negation:cfun Tryz.prog H_impl_Formula_negation Tryz.f35=some R_impl_Formula_negation:=by kernel_rfl
theorem EN_impl_Formula_negation:ENT Tryz.prog B_impl_Formula_negation [(2,some (some 3))] 1 3 fn_impl_Formula_negation:=fun hargs hw=>enter Tryz.func35 rfl IR_impl_Formula_negation hargs hw
def H_impl_Formula_normal:Hint:=⟨[(0,false),(1,false),(2,false),(3,false),(4,true),(5,true),(6,false),(7,false),(8,true),(15,false),(71,false)],[]⟩
abbrev K78_1:C:=.seq (.pl <| .e 11 1 <|
 .o (.pget (some 11) none 8 0 (some 3)) <|
 .o (.pset none 4 0 3 (.v 11)) .done) (.ret)
abbrev K78_2:Pl:=.o (.pset none 4 0 3 (.v 13)) .done
abbrev K78_3:Pl:=.c 13 (.call fn_impl_formula [.c (.int .i64 3),.v 12]) K78_2
abbrev K78_4:C:=.seq (.pl <| .e 11 3 <|
 .o (.pget (some 11) none 8 0 (some 3)) <|
 .c 12 (.bls 3 1 [.int .i64 0,.int .i64 0,.slice none 0 0] [(0,3,.v 11)]) K78_3) (.ret)
abbrev K78_5:C:=.cond 11 (.v 11) K78_4 (.skip)
abbrev K78_6:C:=.seq (.seq (.pl <| .e 11 1 <|
 .l 11 3 .done) K78_5) K78_1
abbrev K78_7:C:=.seq (.pl <| .e 11 5 <|
 .x 11 (.fa 0 (.v 2)) <|
 .l 12 11 <|
 .x 13 (.fa 1 (.v 2)) <|
 .l 14 13 <|
 .x 15 (.build [.int .i64 0,.int .i64 0,.slice none 0 0] [(0,1,.v 12),(1,1,.v 14)]) <|
 .o (.pnew 8 (.c (.agg #[.int .i64 0,.int .i64 0,.slice none 0 0])) []) <|
 .o (.pset none 8 0 3 (.v 15)) .done) K78_6
abbrev K78_8:Pl:=.o (.pset none 4 0 3 (.v 17)) .done
abbrev K78_9:C:=.seq (.pl <| .e 11 7 <|
 .x 11 (.fa 2 (.v 2)) <|
 .l 12 11 <|
 .x 13 (.ia 3 (.v 12) (.c (.int .i64 0))) <|
 .o (.ld (some 14) (.v 13) (some 3)) <|
 .l 15 3 <|
 .x 16 (.un .not (.v 15)) <|
 .c 17 (.call fn_impl_Formula_normal [.v 14,.v 16]) K78_8) (.ret)
abbrev K78_10:Pl:=.o (.pset none 4 0 3 (.v 18)) .done
abbrev K78_11:Pl:=.c 18 (.call fn_impl_formula [.v 12,.v 17]) K78_10
abbrev K78_12:Pl:=.c 17 (.bls 3 2 [.int .i64 0,.int .i64 0,.slice none 0 0] [(0,3,.v 14),(3,3,.v 16)]) K78_11
abbrev K78_13:Pl:=.m 15 6 <|
 .c 16 (.callv (.v 15) [.c (.int .i64 1)]) K78_12
abbrev K78_14:Pl:=.m 13 6 <|
 .c 14 (.callv (.v 13) [.c (.int .i64 0)]) K78_13
abbrev K78_15:C:=.seq (.pl <| .e 11 8 <|
 .m 11 7 <|
 .c 12 (.callv (.v 11) [.c (.int .i64 4),.c (.int .i64 5)]) K78_14) (.ret)
abbrev K78_16:Pl:=.o (.pset none 4 0 3 (.v 18)) .done
abbrev K78_17:Pl:=.c 18 (.call fn_impl_formula [.v 12,.v 17]) K78_16
abbrev K78_18:Pl:=.c 17 (.bls 3 2 [.int .i64 0,.int .i64 0,.slice none 0 0] [(0,3,.v 14),(3,3,.v 16)]) K78_17
abbrev K78_19:Pl:=.m 15 6 <|
 .c 16 (.callv (.v 15) [.c (.int .i64 1)]) K78_18
abbrev K78_20:Pl:=.m 13 6 <|
 .c 14 (.callv (.v 13) [.c (.int .i64 0)]) K78_19
abbrev K78_21:C:=.seq (.pl <| .e 11 8 <|
 .m 11 7 <|
 .c 12 (.callv (.v 11) [.c (.int .i64 5),.c (.int .i64 4)]) K78_20) (.ret)
abbrev K78_22:Pl:=.o (.pset none 4 0 3 (.v 14)) .done
abbrev K78_23:Pl:=.c 14 (.call fn_impl_formula [.c (.int .i64 6),.v 13]) K78_22
abbrev K78_24:Pl:=.c 13 (.bls 3 1 [.int .i64 0,.int .i64 0,.slice none 0 0] [(0,3,.v 12)]) K78_23
abbrev K78_25:C:=.seq (.pl <| .e 11 4 <|
 .m 11 6 <|
 .c 12 (.callv (.v 11) [.c (.int .i64 0)]) K78_24) (.ret)
abbrev K78_26:Pl:=.o (.pset none 4 0 3 (.v 18)) .done
abbrev K78_27:Pl:=.c 18 (.call fn_impl_formula [.v 12,.v 17]) K78_26
abbrev K78_28:Pl:=.c 17 (.bls 3 2 [.int .i64 0,.int .i64 0,.slice none 0 0] [(0,3,.v 14),(3,3,.v 16)]) K78_27
abbrev K78_29:Pl:=.m 15 6 <|
 .c 16 (.callv (.v 15) [.c (.int .i64 1)]) K78_28
abbrev K78_30:Pl:=.m 13 6 <|
 .c 14 (.callv (.v 13) [.c (.int .i64 0)]) K78_29
abbrev K78_31:C:=.seq (.pl <| .e 11 8 <|
 .m 11 7 <|
 .c 12 (.callv (.v 11) [.c (.int .i64 7),.c (.int .i64 8)]) K78_30) (.ret)
abbrev K78_32:Pl:=.o (.pset none 4 0 3 (.v 18)) .done
abbrev K78_33:Pl:=.c 18 (.call fn_impl_formula [.v 12,.v 17]) K78_32
abbrev K78_34:Pl:=.c 17 (.bls 3 2 [.int .i64 0,.int .i64 0,.slice none 0 0] [(0,3,.v 14),(3,3,.v 16)]) K78_33
abbrev K78_35:Pl:=.m 15 6 <|
 .c 16 (.callv (.v 15) [.c (.int .i64 1)]) K78_34
abbrev K78_36:Pl:=.m 13 6 <|
 .c 14 (.callv (.v 13) [.c (.int .i64 0)]) K78_35
abbrev K78_37:C:=.seq (.pl <| .e 11 8 <|
 .m 11 7 <|
 .c 12 (.callv (.v 11) [.c (.int .i64 8),.c (.int .i64 7)]) K78_36) (.ret)
abbrev K78_38:Pl:=.o (.pset none 4 0 3 (.v 15)) .done
abbrev K78_39:Pl:=.c 15 (.call fn_impl_formula [.c (.int .i64 8),.v 14]) K78_38
abbrev K78_40:Pl:=.c 14 (.bls 3 2 [.int .i64 0,.int .i64 0,.slice none 0 0] [(0,3,.v 11),(3,3,.v 13)]) K78_39
abbrev K78_41:C:=.seq (.pl <| .e 11 5 <|
 .o (.pget (some 11) none 5 0 (some 3)) <|
 .m 12 6 <|
 .c 13 (.callv (.v 12) [.c (.int .i64 0)]) K78_40) (.ret)
abbrev K78_42:Pl:=.o (.pset none 4 0 3 (.v 15)) .done
abbrev K78_43:Pl:=.c 15 (.call fn_impl_formula [.c (.int .i64 7),.v 14]) K78_42
abbrev K78_44:Pl:=.c 14 (.bls 3 2 [.int .i64 0,.int .i64 0,.slice none 0 0] [(0,3,.v 11),(3,3,.v 13)]) K78_43
abbrev K78_45:Pl:=.m 12 6 <|
 .c 13 (.callv (.v 12) [.c (.int .i64 0)]) K78_44
abbrev K78_46:C:=.seq (.pl <| .e 11 5 <|
 .c 11 (.call fn_impl_formula [.c (.int .i64 1),.c (.slice none 0 0)]) K78_45) (.ret)
abbrev K78_47:C:=.cond 11 (.v 15) K78_46 (.skip)
abbrev K78_48:C:=.seq (.seq (.pl <| .e 11 5 <|
 .x 11 (.fa 0 (.v 2)) <|
 .l 12 11 <|
 .x 13 (.bin .eql (.v 12) (.c (.int .i64 9))) <|
 .l 14 3 <|
 .x 15 (.eqb true (.v 13) (.v 14)) .done) K78_47) K78_41
abbrev K78_49:C:=.cond 11 (.v 10) K78_48 (.skip)
abbrev K78_50:C:=.pl <| .e 11 1 <|
 .x 11 (.bin .eql (.v 9) (.c (.int .i64 10))) <|
 .m 10 11 .done
abbrev K78_51:C:=.cond 11 (.v 10) (.skip) K78_50
abbrev K78_52:C:=.seq (.seq (.pl <| .e 11 1 <|
 .x 11 (.bin .eql (.v 9) (.c (.int .i64 9))) <|
 .m 10 11 .done) K78_51) K78_49
abbrev K78_53:C:=.cond 11 (.v 12) K78_37 K78_52
abbrev K78_54:C:=.seq (.pl <| .e 11 2 <|
 .x 11 (.bin .eql (.v 9) (.c (.int .i64 8))) <|
 .m 12 11 .done) K78_53
abbrev K78_55:C:=.cond 11 (.v 12) K78_31 K78_54
abbrev K78_56:C:=.seq (.pl <| .e 11 2 <|
 .x 11 (.bin .eql (.v 9) (.c (.int .i64 7))) <|
 .m 12 11 .done) K78_55
abbrev K78_57:C:=.cond 11 (.v 12) K78_25 K78_56
abbrev K78_58:C:=.seq (.pl <| .e 11 2 <|
 .x 11 (.bin .eql (.v 9) (.c (.int .i64 6))) <|
 .m 12 11 .done) K78_57
abbrev K78_59:C:=.cond 11 (.v 12) K78_21 K78_58
abbrev K78_60:C:=.seq (.pl <| .e 11 2 <|
 .x 11 (.bin .eql (.v 9) (.c (.int .i64 5))) <|
 .m 12 11 .done) K78_59
abbrev K78_61:C:=.cond 11 (.v 12) K78_15 K78_60
abbrev K78_62:C:=.seq (.pl <| .e 11 2 <|
 .x 11 (.bin .eql (.v 9) (.c (.int .i64 4))) <|
 .m 12 11 .done) K78_61
abbrev K78_63:C:=.cond 11 (.v 12) K78_9 K78_62
abbrev K78_64:C:=.block 0 (.seq (.pl <| .e 11 2 <|
 .x 11 (.bin .eql (.v 9) (.c (.int .i64 3))) <|
 .m 12 11 .done) K78_63)
abbrev K78_65:C:=.seq (.seq (.pl <| .e 11 1 <|
 .x 11 (.fa 0 (.v 2)) <|
 .l 9 11 .done) K78_64) K78_7
abbrev K78_66:C:=.seq (.pl <| .e 11 1 <|
 .x 11 (.mkf (.func fn_impl_Formula_normal_2) [] [.v 3]) <|
 .m 7 11 .done) K78_65
abbrev K78_67:C:=.seq (.pl <| .e 11 1 <|
 .x 11 (.mkf (.func fn_impl_Formula_normal_1) [] [.v 2,.v 3]) <|
 .m 6 11 .done) K78_66
abbrev K78_68:Pl:=.o (.pnew 5 (.c (.agg #[.int .i64 0,.int .i64 0,.slice none 0 0])) []) <|
 .o (.pset none 5 0 3 (.v 13)) .done
abbrev K78_69:Pl:=.c 13 (.call fn_impl_formula [.c (.int .i64 3),.v 12]) K78_68
abbrev K78_70:Pl:=.c 12 (.bls 3 1 [.int .i64 0,.int .i64 0,.slice none 0 0] [(0,3,.v 11)]) K78_69
abbrev K78_71:C:=.seq (.pl <| .e 11 3 <|
 .c 11 (.call fn_impl_formula [.c (.int .i64 1),.c (.slice none 0 0)]) K78_70) K78_67
abbrev K78_72:Pl:=.o (.pnew 4 (.c (.agg #[.int .i64 0,.int .i64 0,.slice none 0 0])) []) .done
abbrev K78_73:Pl:=.c 3 (.alloc (.v 1)) K78_72
abbrev B_impl_Formula_normal:C:=.seq (.pl <| .e 11 0 <|
 .c 2 (.alloc (.v 0)) K78_73) K78_71
def R_impl_Formula_normal:FIR:=⟨B_impl_Formula_normal,11,[(4,some (some 3))]⟩
theorem IR_impl_Formula_normal:cfun Tryz.prog H_impl_Formula_normal Tryz.f78=some R_impl_Formula_normal:=by kernel_rfl
theorem EN_impl_Formula_normal:ENT Tryz.prog B_impl_Formula_normal [(4,some (some 3))] 2 11 fn_impl_Formula_normal:=fun hargs hw=>enter Tryz.func78 rfl IR_impl_Formula_normal hargs hw
def H_impl_Formula_normalForm:Hint:=⟨[(0,false),(1,true),(2,true),(3,false),(4,true)],[]⟩
abbrev K37_1:C:=.seq (.pl <| .e 5 1 <|
 .o (.pget (some 5) none 4 0 (some 3)) <|
 .o (.pset none 2 0 3 (.v 5)) <|
 .x 3 (.mv (.c (.bool true))) .done) (.ret)
abbrev K37_2:C:=.seq (.pl <| .e 5 1 <|
 .x 5 (.build [.int .i64 0,.int .i64 0,.slice none 0 0] []) <|
 .o (.pset none 2 0 3 (.v 5)) <|
 .x 3 (.mv (.c (.bool false))) .done) (.ret)
abbrev K37_3:C:=.cond 5 (.v 7) K37_2 (.skip)
abbrev K37_4:Pl:=.x 7 (.un .not (.v 6)) .done
abbrev K37_5:C:=.seq (.seq (.pl <| .e 5 3 <|
 .o (.pget (some 5) none 4 0 (some 3)) <|
 .c 6 (.call fn_impl_FormulaValid [.v 5]) K37_4) K37_3) K37_1
abbrev K37_6:Pl:=.o (.pnew 4 (.c (.agg #[.int .i64 0,.int .i64 0,.slice none 0 0])) []) <|
 .o (.pset none 4 0 3 (.v 6)) .done
abbrev K37_7:C:=.seq (.pl <| .e 5 2 <|
 .o (.pget (some 5) none 1 0 (some 3)) <|
 .c 6 (.call fn_impl_Formula_normal [.v 5,.c (.bool false)]) K37_6) K37_5
abbrev B_impl_Formula_normalForm:C:=.seq (.pl <| .e 5 0 <|
 .o (.pnew 1 (.v 0) []) <|
 .o (.pnew 2 (.c (.agg #[.int .i64 0,.int .i64 0,.slice none 0 0])) []) <|
 .x 3 (.mv (.c (.bool false))) .done) K37_7
def R_impl_Formula_normalForm:FIR:=⟨B_impl_Formula_normalForm,5,[(2,some (some 3)),(3,none)]⟩
theorem IR_impl_Formula_normalForm:cfun Tryz.prog H_impl_Formula_normalForm Tryz.f37=some R_impl_Formula_normalForm:=by kernel_rfl
theorem EN_impl_Formula_normalForm:ENT Tryz.prog B_impl_Formula_normalForm [(2,some (some 3)),(3,none)] 1 5 fn_impl_Formula_normalForm:=fun hargs hw=>enter Tryz.func37 rfl IR_impl_Formula_normalForm hargs hw
def H_impl_Formula_normal_1:Hint:=⟨[(0,false),(1,false),(2,false),(4,true)],[]⟩
abbrev K116_1:Pl:=.o (.pset none 3 0 3 (.v 10)) .done
abbrev K116_2:C:=.seq (.pl <| .e 4 7 <|
 .x 4 (.fa 2 (.v 1)) <|
 .l 5 4 <|
 .m 6 0 <|
 .x 7 (.ia 3 (.v 5) (.v 6)) <|
 .o (.ld (some 8) (.v 7) (some 3)) <|
 .l 9 2 <|
 .c 10 (.call fn_impl_Formula_normal [.v 8,.v 9]) K116_1) (.ret)
abbrev B_impl_Formula_normal_1:C:=.seq (.pl <| .e 4 0 <|
 .o (.pnew 3 (.c (.agg #[.int .i64 0,.int .i64 0,.slice none 0 0])) []) .done) K116_2
def R_impl_Formula_normal_1:FIR:=⟨B_impl_Formula_normal_1,4,[(3,some (some 3))]⟩
theorem IR_impl_Formula_normal_1:cfun Tryz.prog H_impl_Formula_normal_1 Tryz.f116=some R_impl_Formula_normal_1:=by kernel_rfl
theorem EN_impl_Formula_normal_1:ENT Tryz.prog B_impl_Formula_normal_1 [(3,some (some 3))] 3 4 fn_impl_Formula_normal_1:=fun hargs hw=>enter Tryz.func116 rfl IR_impl_Formula_normal_1 hargs hw
def H_impl_Formula_normal_2:Hint:=⟨[(0,false),(1,false),(2,false),(5,false)],[]⟩
abbrev K117_1:C:=.seq (.pl <| .e 4 1 <|
 .m 4 0 <|
 .m 3 4 .done) (.ret)
abbrev K117_2:C:=.seq (.pl <| .e 4 1 <|
 .m 4 1 <|
 .m 3 4 .done) (.ret)
abbrev K117_3:C:=.cond 4 (.v 4) K117_2 (.skip)
abbrev K117_4:C:=.seq (.seq (.pl <| .e 4 1 <|
 .l 4 2 .done) K117_3) K117_1
abbrev B_impl_Formula_normal_2:C:=.seq (.pl <| .e 4 0 <|
 .x 3 (.mv (.c (.int .i64 0))) .done) K117_4
def R_impl_Formula_normal_2:FIR:=⟨B_impl_Formula_normal_2,4,[(3,none)]⟩
theorem IR_impl_Formula_normal_2:cfun Tryz.prog H_impl_Formula_normal_2 Tryz.f117=some R_impl_Formula_normal_2:=by kernel_rfl
theorem EN_impl_Formula_normal_2:ENT Tryz.prog B_impl_Formula_normal_2 [(3,none)] 3 4 fn_impl_Formula_normal_2:=fun hargs hw=>enter Tryz.func117 rfl IR_impl_Formula_normal_2 hargs hw
def H_impl_Formula_subformulas:Hint:=⟨[(0,false),(1,true),(2,false),(3,false),(4,false)],[]⟩
abbrev K114_1:Pl:=.m 2 6 .done
abbrev K114_2:C:=.seq (.pl <| .e 5 2 <|
 .l 5 3 <|
 .c 6 (.call fn_slices_Clip_S_impl_Formula_impl_Formula [.v 5]) K114_1) (.ret)
abbrev K114_3:C:=.seq (.pl <| .e 5 3 <|
 .l 5 4 <|
 .o (.pget (some 6) none 1 0 (some 3)) <|
 .c 7 (.callv (.v 5) [.v 6]) .done) K114_2
abbrev K114_4:C:=.seq (.pl <| .e 5 1 <|
 .x 5 (.mkf (.func fn_impl_Formula_subformulas_1) [] [.v 4,.v 3]) <|
 .o (.ex none (.store 1 (.v 4) (.v 5))) .done) K114_3
abbrev K114_5:C:=.seq (.pl <| .e 5 0 <|
 .c 4 (.alloc (.c (.nilFunc))) .done) K114_4
abbrev K114_6:C:=.seq (.pl <| .e 5 0 <|
 .c 3 (.alloc (.c (.slice none 0 0))) .done) K114_5
abbrev B_impl_Formula_subformulas:C:=.seq (.pl <| .e 5 0 <|
 .o (.pnew 1 (.v 0) []) <|
 .x 2 (.mv (.c (.slice none 0 0))) .done) K114_6
def R_impl_Formula_subformulas:FIR:=⟨B_impl_Formula_subformulas,5,[(2,none)]⟩
theorem IR_impl_Formula_subformulas:cfun Tryz.prog H_impl_Formula_subformulas Tryz.f114=some R_impl_Formula_subformulas:=by kernel_rfl
theorem EN_impl_Formula_subformulas:ENT Tryz.prog B_impl_Formula_subformulas [(2,none)] 1 5 fn_impl_Formula_subformulas:=fun hargs hw=>enter Tryz.func114 rfl IR_impl_Formula_subformulas hargs hw
def H_impl_Formula_subformulas_1:Hint:=⟨[(0,false),(1,false),(2,false),(3,true),(5,true),(7,false),(8,false),(9,false)],[[0,4]]⟩
abbrev K155_1:Pl:=.o (.ex none (.store 1 (.v 2) (.v 13))) .done
abbrev K155_2:Pl:=.o (.ex none (.store 3 (.v 14) (.v 10))) K155_1
abbrev K155_3:Pl:=.o (.ex none (.store 3 (.v 14) (.v 10))) .done
abbrev K155_4:Pl:=.o (.ex none (.store 1 (.v 2) (.v 13))) K155_3
abbrev K155_5:Pl:=.x 14 (.ia 3 (.v 13) (.v 11)) <|
 .both K155_2 K155_4
abbrev K155_6:Pl:=.st (.re 8 (.v 2) none none) <|
 .c 13 (.app 40 3 [.int .i64 0,.int .i64 0,.slice none 0 0] (.o (.v 8)) (.p 1 12)) K155_5
abbrev K155_7:C:=.pl <| .e 8 7 <|
 .l 8 2 <|
 .o (.pget (some 9) none 3 0 (some 3)) <|
 .x 11 (.lenV (.v 8)) <|
 .o (.psl 12 [.int .i64 0,.int .i64 0,.slice none 0 0] [(0,3,.c (.agg #[.int .i64 0,.int .i64 0,.slice none 0 0]))]) <|
 .c 10 (.call fn_impl_Formula_copyOf [.v 9]) K155_6
abbrev K155_8:C:=.cond 8 (.v 11) K155_7 (.skip)
abbrev K155_9:Pl:=.x 11 (.bin .lss (.v 10) (.c (.int .i64 0))) .done
abbrev K155_10:C:=.seq (.pl <| .e 8 4 <|
 .l 8 2 <|
 .o (.pget (some 9) none 3 0 (some 3)) <|
 .c 10 (.call fn_impl_formulaAt [.v 8,.v 9]) K155_9) K155_8
abbrev K155_11:C:=.pl <| .e 8 1 <|
 .x 8 (.bin .add (.v 7) (.c (.int .i64 1))) <|
 .m 7 8 .done
abbrev K155_12:C:=.pl <| .e 8 3 <|
 .l 8 1 <|
 .o (.pget (some 9) none 4 0 (some 3)) <|
 .c 10 (.callv (.v 8) [.v 9]) .done
abbrev K155_13:C:=.seq (.block 1 (.seq (.pl <| .e 8 2 <|
 .x 8 (.ia 3 (.v 5) (.v 7)) <|
 .o (.ld (some 9) (.v 8) (some 3)) <|
 .o (.pnew 4 (.c (.agg #[.int .i64 0,.int .i64 0,.slice none 0 0])) []) <|
 .o (.pset none 4 0 3 (.v 9)) .done) K155_12)) K155_11
abbrev K155_14:C:=.seq (.cond 8 (.v 8) (.skip) (.exit 0)) K155_13
abbrev K155_15:C:=.seq (.pl <| .e 8 1 <|
 .x 8 (.bin .lss (.v 7) (.v 6)) .done) K155_14
abbrev K155_16:C:=.block 0 (.loop 8 [0,4] K155_15)
abbrev K155_17:C:=.seq (.seq (.pl <| .e 8 1 <|
 .a 8 3 <|
 .g 5 8 3 2 <|
 .x 6 (.lenV (.v 5)) <|
 .x 7 (.mv (.c (.int .i64 0))) .done) K155_16) K155_10
abbrev B_impl_Formula_subformulas_1:C:=.seq (.pl <| .e 8 0 <|
 .o (.pnew 3 (.v 0) []) .done) K155_17
def R_impl_Formula_subformulas_1:FIR:=⟨B_impl_Formula_subformulas_1,8,[]⟩
theorem IR_impl_Formula_subformulas_1:cfun Tryz.prog H_impl_Formula_subformulas_1 Tryz.f155=some R_impl_Formula_subformulas_1:=by kernel_rfl
theorem EN_impl_Formula_subformulas_1:ENT Tryz.prog B_impl_Formula_subformulas_1 [] 3 8 fn_impl_Formula_subformulas_1:=fun hargs hw=>enter Tryz.func155 rfl IR_impl_Formula_subformulas_1 hargs hw
def H_impl_Formula_walk:Hint:=⟨[(0,false),(1,false),(2,false),(3,true),(4,false),(5,false),(6,false),(7,false)],[]⟩
abbrev K112_1:Pl:=.x 12 (.un .not (.v 11)) <|
 .m 6 12 .done
abbrev K112_2:C:=.seq (.pl <| .e 8 5 <|
 .a 8 3 <|
 .g 9 8 3 2 <|
 .x 10 (.mkf (.func fn_impl_Formula_walk_1) [] [.v 4,.v 5]) <|
 .c 11 (.call fn_slices_ContainsFunc_S_impl_Formula_impl_Formula [.v 9,.v 10]) K112_1) (.ret)
abbrev K112_3:C:=.seq (.pl <| .e 8 0 <|
 .x 6 (.mv (.c (.bool false))) .done) (.ret)
abbrev K112_4:C:=.cond 8 (.v 37) K112_3 (.skip)
abbrev K112_5:Pl:=.n 29 (.px (some 36) (.bin .neq (.v 32) (.v 35))) <|
 .x 37 (.pick (.v 29) (.c (.bool true)) (.v 36)) .done
abbrev K112_6:Pl:=.n 22 (.px (some 27) (.un .not (.v 26))) <|
 .x 28 (.pick (.v 22) (.c (.bool true)) (.v 27)) <|
 .m 29 28 <|
 .n 29 (.als 30 none 3) <|
 .n 29 (.pget (some 31) (some 30) 3 2 none) <|
 .n 29 (.px (some 32) (.lenV (.v 31))) <|
 .n 29 (.als 33 none 3) <|
 .n 29 (.pget (some 34) (some 33) 3 0 none) <|
 .st (.act (some (.v 29,false)) (.ex (some 35) (.call fn_impl_operands [.v 34]))) K112_5
abbrev K112_7:Pl:=.n 16 (.px (some 20) (.un .not (.v 19))) <|
 .x 21 (.pick (.v 16) (.c (.bool true)) (.v 20)) <|
 .m 22 21 <|
 .n 22 (.als 23 none 3) <|
 .n 22 (.pget (some 24) (some 23) 3 1 none) <|
 .n 22 (.px (some 25) (.mv (.v 7))) <|
 .st (.act (some (.v 22,false)) (.ex (some 26) (.call fn_impl_in [.v 24,.c (.int .i64 0),.v 25]))) K112_6
abbrev K112_8:C:=.seq (.seq (.pl <| .e 8 30 <|
 .l 8 4 <|
 .x 9 (.bin .gtr (.v 8) (.c (.int .i64 6))) <|
 .m 10 9 <|
 .n 10 (.ld (some 11) (.v 5) none) <|
 .n 10 (.px (some 12) (.nilc (.v 11))) <|
 .n 10 (.ld (some 13) (.v 12) none) <|
 .n 10 (.px (some 14) (.bin .gtr (.v 13) (.c (.int .i64 12)))) <|
 .x 15 (.pick (.v 10) (.c (.bool true)) (.v 14)) <|
 .m 16 15 <|
 .n 16 (.als 17 none 3) <|
 .n 16 (.pget (some 18) (some 17) 3 0 none) <|
 .st (.act (some (.v 16,false)) (.ex (some 19) (.call fn_impl_in [.v 18,.c (.int .i64 1),.c (.int .i64 10)]))) K112_7) K112_4) K112_2
abbrev K112_9:C:=.pl <| .e 8 0 <|
 .x 7 (.mv (.c (.int .i64 2))) .done
abbrev K112_10:C:=.cond 8 (.v 10) K112_9 (.skip)
abbrev K112_11:C:=.seq (.seq (.pl <| .e 8 3 <|
 .a 8 3 <|
 .g 9 8 3 0 <|
 .x 10 (.bin .eql (.v 9) (.c (.int .i64 2))) .done) K112_10) K112_8
abbrev K112_12:C:=.seq (.pl <| .e 8 0 <|
 .x 7 (.mv (.c (.int .i64 0))) .done) K112_11
abbrev K112_13:C:=.seq (.pl <| .e 8 5 <|
 .l 8 5 <|
 .x 9 (.nilc (.v 8)) <|
 .l 10 9 <|
 .x 11 (.bin .add (.v 10) (.c (.int .i64 1))) <|
 .x 12 (.nilc (.v 8)) <|
 .o (.ex none (.store 1 (.v 12) (.v 11))) .done) K112_12
abbrev K112_14:Pl:=.x 6 (.mv (.c (.bool false))) .done
abbrev K112_15:Pl:=.c 5 (.alloc (.v 2)) K112_14
abbrev B_impl_Formula_walk:C:=.seq (.pl <| .e 8 0 <|
 .o (.pnew 3 (.v 0) []) <|
 .c 4 (.alloc (.v 1)) K112_15) K112_13
def R_impl_Formula_walk:FIR:=⟨B_impl_Formula_walk,8,[(6,none)]⟩
theorem IR_impl_Formula_walk:cfun Tryz.prog H_impl_Formula_walk Tryz.f112=some R_impl_Formula_walk:=by kernel_rfl
theorem EN_impl_Formula_walk:ENT Tryz.prog B_impl_Formula_walk [(6,none)] 3 8 fn_impl_Formula_walk:=fun hargs hw=>enter Tryz.func112 rfl IR_impl_Formula_walk hargs hw
def H_impl_Formula_walk_1:Hint:=⟨[(0,false),(1,false),(2,false),(3,true),(4,false)],[]⟩
abbrev K153_1:Pl:=.x 10 (.un .not (.v 9)) <|
 .m 4 10 .done
abbrev K153_2:C:=.seq (.pl <| .e 5 6 <|
 .o (.pget (some 5) none 3 0 (some 3)) <|
 .l 6 1 <|
 .x 7 (.bin .add (.v 6) (.c (.int .i64 1))) <|
 .l 8 2 <|
 .c 9 (.call fn_impl_Formula_walk [.v 5,.v 7,.v 8]) K153_1) (.ret)
abbrev B_impl_Formula_walk_1:C:=.seq (.pl <| .e 5 0 <|
 .o (.pnew 3 (.v 0) []) <|
 .x 4 (.mv (.c (.bool false))) .done) K153_2
def R_impl_Formula_walk_1:FIR:=⟨B_impl_Formula_walk_1,5,[(4,none)]⟩
theorem IR_impl_Formula_walk_1:cfun Tryz.prog H_impl_Formula_walk_1 Tryz.f153=some R_impl_Formula_walk_1:=by kernel_rfl
theorem EN_impl_Formula_walk_1:ENT Tryz.prog B_impl_Formula_walk_1 [(4,none)] 3 5 fn_impl_Formula_walk_1:=fun hargs hw=>enter Tryz.func153 rfl IR_impl_Formula_walk_1 hargs hw
def H_impl_MonitorFormula:Hint:=⟨[(0,false),(1,false),(2,true),(4,false),(5,false),(6,false)],[]⟩
abbrev K11_1:C:=.seq (.pl <| .e 6 6 <|
 .m 6 4 <|
 .m 7 4 <|
 .x 8 (.lenV (.v 7)) <|
 .x 9 (.bin .sub (.v 8) (.c (.int .i64 1))) <|
 .x 10 (.ia 1 (.v 6) (.v 9)) <|
 .l 11 10 <|
 .m 3 11 .done) (.ret)
abbrev K11_2:C:=.seq (.pl <| .e 6 1 <|
 .m 6 5 <|
 .m 3 6 .done) (.ret)
abbrev K11_3:C:=.cond 6 (.v 7) K11_2 (.skip)
abbrev K11_4:C:=.seq (.seq (.pl <| .e 6 2 <|
 .m 6 5 <|
 .x 7 (.bin .neq (.v 6) (.c (.int .i64 0))) .done) K11_3) K11_1
abbrev K11_5:Pl:=.m 9 8 <|
 .x 10 (.extract 0 (.v 9)) <|
 .x 11 (.extract 1 (.v 9)) <|
 .m 4 10 <|
 .m 5 11 .done
abbrev K11_6:C:=.seq (.pl <| .e 6 6 <|
 .o (.pget (some 6) none 2 0 (some 3)) <|
 .m 7 1 <|
 .c 8 (.call fn_impl_monitorRun [.v 6,.v 7]) K11_5) K11_4
abbrev B_impl_MonitorFormula:C:=.seq (.pl <| .e 6 0 <|
 .o (.pnew 2 (.v 0) []) <|
 .x 3 (.mv (.c (.int .i64 0))) .done) K11_6
def R_impl_MonitorFormula:FIR:=⟨B_impl_MonitorFormula,6,[(3,none)]⟩
theorem IR_impl_MonitorFormula:cfun Tryz.prog H_impl_MonitorFormula Tryz.f11=some R_impl_MonitorFormula:=by kernel_rfl
theorem EN_impl_MonitorFormula:ENT Tryz.prog B_impl_MonitorFormula [(3,none)] 2 6 fn_impl_MonitorFormula:=fun hargs hw=>enter Tryz.func11 rfl IR_impl_MonitorFormula hargs hw
def H_impl_NegateFormula:Hint:=⟨[(0,false),(1,true),(2,true),(3,false)],[]⟩
abbrev K16_1:Pl:=.o (.pset none 2 0 3 (.v 5)) <|
 .x 3 (.mv (.c (.bool true))) .done
abbrev K16_2:C:=.seq (.pl <| .e 4 2 <|
 .o (.pget (some 4) none 1 0 (some 3)) <|
 .c 5 (.call fn_impl_Formula_negation [.v 4]) K16_1) (.ret)
abbrev K16_3:C:=.seq (.pl <| .e 4 1 <|
 .x 4 (.build [.int .i64 0,.int .i64 0,.slice none 0 0] []) <|
 .o (.pset none 2 0 3 (.v 4)) <|
 .x 3 (.mv (.c (.bool false))) .done) (.ret)
abbrev K16_4:C:=.cond 4 (.v 12) K16_3 (.skip)
abbrev K16_5:Pl:=.n 7 (.px (some 11) (.un .not (.v 10))) <|
 .x 12 (.pick (.v 7) (.c (.bool true)) (.v 11)) .done
abbrev K16_6:Pl:=.st (.act (some (.v 7,false)) (.ex (some 10) (.call fn_impl_FormulaValid [.v 9]))) K16_5
abbrev K16_7:Pl:=.x 6 (.un .not (.v 5)) <|
 .m 7 6 <|
 .n 7 (.pget (some 8) none 1 0 (some 3)) <|
 .st (.act (some (.v 7,false)) (.ex (some 9) (.call fn_impl_Formula_negation [.v 8]))) K16_6
abbrev K16_8:C:=.seq (.seq (.pl <| .e 4 9 <|
 .o (.pget (some 4) none 1 0 (some 3)) <|
 .c 5 (.call fn_impl_FormulaValid [.v 4]) K16_7) K16_4) K16_2
abbrev B_impl_NegateFormula:C:=.seq (.pl <| .e 4 0 <|
 .o (.pnew 1 (.v 0) []) <|
 .o (.pnew 2 (.c (.agg #[.int .i64 0,.int .i64 0,.slice none 0 0])) []) <|
 .x 3 (.mv (.c (.bool false))) .done) K16_8
def R_impl_NegateFormula:FIR:=⟨B_impl_NegateFormula,4,[(2,some (some 3)),(3,none)]⟩
theorem IR_impl_NegateFormula:cfun Tryz.prog H_impl_NegateFormula Tryz.f16=some R_impl_NegateFormula:=by kernel_rfl
theorem EN_impl_NegateFormula:ENT Tryz.prog B_impl_NegateFormula [(2,some (some 3)),(3,none)] 1 4 fn_impl_NegateFormula:=fun hargs hw=>enter Tryz.func16 rfl IR_impl_NegateFormula hargs hw
def H_impl_NormalForm:Hint:=⟨[(0,false),(1,true),(2,true),(3,false)],[]⟩
abbrev K76_1:Pl:=.x 6 (.extract 0 (.v 5)) <|
 .x 7 (.extract 1 (.v 5)) <|
 .o (.pset none 2 0 3 (.v 6)) <|
 .m 3 7 .done
abbrev K76_2:C:=.seq (.pl <| .e 4 4 <|
 .o (.pget (some 4) none 1 0 (some 3)) <|
 .c 5 (.call fn_impl_Formula_normalForm [.v 4]) K76_1) (.ret)
abbrev K76_3:C:=.seq (.pl <| .e 4 1 <|
 .x 4 (.build [.int .i64 0,.int .i64 0,.slice none 0 0] []) <|
 .o (.pset none 2 0 3 (.v 4)) <|
 .x 3 (.mv (.c (.bool false))) .done) (.ret)
abbrev K76_4:C:=.cond 4 (.v 6) K76_3 (.skip)
abbrev K76_5:Pl:=.x 6 (.un .not (.v 5)) .done
abbrev K76_6:C:=.seq (.seq (.pl <| .e 4 3 <|
 .o (.pget (some 4) none 1 0 (some 3)) <|
 .c 5 (.call fn_impl_FormulaValid [.v 4]) K76_5) K76_4) K76_2
abbrev B_impl_NormalForm:C:=.seq (.pl <| .e 4 0 <|
 .o (.pnew 1 (.v 0) []) <|
 .o (.pnew 2 (.c (.agg #[.int .i64 0,.int .i64 0,.slice none 0 0])) []) <|
 .x 3 (.mv (.c (.bool false))) .done) K76_6
def R_impl_NormalForm:FIR:=⟨B_impl_NormalForm,4,[(2,some (some 3)),(3,none)]⟩
theorem IR_impl_NormalForm:cfun Tryz.prog H_impl_NormalForm Tryz.f76=some R_impl_NormalForm:=by kernel_rfl
theorem EN_impl_NormalForm:ENT Tryz.prog B_impl_NormalForm [(2,some (some 3)),(3,none)] 1 4 fn_impl_NormalForm:=fun hargs hw=>enter Tryz.func76 rfl IR_impl_NormalForm hargs hw
def H_impl_Transition_takes:Hint:=⟨[(0,false),(1,false),(2,true),(4,false)],[]⟩
abbrev K96_1:C:=.seq (.pl <| .e 4 7 <|
 .m 4 1 <|
 .a 5 2 <|
 .g 6 5 2 1 <|
 .x 7 (.bin .and (.v 4) (.v 6)) <|
 .a 8 2 <|
 .g 9 8 2 2 <|
 .x 10 (.bin .eql (.v 7) (.v 9)) <|
 .m 3 10 .done) (.ret)
abbrev B_impl_Transition_takes:C:=.seq (.pl <| .e 4 0 <|
 .o (.pnew 2 (.v 0) []) <|
 .x 3 (.mv (.c (.bool false))) .done) K96_1
def R_impl_Transition_takes:FIR:=⟨B_impl_Transition_takes,4,[(3,none)]⟩
theorem IR_impl_Transition_takes:cfun Tryz.prog H_impl_Transition_takes Tryz.f96=some R_impl_Transition_takes:=by kernel_rfl
theorem EN_impl_Transition_takes:ENT Tryz.prog B_impl_Transition_takes [(3,none)] 2 4 fn_impl_Transition_takes:=fun hargs hw=>enter Tryz.func96 rfl IR_impl_Transition_takes hargs hw
def H_impl_TranslateFormula:Hint:=⟨[(0,false),(1,true),(2,true),(3,false),(4,false),(5,false),(6,true),(8,false),(9,false),(10,true),(11,false),(12,false),(13,false),(30,false),(31,false),(32,false),(53,false),(54,false)],[[0,1,3,5,8,9,10,11,12,16,17],[0,1,3,4,5,8,9,11,12,13,14,15]]⟩
abbrev K17_1:Pl:=.x 23 (.extract 0 (.v 22)) <|
 .x 24 (.extract 1 (.v 22)) <|
 .o (.pset none 2 0 3 (.v 23)) <|
 .m 3 24 .done
abbrev K17_2:C:=.seq (.pl <| .e 18 7 <|
 .m 18 10 <|
 .m 19 12 <|
 .l 20 7 <|
 .x 21 (.mkf (.func fn_impl_translator_moves) [.v 20] []) <|
 .c 22 (.call fn_impl_explore_impl_phased [.v 18,.v 19,.v 21]) K17_1) (.ret)
abbrev K17_3:C:=.seq (.pl <| .e 18 1 <|
 .x 18 (.mkf (.func fn_impl_TranslateFormula_1) [] [.v 7]) <|
 .m 12 18 .done) K17_2
abbrev K17_4:C:=.pl <| .e 18 1 <|
 .x 18 (.bin .add (.v 17) (.c (.int .i64 1))) <|
 .m 17 18 .done
abbrev K17_5:Pl:=.m 10 22 .done
abbrev K17_6:C:=.pl <| .e 18 5 <|
 .m 18 10 <|
 .m 19 11 <|
 .x 20 (.build [.int .i64 0,.int .i64 0] [(0,1,.v 19),(1,1,.c (.int .i64 0))]) <|
 .o (.psl 21 [.int .i64 0,.int .i64 0] [(0,2,.v 20)]) <|
 .c 22 (.app 16 2 [.int .i64 0,.int .i64 0] (.o (.v 18)) (.p 1 21)) K17_5
abbrev K17_7:C:=.cond 18 (.v 21) K17_6 (.skip)
abbrev K17_8:C:=.seq (.pl <| .e 18 4 <|
 .l 18 7 <|
 .o (.pget (some 19) none 6 0 (some 3)) <|
 .m 20 11 <|
 .c 21 (.call fn_impl_translator_holds [.v 18,.v 19,.v 20]) .done) K17_7
abbrev K17_9:C:=.seq (.block 3 (.seq (.pl <| .e 18 1 <|
 .m 18 17 <|
 .m 11 18 .done) K17_8)) K17_4
abbrev K17_10:C:=.seq (.cond 18 (.v 18) (.skip) (.exit 2)) K17_9
abbrev K17_11:C:=.seq (.pl <| .e 18 1 <|
 .x 18 (.bin .lss (.v 17) (.v 16)) .done) K17_10
abbrev K17_12:C:=.block 2 (.loop 18 [0,1,3,4,5,8,9,11,12,13,14,15] K17_11)
abbrev K17_13:C:=.seq (.seq (.pl <| .e 18 2 <|
 .m 18 4 <|
 .x 19 (.lenV (.v 18)) <|
 .x 16 (.bin .shl (.c (.int .i64 1)) (.v 19)) <|
 .x 17 (.mv (.c (.int .i64 0))) .done) K17_12) K17_3
abbrev K17_14:C:=.seq (.pl <| .e 18 0 <|
 .x 10 (.mv (.c (.slice none 0 0))) .done) K17_13
abbrev K17_15:C:=.pl <| .e 18 1 <|
 .x 18 (.bin .add (.v 15) (.c (.int .i64 1))) <|
 .m 15 18 .done
abbrev K17_16:Pl:=.st (.re 18 (.v 7) none none) <|
 .x 26 (.nilc (.v 18)) <|
 .x 27 (.fa 1 (.v 26)) <|
 .o (.ex none (.store 1 (.v 27) (.v 25))) .done
abbrev K17_17:C:=.pl <| .e 18 10 <|
 .l 18 7 <|
 .l 19 7 <|
 .x 20 (.nilc (.v 19)) <|
 .x 21 (.fa 1 (.v 20)) <|
 .l 22 21 <|
 .m 23 8 <|
 .o (.psl 24 [.int .i64 0] [(0,1,.v 23)]) <|
 .c 25 (.app 8 1 [.int .i64 0] (.o (.v 22)) (.p 1 24)) K17_16
abbrev K17_18:C:=.cond 18 (.v 20) K17_17 (.skip)
abbrev K17_19:C:=.seq (.pl <| .e 18 3 <|
 .a 18 9 <|
 .g 19 18 9 0 <|
 .x 20 (.bin .eql (.v 19) (.c (.int .i64 7))) .done) K17_18
abbrev K17_20:C:=.seq (.block 1 (.seq (.pl <| .e 18 3 <|
 .m 18 15 <|
 .x 19 (.ia 3 (.v 13) (.v 15)) <|
 .o (.ld (some 20) (.v 19) (some 3)) <|
 .o (.pnew 9 (.c (.agg #[.int .i64 0,.int .i64 0,.slice none 0 0])) []) <|
 .m 8 18 <|
 .o (.pset none 9 0 3 (.v 20)) .done) K17_19)) K17_15
abbrev K17_21:C:=.seq (.cond 18 (.v 18) (.skip) (.exit 0)) K17_20
abbrev K17_22:C:=.seq (.pl <| .e 18 1 <|
 .x 18 (.bin .lss (.v 15) (.v 14)) .done) K17_21
abbrev K17_23:C:=.block 0 (.loop 18 [0,1,3,5,8,9,10,11,12,16,17] K17_22)
abbrev K17_24:C:=.seq (.seq (.pl <| .e 18 0 <|
 .m 13 4 <|
 .x 14 (.lenV (.v 13)) <|
 .x 15 (.mv (.c (.int .i64 0))) .done) K17_23) K17_14
abbrev K17_25:Pl:=.o (.ex none (.store 1 (.v 7) (.v 20))) .done
abbrev K17_26:Pl:=.c 7 (.alloc (.c (.pointer none))) K17_25
abbrev K17_27:C:=.seq (.pl <| .e 18 3 <|
 .m 18 4 <|
 .x 19 (.build [.slice none 0 0,.slice none 0 0] [(0,1,.v 18)]) <|
 .c 20 (.alloc (.v 19)) K17_26) K17_24
abbrev K17_28:Pl:=.m 20 19 <|
 .x 21 (.extract 0 (.v 20)) <|
 .x 22 (.extract 1 (.v 20)) <|
 .o (.pnew 6 (.c (.agg #[.int .i64 0,.int .i64 0,.slice none 0 0])) []) <|
 .o (.pset none 6 0 3 (.v 21)) <|
 .m 23 22 .done
abbrev K17_29:C:=.seq (.pl <| .e 18 6 <|
 .o (.pget (some 18) none 1 0 (some 3)) <|
 .c 19 (.call fn_impl_Formula_normalForm [.v 18]) K17_28) K17_27
abbrev K17_30:C:=.seq (.pl <| .e 18 1 <|
 .x 18 (.build [.slice none 0 0,.slice none 0 0,.slice none 0 0] []) <|
 .o (.pset none 2 0 3 (.v 18)) <|
 .x 3 (.mv (.c (.bool false))) .done) (.ret)
abbrev K17_31:C:=.cond 18 (.v 19) K17_30 (.skip)
abbrev K17_32:C:=.seq (.seq (.pl <| .e 18 2 <|
 .m 18 5 <|
 .x 19 (.un .not (.v 18)) .done) K17_31) K17_29
abbrev K17_33:Pl:=.m 20 19 <|
 .x 21 (.extract 0 (.v 20)) <|
 .x 22 (.extract 1 (.v 20)) <|
 .m 4 21 <|
 .m 5 22 .done
abbrev K17_34:C:=.seq (.pl <| .e 18 5 <|
 .o (.pget (some 18) none 1 0 (some 3)) <|
 .c 19 (.call fn_impl_BasicFormulas [.v 18]) K17_33) K17_32
abbrev B_impl_TranslateFormula:C:=.seq (.pl <| .e 18 0 <|
 .o (.pnew 1 (.v 0) []) <|
 .o (.pnew 2 (.c (.agg #[.slice none 0 0,.slice none 0 0,.slice none 0 0])) []) <|
 .x 3 (.mv (.c (.bool false))) .done) K17_34
def R_impl_TranslateFormula:FIR:=⟨B_impl_TranslateFormula,18,[(2,some (some 3)),(3,none)]⟩
theorem IR_impl_TranslateFormula:cfun Tryz.prog H_impl_TranslateFormula Tryz.f17=some R_impl_TranslateFormula:=by kernel_rfl
theorem EN_impl_TranslateFormula:ENT Tryz.prog B_impl_TranslateFormula [(2,some (some 3)),(3,none)] 1 18 fn_impl_TranslateFormula:=fun hargs hw=>enter Tryz.func17 rfl IR_impl_TranslateFormula hargs hw
def H_impl_TranslateFormula_1:Hint:=⟨[(0,false),(1,false),(2,true),(3,false)],[]⟩
abbrev K39_1:Pl:=.n 10 (.px (some 19) (.pick (.v 14) (.v 18) (.c (.bool false)))) <|
 .x 20 (.pick (.v 10) (.c (.bool true)) (.v 19)) <|
 .m 3 20 .done
abbrev K39_2:C:=.seq (.pl <| .e 4 17 <|
 .l 4 1 <|
 .x 5 (.nilc (.v 4)) <|
 .x 6 (.fa 1 (.v 5)) <|
 .l 7 6 <|
 .x 8 (.lenV (.v 7)) <|
 .x 9 (.bin .eql (.v 8) (.c (.int .i64 0))) <|
 .m 10 9 <|
 .n 10 (.als 11 none 2) <|
 .n 10 (.pget (some 12) (some 11) 2 1 none) <|
 .n 10 (.px (some 13) (.bin .eql (.v 12) (.c (.int .i64 0)))) <|
 .n 10 (.px (some 14) (.mv (.v 13))) <|
 .y 14 (.ld (some 15) (.v 1) none) <|
 .y 14 (.als 16 none 2) <|
 .y 14 (.pget (some 17) (some 16) 2 0 none) <|
 .st (.act (some (.v 14,true)) (.ex (some 18) (.call fn_impl_translator_fulfils [.v 15,.v 17,.c (.int .i64 0)]))) K39_1) (.ret)
abbrev B_impl_TranslateFormula_1:C:=.seq (.pl <| .e 4 0 <|
 .o (.pnew 2 (.v 0) []) <|
 .x 3 (.mv (.c (.bool false))) .done) K39_2
def R_impl_TranslateFormula_1:FIR:=⟨B_impl_TranslateFormula_1,4,[(3,none)]⟩
theorem IR_impl_TranslateFormula_1:cfun Tryz.prog H_impl_TranslateFormula_1 Tryz.f39=some R_impl_TranslateFormula_1:=by kernel_rfl
theorem EN_impl_TranslateFormula_1:ENT Tryz.prog B_impl_TranslateFormula_1 [(3,none)] 2 4 fn_impl_TranslateFormula_1:=fun hargs hw=>enter Tryz.func39 rfl IR_impl_TranslateFormula_1 hargs hw
def H_spec_l5Push:Hint:=⟨[(0,false),(1,false),(2,true),(4,true),(5,true),(6,false),(8,false),(9,false),(43,false)],[]⟩
abbrev K137_1:Pl:=.x 23 (.build [.int .i64 0,.int .i64 0,.slice none 0 0] [(0,1,.v 9),(2,1,.v 22)]) <|
 .o (.pset none 3 0 3 (.v 23)) .done
abbrev K137_2:Pl:=.c 22 (.bls 3 2 [.int .i64 0,.int .i64 0,.slice none 0 0] [(0,3,.v 15),(3,3,.v 21)]) K137_1
abbrev K137_3:Pl:=.st (.re 19 (.v 18) (some 3) none) <|
 .c 21 (.call fn_spec_l5Push [.v 19,.v 20]) K137_2
abbrev K137_4:C:=.seq (.pl <| .e 9 15 <|
 .m 9 5 <|
 .a 10 2 <|
 .g 11 10 2 2 <|
 .x 12 (.ia 3 (.v 11) (.c (.int .i64 0))) <|
 .o (.ld (some 13) (.v 12) (some 3)) <|
 .m 14 1 <|
 .a 16 2 <|
 .g 17 16 2 2 <|
 .x 18 (.ia 3 (.v 17) (.c (.int .i64 1))) <|
 .o (.ld (some 19) (.v 18) (some 3)) <|
 .m 20 1 <|
 .c 15 (.call fn_spec_l5Push [.v 13,.v 14]) K137_3) (.ret)
abbrev K137_5:Pl:=.m 5 10 .done
abbrev K137_6:C:=.pl <| .e 9 2 <|
 .m 9 5 <|
 .c 10 (.call fn_spec_l5Dual [.v 9]) K137_5
abbrev K137_7:C:=.cond 9 (.v 9) K137_6 (.skip)
abbrev K137_8:C:=.seq (.seq (.pl <| .e 9 1 <|
 .m 9 1 .done) K137_7) K137_4
abbrev K137_9:C:=.seq (.pl <| .e 9 2 <|
 .a 9 2 <|
 .g 10 9 2 0 <|
 .m 5 10 .done) K137_8
abbrev K137_10:C:=.seq (.pl <| .e 9 5 <|
 .a 9 2 <|
 .g 10 9 2 0 <|
 .a 11 2 <|
 .g 12 11 2 1 <|
 .x 13 (.build [.int .i64 0,.int .i64 0,.slice none 0 0] [(0,1,.v 10),(1,1,.v 12)]) <|
 .o (.pset none 3 0 3 (.v 13)) .done) (.ret)
abbrev K137_11:Pl:=.o (.pset none 3 0 3 (.v 14)) .done
abbrev K137_12:C:=.seq (.pl <| .e 9 6 <|
 .a 9 2 <|
 .g 10 9 2 0 <|
 .a 11 2 <|
 .g 12 11 2 1 <|
 .x 13 (.build [.int .i64 0,.int .i64 0,.slice none 0 0] [(0,1,.v 10),(1,1,.v 12)]) <|
 .c 14 (.call fn_spec_l5Not [.v 13]) K137_11) (.ret)
abbrev K137_13:C:=.cond 9 (.v 9) K137_12 (.skip)
abbrev K137_14:C:=.seq (.seq (.pl <| .e 9 1 <|
 .m 9 1 .done) K137_13) K137_10
abbrev K137_15:Pl:=.o (.pset none 3 0 3 (.v 15)) .done
abbrev K137_16:C:=.seq (.pl <| .e 9 7 <|
 .a 9 2 <|
 .g 10 9 2 2 <|
 .x 11 (.ia 3 (.v 10) (.c (.int .i64 0))) <|
 .o (.ld (some 12) (.v 11) (some 3)) <|
 .m 13 1 <|
 .x 14 (.un .not (.v 13)) <|
 .c 15 (.call fn_spec_l5Push [.v 12,.v 14]) K137_15) (.ret)
abbrev K137_17:Pl:=.x 16 (.build [.int .i64 0,.int .i64 0,.slice none 0 0] [(0,1,.c (.int .i64 6)),(2,1,.v 15)]) <|
 .o (.pset none 3 0 3 (.v 16)) .done
abbrev K137_18:Pl:=.c 15 (.bls 3 1 [.int .i64 0,.int .i64 0,.slice none 0 0] [(0,3,.v 14)]) K137_17
abbrev K137_19:C:=.seq (.pl <| .e 9 8 <|
 .a 9 2 <|
 .g 10 9 2 2 <|
 .x 11 (.ia 3 (.v 10) (.c (.int .i64 0))) <|
 .o (.ld (some 12) (.v 11) (some 3)) <|
 .m 13 1 <|
 .c 14 (.call fn_spec_l5Push [.v 12,.v 13]) K137_18) (.ret)
abbrev K137_20:Pl:=.x 13 (.build [.int .i64 0,.int .i64 0,.slice none 0 0] [(0,1,.c (.int .i64 8)),(2,1,.v 12)]) <|
 .o (.pset none 3 0 3 (.v 13)) .done
abbrev K137_21:Pl:=.c 12 (.bls 3 2 [.int .i64 0,.int .i64 0,.slice none 0 0] [(0,3,.v 10),(3,3,.v 11)]) K137_20
abbrev K137_22:Pl:=.c 10 (.call fn_spec_l5Not [.v 9]) K137_21
abbrev K137_23:C:=.seq (.pl <| .e 9 5 <|
 .o (.pget (some 11) none 4 0 (some 3)) <|
 .c 9 (.call fn_spec_l5True []) K137_22) (.ret)
abbrev K137_24:Pl:=.x 12 (.build [.int .i64 0,.int .i64 0,.slice none 0 0] [(0,1,.c (.int .i64 7)),(2,1,.v 11)]) <|
 .o (.pset none 3 0 3 (.v 12)) .done
abbrev K137_25:Pl:=.c 11 (.bls 3 2 [.int .i64 0,.int .i64 0,.slice none 0 0] [(0,3,.v 9),(3,3,.v 10)]) K137_24
abbrev K137_26:C:=.seq (.pl <| .e 9 4 <|
 .o (.pget (some 10) none 4 0 (some 3)) <|
 .c 9 (.call fn_spec_l5True []) K137_25) (.ret)
abbrev K137_27:C:=.cond 9 (.v 13) K137_26 (.skip)
abbrev K137_28:C:=.seq (.seq (.pl <| .e 9 5 <|
 .a 9 2 <|
 .g 10 9 2 0 <|
 .x 11 (.bin .eql (.v 10) (.c (.int .i64 9))) <|
 .m 12 1 <|
 .x 13 (.eqb true (.v 11) (.v 12)) .done) K137_27) K137_23
abbrev K137_29:Pl:=.o (.pnew 4 (.c (.agg #[.int .i64 0,.int .i64 0,.slice none 0 0])) []) <|
 .o (.pset none 4 0 3 (.v 14)) .done
abbrev K137_30:C:=.seq (.pl <| .e 9 6 <|
 .a 9 2 <|
 .g 10 9 2 2 <|
 .x 11 (.ia 3 (.v 10) (.c (.int .i64 0))) <|
 .o (.ld (some 12) (.v 11) (some 3)) <|
 .m 13 1 <|
 .c 14 (.call fn_spec_l5Push [.v 12,.v 13]) K137_29) K137_28
abbrev K137_31:C:=.cond 9 (.v 8) K137_30 (.skip)
abbrev K137_32:C:=.pl <| .e 9 1 <|
 .x 9 (.bin .eql (.v 6) (.c (.int .i64 10))) <|
 .m 8 9 .done
abbrev K137_33:C:=.cond 9 (.v 8) (.skip) K137_32
abbrev K137_34:C:=.seq (.seq (.pl <| .e 9 1 <|
 .x 9 (.bin .eql (.v 6) (.c (.int .i64 9))) <|
 .m 8 9 .done) K137_33) K137_31
abbrev K137_35:C:=.cond 9 (.v 10) K137_19 K137_34
abbrev K137_36:C:=.seq (.pl <| .e 9 2 <|
 .x 9 (.bin .eql (.v 6) (.c (.int .i64 6))) <|
 .m 10 9 .done) K137_35
abbrev K137_37:C:=.cond 9 (.v 10) K137_16 K137_36
abbrev K137_38:C:=.seq (.pl <| .e 9 2 <|
 .x 9 (.bin .eql (.v 6) (.c (.int .i64 3))) <|
 .m 10 9 .done) K137_37
abbrev K137_39:C:=.cond 9 (.v 7) K137_14 K137_38
abbrev K137_40:C:=.pl <| .e 9 1 <|
 .x 9 (.bin .eql (.v 6) (.c (.int .i64 2))) <|
 .m 7 9 .done
abbrev K137_41:C:=.cond 9 (.v 7) (.skip) K137_40
abbrev K137_42:C:=.block 0 (.seq (.seq (.pl <| .e 9 1 <|
 .x 9 (.bin .eql (.v 6) (.c (.int .i64 1))) <|
 .m 7 9 .done) K137_41) K137_39)
abbrev K137_43:C:=.seq (.seq (.pl <| .e 9 1 <|
 .a 9 2 <|
 .g 6 9 2 0 .done) K137_42) K137_9
abbrev B_spec_l5Push:C:=.seq (.pl <| .e 9 0 <|
 .o (.pnew 2 (.v 0) []) <|
 .o (.pnew 3 (.c (.agg #[.int .i64 0,.int .i64 0,.slice none 0 0])) []) .done) K137_43
def R_spec_l5Push:FIR:=⟨B_spec_l5Push,9,[(3,some (some 3))]⟩
theorem IR_spec_l5Push:cfun Tryz.prog H_spec_l5Push Tryz.f137=some R_spec_l5Push:=by kernel_rfl
theorem EN_spec_l5Push:ENT Tryz.prog B_spec_l5Push [(3,some (some 3))] 2 9 fn_spec_l5Push:=fun hargs hw=>enter Tryz.func137 rfl IR_spec_l5Push hargs hw
def H_spec_l5Random:Hint:=⟨[(0,false),(1,false),(4,true),(5,true),(6,false)],[[]]⟩
abbrev K62_1:C:=.seq (.pl <| .e 5 1 <|
 .o (.pget (some 5) none 3 0 (some 3)) <|
 .o (.pset none 2 0 3 (.v 5)) .done) (.ret)
abbrev K62_2:C:=.pl <| .e 5 2 <|
 .m 5 4 <|
 .x 6 (.bin .sub (.v 5) (.c (.int .i64 1))) <|
 .m 4 6 .done
abbrev K62_3:Pl:=.a 13 3 <|
 .o (.pset (some 13) 3 2 1 (.v 12)) .done
abbrev K62_4:Pl:=.o (.psl 11 [.int .i64 0,.int .i64 0,.slice none 0 0] [(0,3,.v 10)]) <|
 .c 12 (.app 40 3 [.int .i64 0,.int .i64 0,.slice none 0 0] (.o (.v 6)) (.p 1 11)) K62_3
abbrev K62_5:C:=.seq (.block 1 (.pl <| .e 5 9 <|
 .a 5 3 <|
 .g 6 5 3 2 <|
 .m 7 0 <|
 .m 8 1 <|
 .x 9 (.bin .sub (.v 8) (.c (.int .i64 1))) <|
 .c 10 (.call fn_spec_l5Random [.v 7,.v 9]) K62_4)) K62_2
abbrev K62_6:C:=.cond 5 (.v 6) (.skip) (.exit 0)
abbrev K62_7:C:=.seq (.seq (.pl <| .e 5 2 <|
 .m 5 4 <|
 .x 6 (.bin .gtr (.v 5) (.c (.int .i64 0))) .done) K62_6) K62_5
abbrev K62_8:C:=.block 0 (.loop 5 [] K62_7)
abbrev K62_9:Pl:=.m 4 7 .done
abbrev K62_10:C:=.seq (.seq (.pl <| .e 5 3 <|
 .a 5 3 <|
 .g 6 5 3 0 <|
 .c 7 (.call fn_spec_l5Arity [.v 6]) K62_9) K62_8) K62_1
abbrev K62_11:Pl:=.x 8 (.build [.int .i64 0,.int .i64 0,.slice none 0 0] [(0,1,.v 7)]) <|
 .o (.pnew 3 (.c (.agg #[.int .i64 0,.int .i64 0,.slice none 0 0])) []) <|
 .o (.pset none 3 0 3 (.v 8)) .done
abbrev K62_12:Pl:=.c 7 (.call fn_spec_l16Rd_num [.v 5,.v 6]) K62_11
abbrev K62_13:C:=.seq (.pl <| .e 5 4 <|
 .m 5 0 <|
 .c 6 (.bls 1 8 [.int .i64 0] [(0,1,.c (.int .i64 7)),(1,1,.c (.int .i64 9)),(2,1,.c (.int .i64 10)),(3,1,.c (.int .i64 3)),(4,1,.c (.int .i64 4)),(5,1,.c (.int .i64 5)),(6,1,.c (.int .i64 6)),(7,1,.c (.int .i64 8))]) K62_12) K62_10
abbrev K62_14:Pl:=.x 8 (.build [.int .i64 0,.int .i64 0,.slice none 0 0] [(0,1,.c (.int .i64 2)),(1,1,.v 7)]) <|
 .o (.pset none 2 0 3 (.v 8)) .done
abbrev K62_15:Pl:=.c 7 (.call fn_spec_l16Rd_num [.v 5,.v 6]) K62_14
abbrev K62_16:C:=.seq (.pl <| .e 5 4 <|
 .m 5 0 <|
 .c 6 (.bls 1 4 [.int .i64 0] [(0,1,.c (.int .i64 0)),(1,1,.c (.int .i64 1)),(2,1,.c (.int .i64 0)),(3,1,.c (.int .i64 2))]) K62_15) (.ret)
abbrev K62_17:Pl:=.o (.pset none 2 0 3 (.v 5)) .done
abbrev K62_18:C:=.seq (.pl <| .e 5 1 <|
 .c 5 (.call fn_spec_l5True []) K62_17) (.ret)
abbrev K62_19:C:=.cond 5 (.v 7) K62_18 (.skip)
abbrev K62_20:Pl:=.x 7 (.bin .eql (.v 6) (.c (.int .i64 0))) .done
abbrev K62_21:C:=.seq (.seq (.pl <| .e 5 3 <|
 .m 5 0 <|
 .c 6 (.call fn_spec_l16Rd_pick [.v 5,.c (.int .i64 8)]) K62_20) K62_19) K62_16
abbrev K62_22:C:=.cond 5 (.v 11) K62_21 (.skip)
abbrev K62_23:Pl:=.n 7 (.px (some 10) (.bin .eql (.v 9) (.c (.int .i64 0)))) <|
 .x 11 (.pick (.v 7) (.c (.bool true)) (.v 10)) .done
abbrev K62_24:C:=.seq (.seq (.pl <| .e 5 7 <|
 .m 5 1 <|
 .x 6 (.bin .lss (.v 5) (.c (.int .i64 2))) <|
 .m 7 6 <|
 .n 7 (.px (some 8) (.mv (.v 0))) <|
 .st (.act (some (.v 7,false)) (.ex (some 9) (.call fn_spec_l16Rd_pick [.v 8,.c (.int .i64 5)]))) K62_23) K62_22) K62_13
abbrev B_spec_l5Random:C:=.seq (.pl <| .e 5 0 <|
 .o (.pnew 2 (.c (.agg #[.int .i64 0,.int .i64 0,.slice none 0 0])) []) .done) K62_24
def R_spec_l5Random:FIR:=⟨B_spec_l5Random,5,[(2,some (some 3))]⟩
theorem IR_spec_l5Random:cfun Tryz.prog H_spec_l5Random Tryz.f62=some R_spec_l5Random:=by kernel_rfl
theorem EN_spec_l5Random:ENT Tryz.prog B_spec_l5Random [(2,some (some 3))] 2 5 fn_spec_l5Random:=fun hargs hw=>enter Tryz.func62 rfl IR_spec_l5Random hargs hw
def H_spec_l5Shape:Hint:=⟨[(0,false),(1,false),(2,true),(4,false),(5,false)],[[0,3]]⟩
abbrev K52_1:C:=.seq (.pl <| .e 5 0 <|
 .x 3 (.mv (.c (.bool true))) .done) (.ret)
abbrev K52_2:C:=.pl <| .e 5 2 <|
 .m 5 4 <|
 .x 6 (.bin .add (.v 5) (.c (.int .i64 1))) <|
 .m 4 6 .done
abbrev K52_3:C:=.seq (.pl <| .e 5 0 <|
 .x 3 (.mv (.c (.bool false))) .done) (.ret)
abbrev K52_4:C:=.cond 5 (.v 13) K52_3 (.skip)
abbrev K52_5:Pl:=.x 13 (.un .not (.v 12)) .done
abbrev K52_6:C:=.seq (.block 1 (.seq (.pl <| .e 5 9 <|
 .a 5 2 <|
 .g 6 5 2 2 <|
 .m 7 4 <|
 .x 8 (.ia 3 (.v 6) (.v 7)) <|
 .o (.ld (some 9) (.v 8) (some 3)) <|
 .m 10 1 <|
 .x 11 (.bin .sub (.v 10) (.c (.int .i64 1))) <|
 .c 12 (.call fn_spec_l5Shape [.v 9,.v 11]) K52_5) K52_4)) K52_2
abbrev K52_7:C:=.cond 5 (.v 9) (.skip) (.exit 0)
abbrev K52_8:C:=.seq (.seq (.pl <| .e 5 5 <|
 .m 5 4 <|
 .a 6 2 <|
 .g 7 6 2 2 <|
 .x 8 (.lenV (.v 7)) <|
 .x 9 (.bin .lss (.v 5) (.v 8)) .done) K52_7) K52_6
abbrev K52_9:C:=.block 0 (.loop 5 [0,3] K52_8)
abbrev K52_10:C:=.seq (.seq (.pl <| .e 5 0 <|
 .x 4 (.mv (.c (.int .i64 0))) .done) K52_9) K52_1
abbrev K52_11:C:=.seq (.pl <| .e 5 0 <|
 .x 3 (.mv (.c (.bool false))) .done) (.ret)
abbrev K52_12:C:=.cond 5 (.v 22) K52_11 (.skip)
abbrev K52_13:C:=.seq (.seq (.pl <| .e 5 18 <|
 .a 5 2 <|
 .g 6 5 2 1 <|
 .x 7 (.bin .lss (.v 6) (.c (.int .i64 0))) <|
 .m 8 7 <|
 .n 8 (.als 9 none 2) <|
 .n 8 (.pget (some 10) (some 9) 2 1 none) <|
 .n 8 (.px (some 11) (.bin .geq (.v 10) (.c (.int .i64 3)))) <|
 .x 12 (.pick (.v 8) (.c (.bool true)) (.v 11)) <|
 .m 13 12 <|
 .n 13 (.als 14 none 2) <|
 .n 13 (.pget (some 15) (some 14) 2 0 none) <|
 .n 13 (.px (some 16) (.bin .neq (.v 15) (.c (.int .i64 2)))) <|
 .n 13 (.px (some 17) (.mv (.v 16))) <|
 .y 17 (.als 18 none 2) <|
 .y 17 (.pget (some 19) (some 18) 2 1 none) <|
 .y 17 (.px (some 20) (.bin .neq (.v 19) (.c (.int .i64 0)))) <|
 .n 13 (.px (some 21) (.pick (.v 17) (.v 20) (.c (.bool false)))) <|
 .x 22 (.pick (.v 13) (.c (.bool true)) (.v 21)) .done) K52_12) K52_10
abbrev K52_14:C:=.seq (.pl <| .e 5 0 <|
 .x 3 (.mv (.c (.bool false))) .done) (.ret)
abbrev K52_15:C:=.cond 5 (.v 15) K52_14 (.skip)
abbrev K52_16:Pl:=.n 7 (.px (some 14) (.bin .neq (.v 10) (.v 13))) <|
 .x 15 (.pick (.v 7) (.c (.bool true)) (.v 14)) .done
abbrev K52_17:C:=.seq (.seq (.pl <| .e 5 11 <|
 .m 5 1 <|
 .x 6 (.bin .lss (.v 5) (.c (.int .i64 1))) <|
 .m 7 6 <|
 .n 7 (.als 8 none 2) <|
 .n 7 (.pget (some 9) (some 8) 2 2 none) <|
 .n 7 (.px (some 10) (.lenV (.v 9))) <|
 .n 7 (.als 11 none 2) <|
 .n 7 (.pget (some 12) (some 11) 2 0 none) <|
 .st (.act (some (.v 7,false)) (.ex (some 13) (.call fn_spec_l5Arity [.v 12]))) K52_16) K52_15) K52_13
abbrev B_spec_l5Shape:C:=.seq (.pl <| .e 5 0 <|
 .o (.pnew 2 (.v 0) []) <|
 .x 3 (.mv (.c (.bool false))) .done) K52_17
def R_spec_l5Shape:FIR:=⟨B_spec_l5Shape,5,[(3,none)]⟩
theorem IR_spec_l5Shape:cfun Tryz.prog H_spec_l5Shape Tryz.f52=some R_spec_l5Shape:=by kernel_rfl
theorem EN_spec_l5Shape:ENT Tryz.prog B_spec_l5Shape [(3,none)] 2 5 fn_spec_l5Shape:=fun hargs hw=>enter Tryz.func52 rfl IR_spec_l5Shape hargs hw
def H_spec_l5Subs:Hint:=⟨[(0,false),(1,false),(3,true),(4,false),(5,false)],[[1,3]]⟩
abbrev K135_1:C:=.seq (.pl <| .e 5 1 <|
 .m 5 0 <|
 .m 3 5 .done) (.ret)
abbrev K135_2:Pl:=.m 0 9 .done
abbrev K135_3:Pl:=.o (.psl 8 [.int .i64 0,.int .i64 0,.slice none 0 0] [(0,3,.v 7)]) <|
 .c 9 (.app 40 3 [.int .i64 0,.int .i64 0,.slice none 0 0] (.o (.v 5)) (.p 1 8)) K135_2
abbrev K135_4:C:=.pl <| .e 5 5 <|
 .m 5 0 <|
 .o (.pget (some 6) none 2 0 (some 3)) <|
 .c 7 (.call fn_spec_l5Copy [.v 6]) K135_3
abbrev K135_5:C:=.cond 5 (.v 8) K135_4 (.skip)
abbrev K135_6:Pl:=.x 8 (.bin .lss (.v 7) (.c (.int .i64 0))) .done
abbrev K135_7:C:=.seq (.seq (.pl <| .e 5 4 <|
 .m 5 0 <|
 .o (.pget (some 6) none 2 0 (some 3)) <|
 .c 7 (.call fn_spec_l5Find [.v 5,.v 6]) K135_6) K135_5) K135_1
abbrev K135_8:C:=.pl <| .e 5 2 <|
 .m 5 4 <|
 .x 6 (.bin .add (.v 5) (.c (.int .i64 1))) <|
 .m 4 6 .done
abbrev K135_9:Pl:=.m 0 11 .done
abbrev K135_10:C:=.seq (.block 1 (.pl <| .e 5 7 <|
 .m 5 0 <|
 .a 6 2 <|
 .g 7 6 2 2 <|
 .m 8 4 <|
 .x 9 (.ia 3 (.v 7) (.v 8)) <|
 .o (.ld (some 10) (.v 9) (some 3)) <|
 .c 11 (.call fn_spec_l5Subs [.v 5,.v 10]) K135_9)) K135_8
abbrev K135_11:C:=.cond 5 (.v 9) (.skip) (.exit 0)
abbrev K135_12:C:=.seq (.seq (.pl <| .e 5 5 <|
 .m 5 4 <|
 .a 6 2 <|
 .g 7 6 2 2 <|
 .x 8 (.lenV (.v 7)) <|
 .x 9 (.bin .lss (.v 5) (.v 8)) .done) K135_11) K135_10
abbrev K135_13:C:=.block 0 (.loop 5 [1,3] K135_12)
abbrev K135_14:C:=.seq (.seq (.pl <| .e 5 0 <|
 .x 4 (.mv (.c (.int .i64 0))) .done) K135_13) K135_7
abbrev B_spec_l5Subs:C:=.seq (.pl <| .e 5 0 <|
 .o (.pnew 2 (.v 1) []) <|
 .x 3 (.mv (.c (.slice none 0 0))) .done) K135_14
def R_spec_l5Subs:FIR:=⟨B_spec_l5Subs,5,[(3,none)]⟩
theorem IR_spec_l5Subs:cfun Tryz.prog H_spec_l5Subs Tryz.f135=some R_spec_l5Subs:=by kernel_rfl
theorem EN_spec_l5Subs:ENT Tryz.prog B_spec_l5Subs [(3,none)] 2 5 fn_spec_l5Subs:=fun hargs hw=>enter Tryz.func135 rfl IR_spec_l5Subs hargs hw
def H_spec_l5True:Hint:=⟨[(0,true)],[]⟩
abbrev K61_1:C:=.seq (.pl <| .e 1 1 <|
 .x 1 (.build [.int .i64 0,.int .i64 0,.slice none 0 0] [(0,1,.c (.int .i64 1))]) <|
 .o (.pset none 0 0 3 (.v 1)) .done) (.ret)
abbrev B_spec_l5True:C:=.seq (.pl <| .e 1 0 <|
 .o (.pnew 0 (.c (.agg #[.int .i64 0,.int .i64 0,.slice none 0 0])) []) .done) K61_1
def R_spec_l5True:FIR:=⟨B_spec_l5True,1,[(0,some (some 3))]⟩
theorem IR_spec_l5True:cfun Tryz.prog H_spec_l5True Tryz.f61=some R_spec_l5True:=by kernel_rfl
theorem EN_spec_l5True:ENT Tryz.prog B_spec_l5True [(0,some (some 3))] 0 1 fn_spec_l5True:=fun hargs hw=>enter Tryz.func61 rfl IR_spec_l5True hargs hw
def H_spec_l6Has:Hint:=⟨[(0,false),(1,false),(4,false)],[]⟩
abbrev K138_1:C:=.seq (.pl <| .e 3 6 <|
 .m 3 0 <|
 .m 4 1 <|
 .x 5 (.conv .u64 (.v 4)) <|
 .x 6 (.bin .shr (.v 3) (.v 5)) <|
 .x 7 (.bin .and (.v 6) (.c (.int .i64 1))) <|
 .x 8 (.bin .eql (.v 7) (.c (.int .i64 1))) <|
 .m 2 8 .done) (.ret)
abbrev B_spec_l6Has:C:=.seq (.pl <| .e 3 0 <|
 .x 2 (.mv (.c (.bool false))) .done) K138_1
def R_spec_l6Has:FIR:=⟨B_spec_l6Has,3,[(2,none)]⟩
theorem IR_spec_l6Has:cfun Tryz.prog H_spec_l6Has Tryz.f138=some R_spec_l6Has:=by kernel_rfl
theorem EN_spec_l6Has:ENT Tryz.prog B_spec_l6Has [(2,none)] 2 3 fn_spec_l6Has:=fun hargs hw=>enter Tryz.func138 rfl IR_spec_l6Has hargs hw
def H_spec_l6Letters:Hint:=⟨[(0,false),(2,false),(3,false)],[[1]]⟩
abbrev K54_1:C:=.seq (.pl <| .e 3 0 <|
 .x 1 (.mv (.c (.bool true))) .done) (.ret)
abbrev K54_2:C:=.pl <| .e 3 2 <|
 .m 3 2 <|
 .x 4 (.bin .add (.v 3) (.c (.int .i64 1))) <|
 .m 2 4 .done
abbrev K54_3:C:=.seq (.pl <| .e 3 0 <|
 .x 1 (.mv (.c (.bool false))) .done) (.ret)
abbrev K54_4:C:=.cond 3 (.v 14) K54_3 (.skip)
abbrev K54_5:C:=.seq (.block 1 (.seq (.pl <| .e 3 12 <|
 .m 3 0 <|
 .m 4 2 <|
 .x 5 (.ia 1 (.v 3) (.v 4)) <|
 .l 6 5 <|
 .x 7 (.bin .lss (.v 6) (.c (.int .i64 0))) <|
 .m 8 7 <|
 .n 8 (.px (some 9) (.mv (.v 0))) <|
 .n 8 (.px (some 10) (.mv (.v 2))) <|
 .n 8 (.px (some 11) (.ia 1 (.v 9) (.v 10))) <|
 .n 8 (.ld (some 12) (.v 11) none) <|
 .n 8 (.px (some 13) (.bin .gtr (.v 12) (.c (.int .i64 7)))) <|
 .x 14 (.pick (.v 8) (.c (.bool true)) (.v 13)) .done) K54_4)) K54_2
abbrev K54_6:C:=.cond 3 (.v 6) (.skip) (.exit 0)
abbrev K54_7:C:=.seq (.seq (.pl <| .e 3 4 <|
 .m 3 2 <|
 .m 4 0 <|
 .x 5 (.lenV (.v 4)) <|
 .x 6 (.bin .lss (.v 3) (.v 5)) .done) K54_6) K54_5
abbrev K54_8:C:=.block 0 (.loop 3 [1] K54_7)
abbrev K54_9:C:=.seq (.seq (.pl <| .e 3 0 <|
 .x 2 (.mv (.c (.int .i64 0))) .done) K54_8) K54_1
abbrev B_spec_l6Letters:C:=.seq (.pl <| .e 3 0 <|
 .x 1 (.mv (.c (.bool false))) .done) K54_9
def R_spec_l6Letters:FIR:=⟨B_spec_l6Letters,3,[(1,none)]⟩
theorem IR_spec_l6Letters:cfun Tryz.prog H_spec_l6Letters Tryz.f54=some R_spec_l6Letters:=by kernel_rfl
theorem EN_spec_l6Letters:ENT Tryz.prog B_spec_l6Letters [(1,none)] 1 3 fn_spec_l6Letters:=fun hargs hw=>enter Tryz.func54 rfl IR_spec_l6Letters hargs hw
def H_spec_l6Word:Hint:=⟨[(0,false),(1,false),(4,false),(5,false),(6,false)],[[2]]⟩
abbrev K63_1:C:=.seq (.pl <| .e 5 1 <|
 .m 5 3 <|
 .m 2 5 .done) (.ret)
abbrev K63_2:C:=.pl <| .e 5 2 <|
 .m 5 4 <|
 .x 6 (.bin .add (.v 5) (.c (.int .i64 1))) <|
 .m 4 6 .done
abbrev K63_3:Pl:=.m 3 10 .done
abbrev K63_4:Pl:=.o (.psl 9 [.int .i64 0] [(0,1,.v 8)]) <|
 .c 10 (.app 8 1 [.int .i64 0] (.o (.v 5)) (.p 1 9)) K63_3
abbrev K63_5:Pl:=.c 8 (.call fn_spec_l16Rd_num [.v 6,.v 7]) K63_4
abbrev K63_6:C:=.seq (.block 1 (.pl <| .e 5 6 <|
 .m 5 3 <|
 .m 6 0 <|
 .c 7 (.bls 1 9 [.int .i64 0] [(0,1,.c (.int .i64 0)),(1,1,.c (.int .i64 1)),(2,1,.c (.int .i64 2)),(3,1,.c (.int .i64 3)),(4,1,.c (.int .i64 1)),(5,1,.c (.int .i64 0)),(6,1,.c (.int .i64 5)),(7,1,.c (.int .i64 4)),(8,1,.c (.int .i64 7))]) K63_5)) K63_2
abbrev K63_7:C:=.cond 5 (.v 7) (.skip) (.exit 0)
abbrev K63_8:C:=.seq (.seq (.pl <| .e 5 3 <|
 .m 5 4 <|
 .m 6 1 <|
 .x 7 (.bin .lss (.v 5) (.v 6)) .done) K63_7) K63_6
abbrev K63_9:C:=.block 0 (.loop 5 [2] K63_8)
abbrev K63_10:C:=.seq (.seq (.pl <| .e 5 0 <|
 .x 4 (.mv (.c (.int .i64 0))) .done) K63_9) K63_1
abbrev K63_11:Pl:=.m 3 5 .done
abbrev K63_12:C:=.seq (.pl <| .e 5 1 <|
 .c 5 (.bls 1 0 [.int .i64 0] []) K63_11) K63_10
abbrev B_spec_l6Word:C:=.seq (.pl <| .e 5 0 <|
 .x 2 (.mv (.c (.slice none 0 0))) .done) K63_12
def R_spec_l6Word:FIR:=⟨B_spec_l6Word,5,[(2,none)]⟩
theorem IR_spec_l6Word:cfun Tryz.prog H_spec_l6Word Tryz.f63=some R_spec_l6Word:=by kernel_rfl
theorem EN_spec_l6Word:ENT Tryz.prog B_spec_l6Word [(2,none)] 2 5 fn_spec_l6Word:=fun hargs hw=>enter Tryz.func63 rfl IR_spec_l6Word hargs hw
def H_spec_l7Basic:Hint:=⟨[(0,false),(1,true),(2,false)],[]⟩
abbrev K136_1:C:=.seq (.pl <| .e 3 18 <|
 .a 3 1 <|
 .g 4 3 1 0 <|
 .x 5 (.bin .eql (.v 4) (.c (.int .i64 2))) <|
 .m 6 5 <|
 .n 6 (.als 7 none 1) <|
 .n 6 (.pget (some 8) (some 7) 1 0 none) <|
 .n 6 (.px (some 9) (.bin .eql (.v 8) (.c (.int .i64 6)))) <|
 .x 10 (.pick (.v 6) (.c (.bool true)) (.v 9)) <|
 .m 11 10 <|
 .n 11 (.als 12 none 1) <|
 .n 11 (.pget (some 13) (some 12) 1 0 none) <|
 .n 11 (.px (some 14) (.bin .eql (.v 13) (.c (.int .i64 7)))) <|
 .x 15 (.pick (.v 11) (.c (.bool true)) (.v 14)) <|
 .m 16 15 <|
 .n 16 (.als 17 none 1) <|
 .n 16 (.pget (some 18) (some 17) 1 0 none) <|
 .n 16 (.px (some 19) (.bin .eql (.v 18) (.c (.int .i64 8)))) <|
 .x 20 (.pick (.v 16) (.c (.bool true)) (.v 19)) <|
 .m 2 20 .done) (.ret)
abbrev B_spec_l7Basic:C:=.seq (.pl <| .e 3 0 <|
 .o (.pnew 1 (.v 0) []) <|
 .x 2 (.mv (.c (.bool false))) .done) K136_1
def R_spec_l7Basic:FIR:=⟨B_spec_l7Basic,3,[(2,none)]⟩
theorem IR_spec_l7Basic:cfun Tryz.prog H_spec_l7Basic Tryz.f136=some R_spec_l7Basic:=by kernel_rfl
theorem EN_spec_l7Basic:ENT Tryz.prog B_spec_l7Basic [(2,none)] 1 3 fn_spec_l7Basic:=fun hargs hw=>enter Tryz.func136 rfl IR_spec_l7Basic hargs hw
def H_spec_l7Edge:Hint:=⟨[(0,false),(1,false),(2,true),(4,false)],[]⟩
abbrev K168_1:C:=.seq (.pl <| .e 4 45 <|
 .a 4 2 <|
 .g 5 4 2 0 <|
 .x 6 (.bin .geq (.v 5) (.c (.int .i64 0))) <|
 .m 7 6 <|
 .y 7 (.als 8 none 2) <|
 .y 7 (.pget (some 9) (some 8) 2 0 none) <|
 .y 7 (.px (some 10) (.mv (.v 1))) <|
 .y 7 (.px (some 11) (.bin .lss (.v 9) (.v 10))) <|
 .x 12 (.pick (.v 7) (.v 11) (.c (.bool false))) <|
 .m 13 12 <|
 .y 13 (.als 14 none 2) <|
 .y 13 (.pget (some 15) (some 14) 2 3 none) <|
 .y 13 (.px (some 16) (.bin .geq (.v 15) (.c (.int .i64 0)))) <|
 .x 17 (.pick (.v 13) (.v 16) (.c (.bool false))) <|
 .m 18 17 <|
 .y 18 (.als 19 none 2) <|
 .y 18 (.pget (some 20) (some 19) 2 3 none) <|
 .y 18 (.px (some 21) (.mv (.v 1))) <|
 .y 18 (.px (some 22) (.bin .lss (.v 20) (.v 21))) <|
 .x 23 (.pick (.v 18) (.v 22) (.c (.bool false))) <|
 .m 24 23 <|
 .y 24 (.als 25 none 2) <|
 .y 24 (.pget (some 26) (some 25) 2 1 none) <|
 .y 24 (.px (some 27) (.bin .geq (.v 26) (.c (.int .i64 0)))) <|
 .x 28 (.pick (.v 24) (.v 27) (.c (.bool false))) <|
 .m 29 28 <|
 .y 29 (.als 30 none 2) <|
 .y 29 (.pget (some 31) (some 30) 2 1 none) <|
 .y 29 (.px (some 32) (.bin .leq (.v 31) (.c (.int .i64 7)))) <|
 .x 33 (.pick (.v 29) (.v 32) (.c (.bool false))) <|
 .m 34 33 <|
 .y 34 (.als 35 none 2) <|
 .y 34 (.pget (some 36) (some 35) 2 2 none) <|
 .y 34 (.px (some 37) (.bin .geq (.v 36) (.c (.int .i64 0)))) <|
 .x 38 (.pick (.v 34) (.v 37) (.c (.bool false))) <|
 .m 39 38 <|
 .y 39 (.als 40 none 2) <|
 .y 39 (.pget (some 41) (some 40) 2 2 none) <|
 .y 39 (.als 42 none 2) <|
 .y 39 (.pget (some 43) (some 42) 2 1 none) <|
 .y 39 (.px (some 44) (.bin .and (.v 41) (.v 43))) <|
 .y 39 (.als 45 none 2) <|
 .y 39 (.pget (some 46) (some 45) 2 2 none) <|
 .y 39 (.px (some 47) (.bin .eql (.v 44) (.v 46))) <|
 .x 48 (.pick (.v 39) (.v 47) (.c (.bool false))) <|
 .m 3 48 .done) (.ret)
abbrev B_spec_l7Edge:C:=.seq (.pl <| .e 4 0 <|
 .o (.pnew 2 (.v 0) []) <|
 .x 3 (.mv (.c (.bool false))) .done) K168_1
def R_spec_l7Edge:FIR:=⟨B_spec_l7Edge,4,[(3,none)]⟩
theorem IR_spec_l7Edge:cfun Tryz.prog H_spec_l7Edge Tryz.f168=some R_spec_l7Edge:=by kernel_rfl
theorem EN_spec_l7Edge:ENT Tryz.prog B_spec_l7Edge [(3,none)] 2 4 fn_spec_l7Edge:=fun hargs hw=>enter Tryz.func168 rfl IR_spec_l7Edge hargs hw
def H_spec_l7Follows:Hint:=⟨[(0,false),(1,false),(2,false),(6,false),(7,false),(8,true),(9,false),(10,false),(26,false)],[[3,5,6,7,8]]⟩
abbrev K104_1:C:=.seq (.pl <| .e 9 0 <|
 .x 3 (.mv (.c (.bool true))) .done) (.ret)
abbrev K104_2:C:=.pl <| .e 9 2 <|
 .m 9 4 <|
 .x 10 (.bin .add (.v 9) (.c (.int .i64 1))) <|
 .m 4 10 .done
abbrev K104_3:C:=.seq (.pl <| .e 9 0 <|
 .x 3 (.mv (.c (.bool false))) .done) (.ret)
abbrev K104_4:C:=.cond 9 (.v 11) K104_3 (.skip)
abbrev K104_5:C:=.seq (.pl <| .e 9 3 <|
 .m 9 7 <|
 .m 10 6 <|
 .x 11 (.eqb true (.v 9) (.v 10)) .done) K104_4
abbrev K104_6:Pl:=.m 7 15 .done
abbrev K104_7:C:=.pl <| .e 9 7 <|
 .m 9 0 <|
 .m 10 2 <|
 .a 11 5 <|
 .g 12 11 5 2 <|
 .x 13 (.ia 3 (.v 12) (.c (.int .i64 0))) <|
 .o (.ld (some 14) (.v 13) (some 3)) <|
 .c 15 (.call fn_spec_l7Value [.v 9,.v 10,.v 14]) K104_6
abbrev K104_8:Pl:=.n 16 (.px (some 28) (.pick (.v 24) (.v 27) (.c (.bool false)))) <|
 .x 29 (.pick (.v 16) (.c (.bool true)) (.v 28)) <|
 .m 7 29 .done
abbrev K104_9:Pl:=.n 16 (.px (some 24) (.mv (.v 23))) <|
 .y 24 (.px (some 25) (.mv (.v 2))) <|
 .y 24 (.px (some 26) (.mv (.v 4))) <|
 .st (.act (some (.v 24,true)) (.ex (some 27) (.call fn_spec_l6Has [.v 25,.v 26]))) K104_8
abbrev K104_10:Pl:=.m 16 15 <|
 .n 16 (.px (some 17) (.mv (.v 0))) <|
 .n 16 (.px (some 18) (.mv (.v 1))) <|
 .n 16 (.als 19 none 5) <|
 .n 16 (.pget (some 20) (some 19) 5 2 none) <|
 .n 16 (.px (some 21) (.ia 3 (.v 20) (.c (.int .i64 0)))) <|
 .n 16 (.ld (some 22) (.v 21) (some 3)) <|
 .st (.act (some (.v 16,false)) (.ex (some 23) (.call fn_spec_l7Value [.v 17,.v 18,.v 22]))) K104_9
abbrev K104_11:C:=.pl <| .e 9 21 <|
 .m 9 0 <|
 .m 10 1 <|
 .a 11 5 <|
 .g 12 11 5 2 <|
 .x 13 (.ia 3 (.v 12) (.c (.int .i64 1))) <|
 .o (.ld (some 14) (.v 13) (some 3)) <|
 .c 15 (.call fn_spec_l7Value [.v 9,.v 10,.v 14]) K104_10
abbrev K104_12:Pl:=.y 16 (.px (some 28) (.pick (.v 24) (.c (.bool true)) (.v 27))) <|
 .x 29 (.pick (.v 16) (.v 28) (.c (.bool false))) <|
 .m 7 29 .done
abbrev K104_13:Pl:=.y 16 (.px (some 24) (.mv (.v 23))) <|
 .n 24 (.px (some 25) (.mv (.v 2))) <|
 .n 24 (.px (some 26) (.mv (.v 4))) <|
 .st (.act (some (.v 24,false)) (.ex (some 27) (.call fn_spec_l6Has [.v 25,.v 26]))) K104_12
abbrev K104_14:Pl:=.m 16 15 <|
 .y 16 (.px (some 17) (.mv (.v 0))) <|
 .y 16 (.px (some 18) (.mv (.v 1))) <|
 .y 16 (.als 19 none 5) <|
 .y 16 (.pget (some 20) (some 19) 5 2 none) <|
 .y 16 (.px (some 21) (.ia 3 (.v 20) (.c (.int .i64 0)))) <|
 .y 16 (.ld (some 22) (.v 21) (some 3)) <|
 .st (.act (some (.v 16,true)) (.ex (some 23) (.call fn_spec_l7Value [.v 17,.v 18,.v 22]))) K104_13
abbrev K104_15:C:=.pl <| .e 9 21 <|
 .m 9 0 <|
 .m 10 1 <|
 .a 11 5 <|
 .g 12 11 5 2 <|
 .x 13 (.ia 3 (.v 12) (.c (.int .i64 1))) <|
 .o (.ld (some 14) (.v 13) (some 3)) <|
 .c 15 (.call fn_spec_l7Value [.v 9,.v 10,.v 14]) K104_14
abbrev K104_16:C:=.cond 9 (.v 10) K104_15 (.skip)
abbrev K104_17:C:=.seq (.pl <| .e 9 2 <|
 .x 9 (.bin .eql (.v 8) (.c (.int .i64 8))) <|
 .m 10 9 .done) K104_16
abbrev K104_18:C:=.cond 9 (.v 10) K104_11 K104_17
abbrev K104_19:C:=.seq (.pl <| .e 9 2 <|
 .x 9 (.bin .eql (.v 8) (.c (.int .i64 7))) <|
 .m 10 9 .done) K104_18
abbrev K104_20:C:=.cond 9 (.v 10) K104_7 K104_19
abbrev K104_21:C:=.block 2 (.seq (.pl <| .e 9 2 <|
 .x 9 (.bin .eql (.v 8) (.c (.int .i64 6))) <|
 .m 10 9 .done) K104_20)
abbrev K104_22:C:=.seq (.seq (.pl <| .e 9 1 <|
 .a 9 5 <|
 .g 8 9 5 0 .done) K104_21) K104_5
abbrev K104_23:C:=.seq (.pl <| .e 9 1 <|
 .m 9 6 <|
 .m 7 9 .done) K104_22
abbrev K104_24:Pl:=.m 6 11 .done
abbrev K104_25:C:=.seq (.pl <| .e 9 3 <|
 .m 9 1 <|
 .m 10 4 <|
 .c 11 (.call fn_spec_l6Has [.v 9,.v 10]) K104_24) K104_23
abbrev K104_26:C:=.seq (.block 1 (.seq (.pl <| .e 9 4 <|
 .m 9 0 <|
 .m 10 4 <|
 .x 11 (.ia 3 (.v 9) (.v 10)) <|
 .o (.ld (some 12) (.v 11) (some 3)) <|
 .o (.pnew 5 (.c (.agg #[.int .i64 0,.int .i64 0,.slice none 0 0])) []) <|
 .o (.pset none 5 0 3 (.v 12)) .done) K104_25)) K104_2
abbrev K104_27:C:=.cond 9 (.v 12) (.skip) (.exit 0)
abbrev K104_28:C:=.seq (.seq (.pl <| .e 9 4 <|
 .m 9 4 <|
 .m 10 0 <|
 .x 11 (.lenV (.v 10)) <|
 .x 12 (.bin .lss (.v 9) (.v 11)) .done) K104_27) K104_26
abbrev K104_29:C:=.block 0 (.loop 9 [3,5,6,7,8] K104_28)
abbrev K104_30:C:=.seq (.seq (.pl <| .e 9 0 <|
 .x 4 (.mv (.c (.int .i64 0))) .done) K104_29) K104_1
abbrev B_spec_l7Follows:C:=.seq (.pl <| .e 9 0 <|
 .x 3 (.mv (.c (.bool false))) .done) K104_30
def R_spec_l7Follows:FIR:=⟨B_spec_l7Follows,9,[(3,none)]⟩
theorem IR_spec_l7Follows:cfun Tryz.prog H_spec_l7Follows Tryz.f104=some R_spec_l7Follows:=by kernel_rfl
theorem EN_spec_l7Follows:ENT Tryz.prog B_spec_l7Follows [(3,none)] 3 9 fn_spec_l7Follows:=fun hargs hw=>enter Tryz.func104 rfl IR_spec_l7Follows hargs hw
def H_spec_l7Fulfils:Hint:=⟨[(0,false),(1,false),(2,false),(6,false)],[]⟩
abbrev K140_1:Pl:=.x 19 (.pick (.v 8) (.c (.bool true)) (.v 18)) <|
 .m 3 19 .done
abbrev K140_2:Pl:=.x 7 (.un .not (.v 6)) <|
 .m 8 7 <|
 .n 8 (.px (some 9) (.mv (.v 0))) <|
 .n 8 (.px (some 10) (.mv (.v 1))) <|
 .n 8 (.px (some 11) (.mv (.v 0))) <|
 .n 8 (.px (some 12) (.mv (.v 2))) <|
 .n 8 (.px (some 13) (.ia 3 (.v 11) (.v 12))) <|
 .n 8 (.px (some 14) (.fa 2 (.v 13))) <|
 .n 8 (.ld (some 15) (.v 14) none) <|
 .n 8 (.px (some 16) (.ia 3 (.v 15) (.c (.int .i64 1)))) <|
 .n 8 (.ld (some 17) (.v 16) (some 3)) <|
 .st (.act (some (.v 8,false)) (.ex (some 18) (.call fn_spec_l7Value [.v 9,.v 10,.v 17]))) K140_1
abbrev K140_3:C:=.seq (.pl <| .e 4 16 <|
 .m 4 1 <|
 .m 5 2 <|
 .c 6 (.call fn_spec_l6Has [.v 4,.v 5]) K140_2) (.ret)
abbrev B_spec_l7Fulfils:C:=.seq (.pl <| .e 4 0 <|
 .x 3 (.mv (.c (.bool false))) .done) K140_3
def R_spec_l7Fulfils:FIR:=⟨B_spec_l7Fulfils,4,[(3,none)]⟩
theorem IR_spec_l7Fulfils:cfun Tryz.prog H_spec_l7Fulfils Tryz.f140=some R_spec_l7Fulfils:=by kernel_rfl
theorem EN_spec_l7Fulfils:ENT Tryz.prog B_spec_l7Fulfils [(3,none)] 3 4 fn_spec_l7Fulfils:=fun hargs hw=>enter Tryz.func140 rfl IR_spec_l7Fulfils hargs hw
def H_spec_l7Letter:Hint:=⟨[(0,false),(1,false),(4,false),(5,false),(6,false),(7,false),(8,false)],[[2,3]]⟩
abbrev K103_1:C:=.seq (.pl <| .e 7 2 <|
 .m 7 4 <|
 .m 8 5 <|
 .m 2 7 <|
 .m 3 8 .done) (.ret)
abbrev K103_2:C:=.pl <| .e 7 2 <|
 .m 7 6 <|
 .x 8 (.bin .add (.v 7) (.c (.int .i64 1))) <|
 .m 6 8 .done
abbrev K103_3:C:=.pl <| .e 7 9 <|
 .m 7 5 <|
 .m 8 0 <|
 .m 9 6 <|
 .x 10 (.ia 3 (.v 8) (.v 9)) <|
 .x 11 (.fa 1 (.v 10)) <|
 .l 12 11 <|
 .x 13 (.conv .u64 (.v 12)) <|
 .x 14 (.bin .shl (.c (.int .i64 1)) (.v 13)) <|
 .x 15 (.bin .or (.v 7) (.v 14)) <|
 .m 5 15 .done
abbrev K103_4:C:=.cond 7 (.v 9) K103_3 (.skip)
abbrev K103_5:C:=.seq (.pl <| .e 7 3 <|
 .m 7 1 <|
 .m 8 6 <|
 .c 9 (.call fn_spec_l6Has [.v 7,.v 8]) .done) K103_4
abbrev K103_6:C:=.seq (.pl <| .e 7 9 <|
 .m 7 4 <|
 .m 8 0 <|
 .m 9 6 <|
 .x 10 (.ia 3 (.v 8) (.v 9)) <|
 .x 11 (.fa 1 (.v 10)) <|
 .l 12 11 <|
 .x 13 (.conv .u64 (.v 12)) <|
 .x 14 (.bin .shl (.c (.int .i64 1)) (.v 13)) <|
 .x 15 (.bin .or (.v 7) (.v 14)) <|
 .m 4 15 .done) K103_5
abbrev K103_7:C:=.cond 7 (.v 12) K103_6 (.skip)
abbrev K103_8:C:=.seq (.block 1 (.seq (.pl <| .e 7 6 <|
 .m 7 0 <|
 .m 8 6 <|
 .x 9 (.ia 3 (.v 7) (.v 8)) <|
 .x 10 (.fa 0 (.v 9)) <|
 .l 11 10 <|
 .x 12 (.bin .eql (.v 11) (.c (.int .i64 2))) .done) K103_7)) K103_2
abbrev K103_9:C:=.cond 7 (.v 10) (.skip) (.exit 0)
abbrev K103_10:C:=.seq (.seq (.pl <| .e 7 4 <|
 .m 7 6 <|
 .m 8 0 <|
 .x 9 (.lenV (.v 8)) <|
 .x 10 (.bin .lss (.v 7) (.v 9)) .done) K103_9) K103_8
abbrev K103_11:C:=.block 0 (.loop 7 [2,3] K103_10)
abbrev K103_12:C:=.seq (.seq (.pl <| .e 7 0 <|
 .x 6 (.mv (.c (.int .i64 0))) .done) K103_11) K103_1
abbrev K103_13:C:=.seq (.pl <| .e 7 0 <|
 .x 5 (.mv (.c (.int .i64 0))) .done) K103_12
abbrev K103_14:C:=.seq (.pl <| .e 7 0 <|
 .x 4 (.mv (.c (.int .i64 0))) .done) K103_13
abbrev B_spec_l7Letter:C:=.seq (.pl <| .e 7 0 <|
 .x 2 (.mv (.c (.int .i64 0))) <|
 .x 3 (.mv (.c (.int .i64 0))) .done) K103_14
def R_spec_l7Letter:FIR:=⟨B_spec_l7Letter,7,[(2,none),(3,none)]⟩
theorem IR_spec_l7Letter:cfun Tryz.prog H_spec_l7Letter Tryz.f103=some R_spec_l7Letter:=by kernel_rfl
theorem EN_spec_l7Letter:ENT Tryz.prog B_spec_l7Letter [(2,none),(3,none)] 2 7 fn_spec_l7Letter:=fun hargs hw=>enter Tryz.func103 rfl IR_spec_l7Letter hargs hw
def H_spec_l7Loop:Hint:=⟨[(0,false),(1,false),(4,false),(5,false),(6,false),(7,false),(8,false),(9,false)],[[2,4,5,6,7],[2,3,7]]⟩
abbrev K146_1:C:=.seq (.pl <| .e 8 0 <|
 .x 2 (.mv (.c (.bool false))) .done) (.ret)
abbrev K146_2:C:=.pl <| .e 8 2 <|
 .m 8 6 <|
 .x 9 (.bin .add (.v 8) (.c (.int .i64 1))) <|
 .m 6 9 .done
abbrev K146_3:Pl:=.m 5 13 .done
abbrev K146_4:C:=.pl <| .e 8 6 <|
 .m 8 5 <|
 .m 9 0 <|
 .m 10 7 <|
 .x 11 (.ia 1 (.v 9) (.v 10)) <|
 .l 12 11 <|
 .c 13 (.app 8 1 [.int .i64 0] (.o (.v 8)) (.o (.v 12))) K146_3
abbrev K146_5:C:=.seq (.pl <| .e 8 3 <|
 .m 8 4 <|
 .m 9 7 <|
 .x 10 (.ia 1 (.v 8) (.v 9)) <|
 .o (.ex none (.store 1 (.v 10) (.c (.bool true)))) .done) K146_4
abbrev K146_6:C:=.cond 8 (.v 12) K146_5 (.skip)
abbrev K146_7:C:=.seq (.pl <| .e 8 5 <|
 .m 8 4 <|
 .m 9 7 <|
 .x 10 (.ia 1 (.v 8) (.v 9)) <|
 .l 11 10 <|
 .x 12 (.un .not (.v 11)) .done) K146_6
abbrev K146_8:C:=.seq (.pl <| .e 8 0 <|
 .x 2 (.mv (.c (.bool true))) .done) (.ret)
abbrev K146_9:C:=.cond 8 (.v 10) K146_8 (.skip)
abbrev K146_10:C:=.seq (.seq (.pl <| .e 8 3 <|
 .m 8 7 <|
 .m 9 1 <|
 .x 10 (.bin .eql (.v 8) (.v 9)) .done) K146_9) K146_7
abbrev K146_11:C:=.seq (.block 3 (.seq (.pl <| .e 8 4 <|
 .m 8 5 <|
 .m 9 6 <|
 .x 10 (.ia 1 (.v 8) (.v 9)) <|
 .l 11 10 <|
 .m 7 11 .done) K146_10)) K146_2
abbrev K146_12:C:=.cond 8 (.v 11) (.skip) (.exit 2)
abbrev K146_13:C:=.seq (.seq (.pl <| .e 8 4 <|
 .m 8 6 <|
 .m 9 5 <|
 .x 10 (.lenV (.v 9)) <|
 .x 11 (.bin .lss (.v 8) (.v 10)) .done) K146_12) K146_11
abbrev K146_14:C:=.block 2 (.loop 8 [2,3,7] K146_13)
abbrev K146_15:C:=.seq (.seq (.pl <| .e 8 0 <|
 .x 6 (.mv (.c (.int .i64 0))) .done) K146_14) K146_1
abbrev K146_16:Pl:=.m 5 13 .done
abbrev K146_17:C:=.seq (.pl <| .e 8 6 <|
 .o (.psl 8 [] []) <|
 .m 9 0 <|
 .m 10 1 <|
 .x 11 (.ia 1 (.v 9) (.v 10)) <|
 .l 12 11 <|
 .c 13 (.app 8 1 [.int .i64 0] (.p 0 8) (.o (.v 12))) K146_16) K146_15
abbrev K146_18:Pl:=.m 4 10 .done
abbrev K146_19:C:=.seq (.pl <| .e 8 3 <|
 .m 8 0 <|
 .x 9 (.lenV (.v 8)) <|
 .c 10 (.mks 1 1 [.bool false] (.v 9) (.v 9)) K146_18) K146_17
abbrev K146_20:C:=.pl <| .e 8 2 <|
 .m 8 3 <|
 .x 9 (.bin .add (.v 8) (.c (.int .i64 1))) <|
 .m 3 9 .done
abbrev K146_21:C:=.seq (.pl <| .e 8 0 <|
 .x 2 (.mv (.c (.bool true))) .done) (.ret)
abbrev K146_22:C:=.cond 8 (.v 16) K146_21 (.skip)
abbrev K146_23:C:=.seq (.block 1 (.seq (.pl <| .e 8 9 <|
 .m 8 0 <|
 .m 9 1 <|
 .x 10 (.ia 1 (.v 8) (.v 9)) <|
 .l 11 10 <|
 .m 12 3 <|
 .x 13 (.ia 1 (.v 11) (.v 12)) <|
 .l 14 13 <|
 .m 15 1 <|
 .x 16 (.bin .eql (.v 14) (.v 15)) .done) K146_22)) K146_20
abbrev K146_24:C:=.cond 8 (.v 14) (.skip) (.exit 0)
abbrev K146_25:C:=.seq (.seq (.pl <| .e 8 7 <|
 .m 8 3 <|
 .m 9 0 <|
 .m 10 1 <|
 .x 11 (.ia 1 (.v 9) (.v 10)) <|
 .l 12 11 <|
 .x 13 (.lenV (.v 12)) <|
 .x 14 (.bin .lss (.v 8) (.v 13)) .done) K146_24) K146_23
abbrev K146_26:C:=.block 0 (.loop 8 [2,4,5,6,7] K146_25)
abbrev K146_27:C:=.seq (.seq (.pl <| .e 8 0 <|
 .x 3 (.mv (.c (.int .i64 0))) .done) K146_26) K146_19
abbrev B_spec_l7Loop:C:=.seq (.pl <| .e 8 0 <|
 .x 2 (.mv (.c (.bool false))) .done) K146_27
def R_spec_l7Loop:FIR:=⟨B_spec_l7Loop,8,[(2,none)]⟩
theorem IR_spec_l7Loop:cfun Tryz.prog H_spec_l7Loop Tryz.f146=some R_spec_l7Loop:=by kernel_rfl
theorem EN_spec_l7Loop:ENT Tryz.prog B_spec_l7Loop [(2,none)] 2 8 fn_spec_l7Loop:=fun hargs hw=>enter Tryz.func146 rfl IR_spec_l7Loop hargs hw
def H_spec_l7Next:Hint:=⟨[(0,false),(1,true),(2,false),(3,false),(4,false),(5,true)],[[0,2,5]]⟩
abbrev K144_1:C:=.seq (.pl <| .e 6 1 <|
 .m 6 3 <|
 .m 2 6 .done) (.ret)
abbrev K144_2:C:=.pl <| .e 6 2 <|
 .m 6 4 <|
 .x 7 (.bin .add (.v 6) (.c (.int .i64 1))) <|
 .m 4 7 .done
abbrev K144_3:Pl:=.x 18 (.ia 1 (.v 6) (.v 8)) <|
 .o (.ex none (.store 1 (.v 18) (.v 17))) .done
abbrev K144_4:C:=.pl <| .e 6 13 <|
 .m 6 3 <|
 .a 7 5 <|
 .g 8 7 5 0 <|
 .m 9 3 <|
 .a 10 5 <|
 .g 11 10 5 0 <|
 .x 12 (.ia 1 (.v 9) (.v 11)) <|
 .l 13 12 <|
 .a 14 5 <|
 .g 15 14 5 3 <|
 .o (.psl 16 [.int .i64 0] [(0,1,.v 15)]) <|
 .c 17 (.app 8 1 [.int .i64 0] (.o (.v 13)) (.p 1 16)) K144_3
abbrev K144_5:C:=.cond 6 (.v 14) K144_4 (.skip)
abbrev K144_6:Pl:=.x 14 (.un .not (.v 13)) .done
abbrev K144_7:C:=.seq (.pl <| .e 6 9 <|
 .m 6 3 <|
 .a 7 5 <|
 .g 8 7 5 0 <|
 .x 9 (.ia 1 (.v 6) (.v 8)) <|
 .l 10 9 <|
 .a 11 5 <|
 .g 12 11 5 3 <|
 .c 13 (.call fn_spec_l4In [.v 10,.v 12]) K144_6) K144_5
abbrev K144_8:C:=.seq (.block 1 (.seq (.pl <| .e 6 5 <|
 .a 6 1 <|
 .g 7 6 1 2 <|
 .m 8 4 <|
 .x 9 (.ia 4 (.v 7) (.v 8)) <|
 .o (.ld (some 10) (.v 9) (some 4)) <|
 .o (.pnew 5 (.c (.agg #[.int .i64 0,.int .i64 0,.int .i64 0,.int .i64 0])) []) <|
 .o (.pset none 5 0 4 (.v 10)) .done) K144_7)) K144_2
abbrev K144_9:C:=.cond 6 (.v 10) (.skip) (.exit 0)
abbrev K144_10:C:=.seq (.seq (.pl <| .e 6 5 <|
 .m 6 4 <|
 .a 7 1 <|
 .g 8 7 1 2 <|
 .x 9 (.lenV (.v 8)) <|
 .x 10 (.bin .lss (.v 6) (.v 9)) .done) K144_9) K144_8
abbrev K144_11:C:=.block 0 (.loop 6 [0,2,5] K144_10)
abbrev K144_12:C:=.seq (.seq (.pl <| .e 6 0 <|
 .x 4 (.mv (.c (.int .i64 0))) .done) K144_11) K144_1
abbrev K144_13:Pl:=.m 3 9 .done
abbrev K144_14:C:=.seq (.pl <| .e 6 4 <|
 .a 6 1 <|
 .g 7 6 1 1 <|
 .x 8 (.lenV (.v 7)) <|
 .c 9 (.mks 24 1 [.slice none 0 0] (.v 8) (.v 8)) K144_13) K144_12
abbrev B_spec_l7Next:C:=.seq (.pl <| .e 6 0 <|
 .o (.pnew 1 (.v 0) []) <|
 .x 2 (.mv (.c (.slice none 0 0))) .done) K144_14
def R_spec_l7Next:FIR:=⟨B_spec_l7Next,6,[(2,none)]⟩
theorem IR_spec_l7Next:cfun Tryz.prog H_spec_l7Next Tryz.f144=some R_spec_l7Next:=by kernel_rfl
theorem EN_spec_l7Next:ENT Tryz.prog B_spec_l7Next [(2,none)] 1 6 fn_spec_l7Next:=fun hargs hw=>enter Tryz.func144 rfl IR_spec_l7Next hargs hw
def H_spec_l7On:Hint:=⟨[(0,false),(1,false),(2,true),(4,false)],[]⟩
abbrev K148_1:C:=.seq (.pl <| .e 4 7 <|
 .m 4 1 <|
 .a 5 2 <|
 .g 6 5 2 1 <|
 .x 7 (.bin .and (.v 4) (.v 6)) <|
 .a 8 2 <|
 .g 9 8 2 2 <|
 .x 10 (.bin .eql (.v 7) (.v 9)) <|
 .m 3 10 .done) (.ret)
abbrev B_spec_l7On:C:=.seq (.pl <| .e 4 0 <|
 .o (.pnew 2 (.v 0) []) <|
 .x 3 (.mv (.c (.bool false))) .done) K148_1
def R_spec_l7On:FIR:=⟨B_spec_l7On,4,[(3,none)]⟩
theorem IR_spec_l7On:cfun Tryz.prog H_spec_l7On Tryz.f148=some R_spec_l7On:=by kernel_rfl
theorem EN_spec_l7On:ENT Tryz.prog B_spec_l7On [(3,none)] 2 4 fn_spec_l7On:=fun hargs hw=>enter Tryz.func148 rfl IR_spec_l7On hargs hw
def H_spec_l7Pair:Hint:=⟨[(0,false),(1,false),(4,false),(5,false),(6,false)],[[2,3]]⟩
abbrev K105_1:Pl:=.m 9 0 <|
 .x 10 (.lenV (.v 9)) <|
 .m 2 8 <|
 .m 3 10 .done
abbrev K105_2:C:=.seq (.pl <| .e 5 6 <|
 .m 5 0 <|
 .m 6 1 <|
 .o (.psl 7 [.slice none 0 0] [(0,1,.v 6)]) <|
 .c 8 (.app 24 1 [.slice none 0 0] (.o (.v 5)) (.p 1 7)) K105_1) (.ret)
abbrev K105_3:C:=.pl <| .e 5 2 <|
 .m 5 4 <|
 .x 6 (.bin .add (.v 5) (.c (.int .i64 1))) <|
 .m 4 6 .done
abbrev K105_4:C:=.seq (.pl <| .e 5 2 <|
 .m 5 0 <|
 .m 6 4 <|
 .m 2 5 <|
 .m 3 6 .done) (.ret)
abbrev K105_5:C:=.cond 5 (.v 10) K105_4 (.skip)
abbrev K105_6:C:=.seq (.block 1 (.seq (.pl <| .e 5 6 <|
 .m 5 0 <|
 .m 6 4 <|
 .x 7 (.ia 1 (.v 5) (.v 6)) <|
 .l 8 7 <|
 .m 9 1 <|
 .c 10 (.call fn_spec_l2Ints [.v 8,.v 9]) .done) K105_5)) K105_3
abbrev K105_7:C:=.cond 5 (.v 8) (.skip) (.exit 0)
abbrev K105_8:C:=.seq (.seq (.pl <| .e 5 4 <|
 .m 5 4 <|
 .m 6 0 <|
 .x 7 (.lenV (.v 6)) <|
 .x 8 (.bin .lss (.v 5) (.v 7)) .done) K105_7) K105_6
abbrev K105_9:C:=.block 0 (.loop 5 [2,3] K105_8)
abbrev K105_10:C:=.seq (.seq (.pl <| .e 5 0 <|
 .x 4 (.mv (.c (.int .i64 0))) .done) K105_9) K105_2
abbrev B_spec_l7Pair:C:=.seq (.pl <| .e 5 0 <|
 .x 2 (.mv (.c (.slice none 0 0))) <|
 .x 3 (.mv (.c (.int .i64 0))) .done) K105_10
def R_spec_l7Pair:FIR:=⟨B_spec_l7Pair,5,[(2,none),(3,none)]⟩
theorem IR_spec_l7Pair:cfun Tryz.prog H_spec_l7Pair Tryz.f105=some R_spec_l7Pair:=by kernel_rfl
theorem EN_spec_l7Pair:ENT Tryz.prog B_spec_l7Pair [(2,none),(3,none)] 2 5 fn_spec_l7Pair:=fun hargs hw=>enter Tryz.func105 rfl IR_spec_l7Pair hargs hw
def H_spec_l7Phase:Hint:=⟨[(0,false),(1,false),(2,false),(3,false),(8,false),(9,false)],[]⟩
abbrev K102_1:C:=.seq (.pl <| .e 6 1 <|
 .m 6 3 <|
 .m 4 6 <|
 .x 5 (.mv (.c (.bool false))) .done) (.ret)
abbrev K102_2:C:=.seq (.pl <| .e 6 7 <|
 .m 6 3 <|
 .x 7 (.bin .add (.v 6) (.c (.int .i64 1))) <|
 .m 8 1 <|
 .x 9 (.lenV (.v 8)) <|
 .x 10 (.bin .rem (.v 7) (.v 9)) <|
 .m 11 3 <|
 .x 12 (.bin .eql (.v 11) (.c (.int .i64 0))) <|
 .m 4 10 <|
 .m 5 12 .done) (.ret)
abbrev K102_3:C:=.cond 6 (.v 12) K102_2 (.skip)
abbrev K102_4:C:=.seq (.seq (.pl <| .e 6 7 <|
 .m 6 0 <|
 .m 7 2 <|
 .m 8 1 <|
 .m 9 3 <|
 .x 10 (.ia 1 (.v 8) (.v 9)) <|
 .l 11 10 <|
 .c 12 (.call fn_spec_l7Fulfils [.v 6,.v 7,.v 11]) .done) K102_3) K102_1
abbrev K102_5:C:=.seq (.pl <| .e 6 0 <|
 .x 4 (.mv (.c (.int .i64 0))) <|
 .x 5 (.mv (.c (.bool true))) .done) (.ret)
abbrev K102_6:C:=.cond 6 (.v 8) K102_5 (.skip)
abbrev K102_7:C:=.seq (.seq (.pl <| .e 6 3 <|
 .m 6 1 <|
 .x 7 (.lenV (.v 6)) <|
 .x 8 (.bin .eql (.v 7) (.c (.int .i64 0))) .done) K102_6) K102_4
abbrev B_spec_l7Phase:C:=.seq (.pl <| .e 6 0 <|
 .x 4 (.mv (.c (.int .i64 0))) <|
 .x 5 (.mv (.c (.bool false))) .done) K102_7
def R_spec_l7Phase:FIR:=⟨B_spec_l7Phase,6,[(4,none),(5,none)]⟩
theorem IR_spec_l7Phase:cfun Tryz.prog H_spec_l7Phase Tryz.f102=some R_spec_l7Phase:=by kernel_rfl
theorem EN_spec_l7Phase:ENT Tryz.prog B_spec_l7Phase [(4,none),(5,none)] 4 6 fn_spec_l7Phase:=fun hargs hw=>enter Tryz.func102 rfl IR_spec_l7Phase hargs hw
def H_spec_l7Reach:Hint:=⟨[(0,false),(1,false),(4,false),(5,false),(6,false),(7,false),(8,false),(9,false),(10,false)],[[2,6,7,8],[1,2,5,7,8],[1,2,5,8]]⟩
abbrev K145_1:C:=.seq (.pl <| .e 9 1 <|
 .m 9 4 <|
 .m 2 9 .done) (.ret)
abbrev K145_2:C:=.pl <| .e 9 2 <|
 .m 9 6 <|
 .x 10 (.bin .add (.v 9) (.c (.int .i64 1))) <|
 .m 6 10 .done
abbrev K145_3:C:=.pl <| .e 9 2 <|
 .m 9 7 <|
 .x 10 (.bin .add (.v 9) (.c (.int .i64 1))) <|
 .m 7 10 .done
abbrev K145_4:Pl:=.m 4 12 .done
abbrev K145_5:C:=.pl <| .e 9 4 <|
 .m 9 4 <|
 .m 10 8 <|
 .o (.psl 11 [.int .i64 0] [(0,1,.v 10)]) <|
 .c 12 (.app 8 1 [.int .i64 0] (.o (.v 9)) (.p 1 11)) K145_4
abbrev K145_6:C:=.seq (.pl <| .e 9 3 <|
 .m 9 3 <|
 .m 10 8 <|
 .x 11 (.ia 1 (.v 9) (.v 10)) <|
 .o (.ex none (.store 1 (.v 11) (.c (.bool true)))) .done) K145_5
abbrev K145_7:C:=.cond 9 (.v 13) K145_6 (.skip)
abbrev K145_8:C:=.seq (.pl <| .e 9 5 <|
 .m 9 3 <|
 .m 10 8 <|
 .x 11 (.ia 1 (.v 9) (.v 10)) <|
 .l 12 11 <|
 .x 13 (.un .not (.v 12)) .done) K145_7
abbrev K145_9:C:=.seq (.block 5 (.seq (.pl <| .e 9 10 <|
 .m 9 0 <|
 .m 10 4 <|
 .m 11 6 <|
 .x 12 (.ia 1 (.v 10) (.v 11)) <|
 .l 13 12 <|
 .x 14 (.ia 1 (.v 9) (.v 13)) <|
 .l 15 14 <|
 .m 16 7 <|
 .x 17 (.ia 1 (.v 15) (.v 16)) <|
 .l 18 17 <|
 .m 8 18 .done) K145_8)) K145_3
abbrev K145_10:C:=.cond 9 (.v 18) (.skip) (.exit 4)
abbrev K145_11:C:=.seq (.seq (.pl <| .e 9 10 <|
 .m 9 7 <|
 .m 10 0 <|
 .m 11 4 <|
 .m 12 6 <|
 .x 13 (.ia 1 (.v 11) (.v 12)) <|
 .l 14 13 <|
 .x 15 (.ia 1 (.v 10) (.v 14)) <|
 .l 16 15 <|
 .x 17 (.lenV (.v 16)) <|
 .x 18 (.bin .lss (.v 9) (.v 17)) .done) K145_10) K145_9
abbrev K145_12:C:=.block 4 (.loop 9 [1,2,5,8] K145_11)
abbrev K145_13:C:=.seq (.block 3 (.seq (.pl <| .e 9 0 <|
 .x 7 (.mv (.c (.int .i64 0))) .done) K145_12)) K145_2
abbrev K145_14:C:=.cond 9 (.v 12) (.skip) (.exit 2)
abbrev K145_15:C:=.seq (.seq (.pl <| .e 9 4 <|
 .m 9 6 <|
 .m 10 4 <|
 .x 11 (.lenV (.v 10)) <|
 .x 12 (.bin .lss (.v 9) (.v 11)) .done) K145_14) K145_13
abbrev K145_16:C:=.block 2 (.loop 9 [1,2,5,7,8] K145_15)
abbrev K145_17:C:=.seq (.seq (.pl <| .e 9 0 <|
 .x 6 (.mv (.c (.int .i64 0))) .done) K145_16) K145_1
abbrev K145_18:C:=.pl <| .e 9 2 <|
 .m 9 5 <|
 .x 10 (.bin .add (.v 9) (.c (.int .i64 1))) <|
 .m 5 10 .done
abbrev K145_19:Pl:=.m 4 15 .done
abbrev K145_20:C:=.pl <| .e 9 7 <|
 .m 9 4 <|
 .m 10 1 <|
 .m 11 5 <|
 .x 12 (.ia 1 (.v 10) (.v 11)) <|
 .l 13 12 <|
 .o (.psl 14 [.int .i64 0] [(0,1,.v 13)]) <|
 .c 15 (.app 8 1 [.int .i64 0] (.o (.v 9)) (.p 1 14)) K145_19
abbrev K145_21:C:=.seq (.pl <| .e 9 6 <|
 .m 9 3 <|
 .m 10 1 <|
 .m 11 5 <|
 .x 12 (.ia 1 (.v 10) (.v 11)) <|
 .l 13 12 <|
 .x 14 (.ia 1 (.v 9) (.v 13)) <|
 .o (.ex none (.store 1 (.v 14) (.c (.bool true)))) .done) K145_20
abbrev K145_22:C:=.cond 9 (.v 16) K145_21 (.skip)
abbrev K145_23:C:=.seq (.block 1 (.seq (.pl <| .e 9 8 <|
 .m 9 3 <|
 .m 10 1 <|
 .m 11 5 <|
 .x 12 (.ia 1 (.v 10) (.v 11)) <|
 .l 13 12 <|
 .x 14 (.ia 1 (.v 9) (.v 13)) <|
 .l 15 14 <|
 .x 16 (.un .not (.v 15)) .done) K145_22)) K145_18
abbrev K145_24:C:=.cond 9 (.v 12) (.skip) (.exit 0)
abbrev K145_25:C:=.seq (.seq (.pl <| .e 9 4 <|
 .m 9 5 <|
 .m 10 1 <|
 .x 11 (.lenV (.v 10)) <|
 .x 12 (.bin .lss (.v 9) (.v 11)) .done) K145_24) K145_23
abbrev K145_26:C:=.block 0 (.loop 9 [2,6,7,8] K145_25)
abbrev K145_27:C:=.seq (.seq (.pl <| .e 9 0 <|
 .x 5 (.mv (.c (.int .i64 0))) .done) K145_26) K145_17
abbrev K145_28:Pl:=.m 4 9 .done
abbrev K145_29:C:=.seq (.pl <| .e 9 1 <|
 .c 9 (.bls 1 0 [.int .i64 0] []) K145_28) K145_27
abbrev K145_30:Pl:=.m 3 11 .done
abbrev K145_31:C:=.seq (.pl <| .e 9 3 <|
 .m 9 0 <|
 .x 10 (.lenV (.v 9)) <|
 .c 11 (.mks 1 1 [.bool false] (.v 10) (.v 10)) K145_30) K145_29
abbrev B_spec_l7Reach:C:=.seq (.pl <| .e 9 0 <|
 .x 2 (.mv (.c (.slice none 0 0))) .done) K145_31
def R_spec_l7Reach:FIR:=⟨B_spec_l7Reach,9,[(2,none)]⟩
theorem IR_spec_l7Reach:cfun Tryz.prog H_spec_l7Reach Tryz.f145=some R_spec_l7Reach:=by kernel_rfl
theorem EN_spec_l7Reach:ENT Tryz.prog B_spec_l7Reach [(2,none)] 2 9 fn_spec_l7Reach:=fun hargs hw=>enter Tryz.func145 rfl IR_spec_l7Reach hargs hw
def H_spec_l7Untils:Hint:=⟨[(0,false),(2,false),(3,false),(4,false)],[[1]]⟩
abbrev K100_1:C:=.seq (.pl <| .e 4 1 <|
 .m 4 2 <|
 .m 1 4 .done) (.ret)
abbrev K100_2:C:=.pl <| .e 4 2 <|
 .m 4 3 <|
 .x 5 (.bin .add (.v 4) (.c (.int .i64 1))) <|
 .m 3 5 .done
abbrev K100_3:Pl:=.m 2 7 .done
abbrev K100_4:C:=.pl <| .e 4 4 <|
 .m 4 2 <|
 .m 5 3 <|
 .o (.psl 6 [.int .i64 0] [(0,1,.v 5)]) <|
 .c 7 (.app 8 1 [.int .i64 0] (.o (.v 4)) (.p 1 6)) K100_3
abbrev K100_5:C:=.cond 4 (.v 9) K100_4 (.skip)
abbrev K100_6:C:=.seq (.block 1 (.seq (.pl <| .e 4 6 <|
 .m 4 0 <|
 .m 5 3 <|
 .x 6 (.ia 3 (.v 4) (.v 5)) <|
 .x 7 (.fa 0 (.v 6)) <|
 .l 8 7 <|
 .x 9 (.bin .eql (.v 8) (.c (.int .i64 7))) .done) K100_5)) K100_2
abbrev K100_7:C:=.cond 4 (.v 7) (.skip) (.exit 0)
abbrev K100_8:C:=.seq (.seq (.pl <| .e 4 4 <|
 .m 4 3 <|
 .m 5 0 <|
 .x 6 (.lenV (.v 5)) <|
 .x 7 (.bin .lss (.v 4) (.v 6)) .done) K100_7) K100_6
abbrev K100_9:C:=.block 0 (.loop 4 [1] K100_8)
abbrev K100_10:C:=.seq (.seq (.pl <| .e 4 0 <|
 .x 3 (.mv (.c (.int .i64 0))) .done) K100_9) K100_1
abbrev K100_11:Pl:=.m 2 4 .done
abbrev K100_12:C:=.seq (.pl <| .e 4 1 <|
 .c 4 (.bls 1 0 [.int .i64 0] []) K100_11) K100_10
abbrev B_spec_l7Untils:C:=.seq (.pl <| .e 4 0 <|
 .x 1 (.mv (.c (.slice none 0 0))) .done) K100_12
def R_spec_l7Untils:FIR:=⟨B_spec_l7Untils,4,[(1,none)]⟩
theorem IR_spec_l7Untils:cfun Tryz.prog H_spec_l7Untils Tryz.f100=some R_spec_l7Untils:=by kernel_rfl
theorem EN_spec_l7Untils:ENT Tryz.prog B_spec_l7Untils [(1,none)] 1 4 fn_spec_l7Untils:=fun hargs hw=>enter Tryz.func100 rfl IR_spec_l7Untils hargs hw
def H_spec_l7Value:Hint:=⟨[(0,false),(1,false),(2,false),(5,true),(6,false),(8,false)],[]⟩
abbrev K101_1:Pl:=.m 4 10 .done
abbrev K101_2:Pl:=.c 10 (.call fn_spec_l6Has [.v 6,.v 9]) K101_1
abbrev K101_3:C:=.seq (.pl <| .e 6 5 <|
 .m 6 1 <|
 .m 7 0 <|
 .o (.pget (some 8) none 3 0 (some 3)) <|
 .c 9 (.call fn_spec_l5Find [.v 7,.v 8]) K101_2) (.ret)
abbrev K101_4:C:=.seq (.pl <| .e 6 0 <|
 .x 4 (.mv (.c (.bool true))) .done) (.ret)
abbrev K101_5:Pl:=.x 13 (.un .not (.v 12)) <|
 .m 4 13 .done
abbrev K101_6:C:=.seq (.pl <| .e 6 8 <|
 .m 6 0 <|
 .m 7 1 <|
 .a 8 3 <|
 .g 9 8 3 2 <|
 .x 10 (.ia 3 (.v 9) (.c (.int .i64 0))) <|
 .o (.ld (some 11) (.v 10) (some 3)) <|
 .c 12 (.call fn_spec_l7Value [.v 6,.v 7,.v 11]) K101_5) (.ret)
abbrev K101_7:Pl:=.x 21 (.pick (.v 13) (.v 20) (.c (.bool false))) <|
 .m 4 21 .done
abbrev K101_8:Pl:=.m 13 12 <|
 .y 13 (.px (some 14) (.mv (.v 0))) <|
 .y 13 (.px (some 15) (.mv (.v 1))) <|
 .y 13 (.als 16 none 3) <|
 .y 13 (.pget (some 17) (some 16) 3 2 none) <|
 .y 13 (.px (some 18) (.ia 3 (.v 17) (.c (.int .i64 1)))) <|
 .y 13 (.ld (some 19) (.v 18) (some 3)) <|
 .st (.act (some (.v 13,true)) (.ex (some 20) (.call fn_spec_l7Value [.v 14,.v 15,.v 19]))) K101_7
abbrev K101_9:C:=.seq (.pl <| .e 6 16 <|
 .m 6 0 <|
 .m 7 1 <|
 .a 8 3 <|
 .g 9 8 3 2 <|
 .x 10 (.ia 3 (.v 9) (.c (.int .i64 0))) <|
 .o (.ld (some 11) (.v 10) (some 3)) <|
 .c 12 (.call fn_spec_l7Value [.v 6,.v 7,.v 11]) K101_8) (.ret)
abbrev K101_10:Pl:=.x 21 (.pick (.v 13) (.c (.bool true)) (.v 20)) <|
 .m 4 21 .done
abbrev K101_11:Pl:=.m 13 12 <|
 .n 13 (.px (some 14) (.mv (.v 0))) <|
 .n 13 (.px (some 15) (.mv (.v 1))) <|
 .n 13 (.als 16 none 3) <|
 .n 13 (.pget (some 17) (some 16) 3 2 none) <|
 .n 13 (.px (some 18) (.ia 3 (.v 17) (.c (.int .i64 1)))) <|
 .n 13 (.ld (some 19) (.v 18) (some 3)) <|
 .st (.act (some (.v 13,false)) (.ex (some 20) (.call fn_spec_l7Value [.v 14,.v 15,.v 19]))) K101_10
abbrev K101_12:C:=.seq (.pl <| .e 6 16 <|
 .m 6 0 <|
 .m 7 1 <|
 .a 8 3 <|
 .g 9 8 3 2 <|
 .x 10 (.ia 3 (.v 9) (.c (.int .i64 0))) <|
 .o (.ld (some 11) (.v 10) (some 3)) <|
 .c 12 (.call fn_spec_l7Value [.v 6,.v 7,.v 11]) K101_11) (.ret)
abbrev K101_13:C:=.cond 6 (.v 7) K101_12 (.skip)
abbrev K101_14:C:=.seq (.pl <| .e 6 2 <|
 .x 6 (.bin .eql (.v 5) (.c (.int .i64 5))) <|
 .m 7 6 .done) K101_13
abbrev K101_15:C:=.cond 6 (.v 7) K101_9 K101_14
abbrev K101_16:C:=.seq (.pl <| .e 6 2 <|
 .x 6 (.bin .eql (.v 5) (.c (.int .i64 4))) <|
 .m 7 6 .done) K101_15
abbrev K101_17:C:=.cond 6 (.v 7) K101_6 K101_16
abbrev K101_18:C:=.seq (.pl <| .e 6 2 <|
 .x 6 (.bin .eql (.v 5) (.c (.int .i64 3))) <|
 .m 7 6 .done) K101_17
abbrev K101_19:C:=.cond 6 (.v 7) K101_4 K101_18
abbrev K101_20:C:=.block 0 (.seq (.pl <| .e 6 2 <|
 .x 6 (.bin .eql (.v 5) (.c (.int .i64 1))) <|
 .m 7 6 .done) K101_19)
abbrev K101_21:C:=.seq (.seq (.pl <| .e 6 1 <|
 .a 6 3 <|
 .g 5 6 3 0 .done) K101_20) K101_3
abbrev B_spec_l7Value:C:=.seq (.pl <| .e 6 0 <|
 .o (.pnew 3 (.v 2) []) <|
 .x 4 (.mv (.c (.bool false))) .done) K101_21
def R_spec_l7Value:FIR:=⟨B_spec_l7Value,6,[(4,none)]⟩
theorem IR_spec_l7Value:cfun Tryz.prog H_spec_l7Value Tryz.f101=some R_spec_l7Value:=by kernel_rfl
theorem EN_spec_l7Value:ENT Tryz.prog B_spec_l7Value [(4,none)] 3 6 fn_spec_l7Value:=fun hargs hw=>enter Tryz.func101 rfl IR_spec_l7Value hargs hw
def H_spec_l8Negation:Hint:=⟨[(0,false),(1,true),(2,true),(3,false),(4,true),(5,false)],[]⟩
abbrev K56_1:Pl:=.x 8 (.extract 0 (.v 7)) <|
 .x 9 (.extract 1 (.v 7)) <|
 .o (.pset none 2 0 3 (.v 8)) <|
 .m 3 9 .done
abbrev K56_2:C:=.seq (.pl <| .e 6 4 <|
 .o (.pget (some 6) none 4 0 (some 3)) <|
 .c 7 (.call fn_spec_TranslateFormula [.v 6]) K56_1) (.ret)
abbrev K56_3:C:=.seq (.pl <| .e 6 1 <|
 .x 6 (.build [.slice none 0 0,.slice none 0 0,.slice none 0 0] []) <|
 .o (.pset none 2 0 3 (.v 6)) <|
 .x 3 (.mv (.c (.bool false))) .done) (.ret)
abbrev K56_4:C:=.cond 6 (.v 7) K56_3 (.skip)
abbrev K56_5:C:=.seq (.seq (.pl <| .e 6 2 <|
 .m 6 5 <|
 .x 7 (.un .not (.v 6)) .done) K56_4) K56_2
abbrev K56_6:Pl:=.m 8 7 <|
 .x 9 (.extract 0 (.v 8)) <|
 .x 10 (.extract 1 (.v 8)) <|
 .o (.pnew 4 (.c (.agg #[.int .i64 0,.int .i64 0,.slice none 0 0])) []) <|
 .o (.pset none 4 0 3 (.v 9)) <|
 .m 5 10 .done
abbrev K56_7:C:=.seq (.pl <| .e 6 5 <|
 .o (.pget (some 6) none 1 0 (some 3)) <|
 .c 7 (.call fn_spec_NegateFormula [.v 6]) K56_6) K56_5
abbrev B_spec_l8Negation:C:=.seq (.pl <| .e 6 0 <|
 .o (.pnew 1 (.v 0) []) <|
 .o (.pnew 2 (.c (.agg #[.slice none 0 0,.slice none 0 0,.slice none 0 0])) []) <|
 .x 3 (.mv (.c (.bool false))) .done) K56_7
def R_spec_l8Negation:FIR:=⟨B_spec_l8Negation,6,[(2,some (some 3)),(3,none)]⟩
theorem IR_spec_l8Negation:cfun Tryz.prog H_spec_l8Negation Tryz.f56=some R_spec_l8Negation:=by kernel_rfl
theorem EN_spec_l8Negation:ENT Tryz.prog B_spec_l8Negation [(2,some (some 3)),(3,none)] 1 6 fn_spec_l8Negation:=fun hargs hw=>enter Tryz.func56 rfl IR_spec_l8Negation hargs hw
def H_spec_MonitorFormula:Hint:=⟨[(0,false),(1,false),(2,true),(4,false),(5,true),(6,true),(7,false)],[]⟩
abbrev K14_1:Pl:=.m 3 10 .done
abbrev K14_2:C:=.seq (.pl <| .e 7 4 <|
 .o (.pget (some 7) none 4 0 (some 3)) <|
 .o (.pget (some 8) none 5 0 (some 3)) <|
 .m 9 1 <|
 .c 10 (.call fn_spec_l12Verdict [.v 7,.v 8,.v 9]) K14_1) (.ret)
abbrev K14_3:C:=.seq (.pl <| .e 7 0 <|
 .x 3 (.mv (.c (.int .i64 4))) .done) (.ret)
abbrev K14_4:C:=.cond 7 (.v 8) K14_3 (.skip)
abbrev K14_5:C:=.seq (.seq (.pl <| .e 7 2 <|
 .m 7 6 <|
 .x 8 (.un .not (.v 7)) .done) K14_4) K14_2
abbrev K14_6:Pl:=.m 9 8 <|
 .x 10 (.extract 0 (.v 9)) <|
 .x 11 (.extract 1 (.v 9)) <|
 .x 12 (.extract 2 (.v 9)) <|
 .o (.pnew 4 (.c (.agg #[.slice none 0 0,.slice none 0 0,.slice none 0 0])) []) <|
 .o (.pnew 5 (.c (.agg #[.slice none 0 0,.slice none 0 0,.slice none 0 0])) []) <|
 .o (.pset none 4 0 3 (.v 10)) <|
 .o (.pset none 5 0 3 (.v 11)) <|
 .m 6 12 .done
abbrev K14_7:C:=.seq (.pl <| .e 7 6 <|
 .o (.pget (some 7) none 2 0 (some 3)) <|
 .c 8 (.call fn_spec_l12Both [.v 7]) K14_6) K14_5
abbrev K14_8:C:=.seq (.pl <| .e 7 0 <|
 .x 3 (.mv (.c (.int .i64 3))) .done) (.ret)
abbrev K14_9:C:=.cond 7 (.v 14) K14_8 (.skip)
abbrev K14_10:Pl:=.n 10 (.px (some 13) (.un .not (.v 12))) <|
 .x 14 (.pick (.v 10) (.c (.bool true)) (.v 13)) .done
abbrev K14_11:Pl:=.x 9 (.un .not (.v 8)) <|
 .m 10 9 <|
 .n 10 (.px (some 11) (.mv (.v 1))) <|
 .st (.act (some (.v 10,false)) (.ex (some 12) (.call fn_spec_l12Word [.v 11]))) K14_10
abbrev K14_12:C:=.seq (.seq (.pl <| .e 7 8 <|
 .o (.pget (some 7) none 2 0 (some 3)) <|
 .c 8 (.call fn_spec_FormulaValid [.v 7]) K14_11) K14_9) K14_7
abbrev B_spec_MonitorFormula:C:=.seq (.pl <| .e 7 0 <|
 .o (.pnew 2 (.v 0) []) <|
 .x 3 (.mv (.c (.int .i64 0))) .done) K14_12
def R_spec_MonitorFormula:FIR:=⟨B_spec_MonitorFormula,7,[(3,none)]⟩
theorem IR_spec_MonitorFormula:cfun Tryz.prog H_spec_MonitorFormula Tryz.f14=some R_spec_MonitorFormula:=by kernel_rfl
theorem EN_spec_MonitorFormula:ENT Tryz.prog B_spec_MonitorFormula [(3,none)] 2 7 fn_spec_MonitorFormula:=fun hargs hw=>enter Tryz.func14 rfl IR_spec_MonitorFormula hargs hw
def H_impl_basics:Hint:=⟨[(0,false),(1,true),(2,false),(3,false),(5,true),(7,false),(8,false),(9,false)],[[0,1,2,4]]⟩
abbrev K77_1:Pl:=.m 2 9 .done
abbrev K77_2:C:=.seq (.pl <| .e 8 2 <|
 .m 8 3 <|
 .c 9 (.call fn_slices_Clip_S_impl_Formula_impl_Formula [.v 8]) K77_1) (.ret)
abbrev K77_3:C:=.pl <| .e 8 1 <|
 .x 8 (.bin .add (.v 7) (.c (.int .i64 1))) <|
 .m 7 8 .done
abbrev K77_4:Pl:=.m 3 11 .done
abbrev K77_5:C:=.pl <| .e 8 4 <|
 .m 8 3 <|
 .o (.pget (some 9) none 4 0 (some 3)) <|
 .o (.psl 10 [.int .i64 0,.int .i64 0,.slice none 0 0] [(0,3,.v 9)]) <|
 .c 11 (.app 40 3 [.int .i64 0,.int .i64 0,.slice none 0 0] (.o (.v 8)) (.p 1 10)) K77_4
abbrev K77_6:C:=.cond 8 (.v 25) K77_5 (.skip)
abbrev K77_7:C:=.seq (.pl <| .e 8 18 <|
 .a 8 4 <|
 .g 9 8 4 0 <|
 .x 10 (.bin .eql (.v 9) (.c (.int .i64 2))) <|
 .m 11 10 <|
 .n 11 (.als 12 none 4) <|
 .n 11 (.pget (some 13) (some 12) 4 0 none) <|
 .n 11 (.px (some 14) (.bin .eql (.v 13) (.c (.int .i64 6)))) <|
 .x 15 (.pick (.v 11) (.c (.bool true)) (.v 14)) <|
 .m 16 15 <|
 .n 16 (.als 17 none 4) <|
 .n 16 (.pget (some 18) (some 17) 4 0 none) <|
 .n 16 (.px (some 19) (.bin .eql (.v 18) (.c (.int .i64 7)))) <|
 .x 20 (.pick (.v 16) (.c (.bool true)) (.v 19)) <|
 .m 21 20 <|
 .n 21 (.als 22 none 4) <|
 .n 21 (.pget (some 23) (some 22) 4 0 none) <|
 .n 21 (.px (some 24) (.bin .eql (.v 23) (.c (.int .i64 8)))) <|
 .x 25 (.pick (.v 21) (.c (.bool true)) (.v 24)) .done) K77_6
abbrev K77_8:C:=.seq (.block 1 (.seq (.pl <| .e 8 2 <|
 .x 8 (.ia 3 (.v 5) (.v 7)) <|
 .o (.ld (some 9) (.v 8) (some 3)) <|
 .o (.pnew 4 (.c (.agg #[.int .i64 0,.int .i64 0,.slice none 0 0])) []) <|
 .o (.pset none 4 0 3 (.v 9)) .done) K77_7)) K77_3
abbrev K77_9:C:=.seq (.cond 8 (.v 8) (.skip) (.exit 0)) K77_8
abbrev K77_10:C:=.seq (.pl <| .e 8 1 <|
 .x 8 (.bin .lss (.v 7) (.v 6)) .done) K77_9
abbrev K77_11:C:=.block 0 (.loop 8 [0,1,2,4] K77_10)
abbrev K77_12:Pl:=.x 6 (.lenV (.v 5)) <|
 .x 7 (.mv (.c (.int .i64 0))) .done
abbrev K77_13:C:=.seq (.seq (.pl <| .e 8 1 <|
 .o (.pget (some 8) none 1 0 (some 3)) <|
 .c 5 (.call fn_impl_Formula_subformulas [.v 8]) K77_12) K77_11) K77_2
abbrev K77_14:C:=.seq (.pl <| .e 8 0 <|
 .x 3 (.mv (.c (.slice none 0 0))) .done) K77_13
abbrev B_impl_basics:C:=.seq (.pl <| .e 8 0 <|
 .o (.pnew 1 (.v 0) []) <|
 .x 2 (.mv (.c (.slice none 0 0))) .done) K77_14
def R_impl_basics:FIR:=⟨B_impl_basics,8,[(2,none)]⟩
theorem IR_impl_basics:cfun Tryz.prog H_impl_basics Tryz.f77=some R_impl_basics:=by kernel_rfl
theorem EN_impl_basics:ENT Tryz.prog B_impl_basics [(2,none)] 1 8 fn_impl_basics:=fun hargs hw=>enter Tryz.func77 rfl IR_impl_basics hargs hw
def H_impl_clone_bool:Hint:=⟨[(0,false),(2,false)],[]⟩
abbrev K123_1:Pl:=.m 1 4 .done
abbrev K123_2:Pl:=.c 4 (.call fn_slices_Clip_S_bool_bool [.v 3]) K123_1
abbrev K123_3:C:=.seq (.pl <| .e 2 3 <|
 .m 2 0 <|
 .c 3 (.call fn_slices_Clone_S_bool_bool [.v 2]) K123_2) (.ret)
abbrev B_impl_clone_bool:C:=.seq (.pl <| .e 2 0 <|
 .x 1 (.mv (.c (.slice none 0 0))) .done) K123_3
def R_impl_clone_bool:FIR:=⟨B_impl_clone_bool,2,[(1,none)]⟩
theorem IR_impl_clone_bool:cfun Tryz.prog H_impl_clone_bool Tryz.f123=some R_impl_clone_bool:=by kernel_rfl
theorem EN_impl_clone_bool:ENT Tryz.prog B_impl_clone_bool [(1,none)] 1 2 fn_impl_clone_bool:=fun hargs hw=>enter Tryz.func123 rfl IR_impl_clone_bool hargs hw
def H_impl_clone_impl_Formula:Hint:=⟨[(0,false),(2,false)],[]⟩
abbrev K113_1:Pl:=.m 1 4 .done
abbrev K113_2:Pl:=.c 4 (.call fn_slices_Clip_S_impl_Formula_impl_Formula [.v 3]) K113_1
abbrev K113_3:C:=.seq (.pl <| .e 2 3 <|
 .m 2 0 <|
 .c 3 (.call fn_slices_Clone_S_impl_Formula_impl_Formula [.v 2]) K113_2) (.ret)
abbrev B_impl_clone_impl_Formula:C:=.seq (.pl <| .e 2 0 <|
 .x 1 (.mv (.c (.slice none 0 0))) .done) K113_3
def R_impl_clone_impl_Formula:FIR:=⟨B_impl_clone_impl_Formula,2,[(1,none)]⟩
theorem IR_impl_clone_impl_Formula:cfun Tryz.prog H_impl_clone_impl_Formula Tryz.f113=some R_impl_clone_impl_Formula:=by kernel_rfl
theorem EN_impl_clone_impl_Formula:ENT Tryz.prog B_impl_clone_impl_Formula [(1,none)] 1 2 fn_impl_clone_impl_Formula:=fun hargs hw=>enter Tryz.func113 rfl IR_impl_clone_impl_Formula hargs hw
def H_impl_clone_impl_Transition:Hint:=⟨[(0,false),(2,false)],[]⟩
abbrev K124_1:Pl:=.m 1 4 .done
abbrev K124_2:Pl:=.c 4 (.call fn_slices_Clip_S_impl_Transition_impl_Transition [.v 3]) K124_1
abbrev K124_3:C:=.seq (.pl <| .e 2 3 <|
 .m 2 0 <|
 .c 3 (.call fn_slices_Clone_S_impl_Transition_impl_Transition [.v 2]) K124_2) (.ret)
abbrev B_impl_clone_impl_Transition:C:=.seq (.pl <| .e 2 0 <|
 .x 1 (.mv (.c (.slice none 0 0))) .done) K124_3
def R_impl_clone_impl_Transition:FIR:=⟨B_impl_clone_impl_Transition,2,[(1,none)]⟩
theorem IR_impl_clone_impl_Transition:cfun Tryz.prog H_impl_clone_impl_Transition Tryz.f124=some R_impl_clone_impl_Transition:=by kernel_rfl
theorem EN_impl_clone_impl_Transition:ENT Tryz.prog B_impl_clone_impl_Transition [(1,none)] 1 2 fn_impl_clone_impl_Transition:=fun hargs hw=>enter Tryz.func124 rfl IR_impl_clone_impl_Transition hargs hw
def H_impl_clone_int:Hint:=⟨[(0,false),(2,false)],[]⟩
abbrev K90_1:Pl:=.m 1 4 .done
abbrev K90_2:Pl:=.c 4 (.call fn_slices_Clip_S_int_int [.v 3]) K90_1
abbrev K90_3:C:=.seq (.pl <| .e 2 3 <|
 .m 2 0 <|
 .c 3 (.call fn_slices_Clone_S_int_int [.v 2]) K90_2) (.ret)
abbrev B_impl_clone_int:C:=.seq (.pl <| .e 2 0 <|
 .x 1 (.mv (.c (.slice none 0 0))) .done) K90_3
def R_impl_clone_int:FIR:=⟨B_impl_clone_int,2,[(1,none)]⟩
theorem IR_impl_clone_int:cfun Tryz.prog H_impl_clone_int Tryz.f90=some R_impl_clone_int:=by kernel_rfl
theorem EN_impl_clone_int:ENT Tryz.prog B_impl_clone_int [(1,none)] 1 2 fn_impl_clone_int:=fun hargs hw=>enter Tryz.func90 rfl IR_impl_clone_int hargs hw
def H_impl_components:Hint:=⟨[(0,false),(1,false),(2,false),(3,false),(4,false),(5,false),(6,false),(7,false),(8,false),(9,false),(10,false),(11,false),(12,false),(13,false),(14,false),(15,false),(17,false),(27,false),(28,false),(36,false),(37,false),(50,false),(51,false),(52,false)],[[0,2,7,8,9,10,11,12,13,14,15,16,19,20,21,22,23],[0,1,2,3,5,7,8,9,10,12,13,14,15,16,17,18,21,22,23],[0,1,2,3,4,5,7,8,9,10,11,12,14,15,16,17,18,19,20]]⟩
abbrev K133_1:C:=.seq (.pl <| .e 24 1 <|
 .l 24 6 <|
 .m 2 24 .done) (.ret)
abbrev K133_2:C:=.pl <| .e 24 1 <|
 .x 24 (.bin .add (.v 23) (.c (.int .i64 1))) <|
 .m 23 24 .done
abbrev K133_3:Pl:=.x 29 (.ia 1 (.v 24) (.v 25)) <|
 .o (.ex none (.store 1 (.v 29) (.v 28))) .done
abbrev K133_4:C:=.pl <| .e 24 6 <|
 .l 24 6 <|
 .m 25 14 <|
 .m 26 13 <|
 .m 27 15 <|
 .c 28 (.mget (.one .i) (.int .i64 0) false (.v 26) (.v 27)) K133_3
abbrev K133_5:Pl:=.o (.ex none (.mput (.one .i) (.v 24) (.v 25) (.v 27))) .done
abbrev K133_6:C:=.pl <| .e 24 4 <|
 .m 24 13 <|
 .m 25 15 <|
 .m 26 13 <|
 .c 27 (.mlen (.v 26)) K133_5
abbrev K133_7:C:=.cond 24 (.v 25) K133_6 (.skip)
abbrev K133_8:C:=.seq (.pl <| .e 24 2 <|
 .m 24 16 <|
 .x 25 (.un .not (.v 24)) .done) K133_7
abbrev K133_9:Pl:=.m 27 26 <|
 .x 28 (.extract 0 (.v 27)) <|
 .x 29 (.extract 1 (.v 27)) <|
 .m 30 28 <|
 .m 16 29 .done
abbrev K133_10:C:=.seq (.seq (.pl <| .e 24 7 <|
 .m 24 13 <|
 .m 25 15 <|
 .c 26 (.mget (.one .i) (.int .i64 0) true (.v 24) (.v 25)) K133_9) K133_8) K133_4
abbrev K133_11:C:=.seq (.block 5 (.seq (.pl <| .e 24 3 <|
 .m 24 23 <|
 .x 25 (.ia 1 (.v 21) (.v 23)) <|
 .l 26 25 <|
 .m 14 24 <|
 .m 15 26 .done) K133_10)) K133_2
abbrev K133_12:C:=.seq (.cond 24 (.v 24) (.skip) (.exit 4)) K133_11
abbrev K133_13:C:=.seq (.pl <| .e 24 1 <|
 .x 24 (.bin .lss (.v 23) (.v 22)) .done) K133_12
abbrev K133_14:C:=.block 4 (.loop 24 [0,1,2,3,4,5,7,8,9,10,11,12,14,15,16,17,18,19,20] K133_13)
abbrev K133_15:C:=.seq (.seq (.pl <| .e 24 0 <|
 .l 21 6 <|
 .x 22 (.lenV (.v 21)) <|
 .x 23 (.mv (.c (.int .i64 0))) .done) K133_14) K133_1
abbrev K133_16:Pl:=.m 13 24 .done
abbrev K133_17:C:=.seq (.pl <| .e 24 1 <|
 .c 24 (.mkm) K133_16) K133_15
abbrev K133_18:C:=.pl <| .e 24 1 <|
 .x 24 (.bin .add (.v 20) (.c (.int .i64 1))) <|
 .m 20 24 .done
abbrev K133_19:C:=.pl <| .e 24 3 <|
 .l 24 11 <|
 .m 25 12 <|
 .c 26 (.callv (.v 24) [.v 25]) .done
abbrev K133_20:C:=.cond 24 (.v 28) K133_19 (.skip)
abbrev K133_21:C:=.seq (.pl <| .e 24 5 <|
 .l 24 4 <|
 .m 25 12 <|
 .x 26 (.ia 1 (.v 24) (.v 25)) <|
 .l 27 26 <|
 .x 28 (.bin .eql (.v 27) (.c (.int .i64 0))) .done) K133_20
abbrev K133_22:C:=.seq (.block 3 (.seq (.pl <| .e 24 1 <|
 .m 24 20 <|
 .m 12 24 .done) K133_21)) K133_18
abbrev K133_23:C:=.seq (.cond 24 (.v 24) (.skip) (.exit 2)) K133_22
abbrev K133_24:C:=.seq (.pl <| .e 24 1 <|
 .x 24 (.bin .lss (.v 20) (.v 19)) .done) K133_23
abbrev K133_25:C:=.block 2 (.loop 24 [0,1,2,3,5,7,8,9,10,12,13,14,15,16,17,18,21,22,23] K133_24)
abbrev K133_26:C:=.seq (.seq (.pl <| .e 24 0 <|
 .m 19 3 <|
 .x 20 (.mv (.c (.int .i64 0))) .done) K133_25) K133_17
abbrev K133_27:C:=.seq (.pl <| .e 24 1 <|
 .x 24 (.mkf (.func fn_impl_components_1) [] [.v 9,.v 4,.v 5,.v 8,.v 1,.v 11,.v 6,.v 10]) <|
 .o (.ex none (.store 1 (.v 11) (.v 24))) .done) K133_26
abbrev K133_28:C:=.seq (.pl <| .e 24 0 <|
 .c 11 (.alloc (.c (.nilFunc))) .done) K133_27
abbrev K133_29:Pl:=.o (.ex none (.store 1 (.v 10) (.c (.int .i64 0)))) .done
abbrev K133_30:Pl:=.o (.ex none (.store 1 (.v 9) (.c (.int .i64 0)))) K133_29
abbrev K133_31:Pl:=.c 10 (.alloc (.c (.int .i64 0))) K133_30
abbrev K133_32:C:=.seq (.pl <| .e 24 0 <|
 .c 9 (.alloc (.c (.int .i64 0))) K133_31) K133_28
abbrev K133_33:C:=.seq (.pl <| .e 24 0 <|
 .c 8 (.alloc (.c (.slice none 0 0))) .done) K133_32
abbrev K133_34:C:=.pl <| .e 24 1 <|
 .x 24 (.bin .add (.v 18) (.c (.int .i64 1))) <|
 .m 18 24 .done
abbrev K133_35:C:=.pl <| .e 24 3 <|
 .l 24 6 <|
 .m 25 7 <|
 .x 26 (.ia 1 (.v 24) (.v 25)) <|
 .o (.ex none (.store 1 (.v 26) (.c (.int .i64 (-1))))) .done
abbrev K133_36:C:=.seq (.block 1 (.seq (.pl <| .e 24 1 <|
 .m 24 18 <|
 .m 7 24 .done) K133_35)) K133_34
abbrev K133_37:C:=.seq (.cond 24 (.v 24) (.skip) (.exit 0)) K133_36
abbrev K133_38:C:=.seq (.pl <| .e 24 1 <|
 .x 24 (.bin .lss (.v 18) (.v 17)) .done) K133_37
abbrev K133_39:C:=.block 0 (.loop 24 [0,2,7,8,9,10,11,12,13,14,15,16,19,20,21,22,23] K133_38)
abbrev K133_40:C:=.seq (.seq (.pl <| .e 24 1 <|
 .l 24 6 <|
 .x 17 (.lenV (.v 24)) <|
 .x 18 (.mv (.c (.int .i64 0))) .done) K133_39) K133_33
abbrev K133_41:Pl:=.o (.ex none (.store 1 (.v 6) (.v 29))) .done
abbrev K133_42:Pl:=.o (.ex none (.store 1 (.v 5) (.v 27))) K133_41
abbrev K133_43:Pl:=.o (.ex none (.store 1 (.v 4) (.v 25))) K133_42
abbrev K133_44:Pl:=.c 6 (.alloc (.c (.slice none 0 0))) K133_43
abbrev K133_45:Pl:=.c 5 (.alloc (.c (.slice none 0 0))) K133_44
abbrev K133_46:Pl:=.c 4 (.alloc (.c (.slice none 0 0))) K133_45
abbrev K133_47:Pl:=.m 28 3 <|
 .c 29 (.mks 8 1 [.int .i64 0] (.v 28) (.v 28)) K133_46
abbrev K133_48:Pl:=.m 26 3 <|
 .c 27 (.mks 8 1 [.int .i64 0] (.v 26) (.v 26)) K133_47
abbrev K133_49:C:=.seq (.pl <| .e 24 6 <|
 .m 24 3 <|
 .c 25 (.mks 8 1 [.int .i64 0] (.v 24) (.v 24)) K133_48) K133_40
abbrev K133_50:C:=.seq (.pl <| .e 24 2 <|
 .l 24 1 <|
 .x 25 (.lenV (.v 24)) <|
 .m 3 25 .done) K133_49
abbrev K133_51:Pl:=.x 2 (.mv (.c (.slice none 0 0))) .done
abbrev B_impl_components:C:=.seq (.pl <| .e 24 0 <|
 .c 1 (.alloc (.v 0)) K133_51) K133_50
def R_impl_components:FIR:=⟨B_impl_components,24,[(2,none)]⟩
theorem IR_impl_components:cfun Tryz.prog H_impl_components Tryz.f133=some R_impl_components:=by kernel_rfl
theorem EN_impl_components:ENT Tryz.prog B_impl_components [(2,none)] 1 24 fn_impl_components:=fun hargs hw=>enter Tryz.func133 rfl IR_impl_components hargs hw
def H_impl_components_1:Hint:=⟨[(0,false),(1,false),(2,false),(3,false),(4,false),(5,false),(6,false),(7,false),(8,false),(11,false),(12,false),(30,false),(31,false),(32,false)],[[1,5,9,10],[1,2,3,5,6,9,11,12,13]]⟩
abbrev K164_1:C:=.pl <| .e 14 2 <|
 .l 14 8 <|
 .x 15 (.bin .add (.v 14) (.c (.int .i64 1))) <|
 .o (.ex none (.store 1 (.v 8) (.v 15))) .done
abbrev K164_2:C:=.pl <| .e 14 4 <|
 .l 14 7 <|
 .m 15 10 <|
 .l 16 8 <|
 .x 17 (.ia 1 (.v 14) (.v 15)) <|
 .o (.ex none (.store 1 (.v 17) (.v 16))) .done
abbrev K164_3:C:=.seq (.pl <| .e 14 5 <|
 .l 14 4 <|
 .l 15 4 <|
 .x 16 (.lenV (.v 15)) <|
 .x 17 (.bin .sub (.v 16) (.c (.int .i64 1))) <|
 .x 18 (.sliceV 1 (.v 14) none (some (.v 17)) none) <|
 .o (.ex none (.store 1 (.v 4) (.v 18))) .done) K164_2
abbrev K164_4:C:=.block 4 (.seq (.pl <| .e 14 6 <|
 .l 14 4 <|
 .l 15 4 <|
 .x 16 (.lenV (.v 15)) <|
 .x 17 (.bin .sub (.v 16) (.c (.int .i64 1))) <|
 .x 18 (.ia 1 (.v 14) (.v 17)) <|
 .l 19 18 <|
 .m 10 19 .done) K164_3)
abbrev K164_5:C:=.cond 14 (.v 16) (.skip) (.exit 3)
abbrev K164_6:C:=.seq (.seq (.pl <| .e 14 3 <|
 .m 14 10 <|
 .m 15 0 <|
 .x 16 (.bin .neq (.v 14) (.v 15)) .done) K164_5) K164_4
abbrev K164_7:C:=.block 3 (.loop 14 [1,2,3,5,6,9,11,12,13] K164_6)
abbrev K164_8:C:=.seq (.seq (.pl <| .e 14 0 <|
 .x 10 (.mv (.c (.int .i64 (-1)))) .done) K164_7) K164_1
abbrev K164_9:C:=.cond 14 (.v 22) K164_8 (.skip)
abbrev K164_10:C:=.seq (.pl <| .e 14 9 <|
 .l 14 3 <|
 .m 15 0 <|
 .x 16 (.ia 1 (.v 14) (.v 15)) <|
 .l 17 16 <|
 .l 18 2 <|
 .m 19 0 <|
 .x 20 (.ia 1 (.v 18) (.v 19)) <|
 .l 21 20 <|
 .x 22 (.bin .eql (.v 17) (.v 21)) .done) K164_9
abbrev K164_11:C:=.pl <| .e 14 1 <|
 .x 14 (.bin .add (.v 13) (.c (.int .i64 1))) <|
 .m 13 14 .done
abbrev K164_12:C:=.pl <| .e 14 12 <|
 .l 14 3 <|
 .m 15 0 <|
 .l 16 3 <|
 .m 17 0 <|
 .x 18 (.ia 1 (.v 16) (.v 17)) <|
 .l 19 18 <|
 .l 20 3 <|
 .m 21 9 <|
 .x 22 (.ia 1 (.v 20) (.v 21)) <|
 .l 23 22 <|
 .x 24 (.minI (.v 19) (.v 23)) <|
 .x 25 (.ia 1 (.v 14) (.v 15)) <|
 .o (.ex none (.store 1 (.v 25) (.v 24))) .done
abbrev K164_13:C:=.seq (.pl <| .e 14 3 <|
 .l 14 6 <|
 .m 15 9 <|
 .c 16 (.callv (.v 14) [.v 15]) .done) K164_12
abbrev K164_14:C:=.pl <| .e 14 12 <|
 .l 14 3 <|
 .m 15 0 <|
 .l 16 3 <|
 .m 17 0 <|
 .x 18 (.ia 1 (.v 16) (.v 17)) <|
 .l 19 18 <|
 .l 20 2 <|
 .m 21 9 <|
 .x 22 (.ia 1 (.v 20) (.v 21)) <|
 .l 23 22 <|
 .x 24 (.minI (.v 19) (.v 23)) <|
 .x 25 (.ia 1 (.v 14) (.v 15)) <|
 .o (.ex none (.store 1 (.v 25) (.v 24))) .done
abbrev K164_15:C:=.cond 14 (.v 19) K164_14 (.skip)
abbrev K164_16:C:=.seq (.pl <| .e 14 6 <|
 .l 14 7 <|
 .m 15 9 <|
 .x 16 (.ia 1 (.v 14) (.v 15)) <|
 .l 17 16 <|
 .x 18 (.bin .lss (.v 17) (.c (.int .i64 0))) <|
 .m 19 18 .done) K164_15
abbrev K164_17:C:=.cond 14 (.v 19) K164_13 K164_16
abbrev K164_18:C:=.block 2 (.seq (.pl <| .e 14 6 <|
 .l 14 2 <|
 .m 15 9 <|
 .x 16 (.ia 1 (.v 14) (.v 15)) <|
 .l 17 16 <|
 .x 18 (.bin .eql (.v 17) (.c (.int .i64 0))) <|
 .m 19 18 .done) K164_17)
abbrev K164_19:C:=.seq (.block 1 (.seq (.pl <| .e 14 2 <|
 .x 14 (.ia 1 (.v 11) (.v 13)) <|
 .l 15 14 <|
 .m 9 15 .done) K164_18)) K164_11
abbrev K164_20:C:=.seq (.cond 14 (.v 14) (.skip) (.exit 0)) K164_19
abbrev K164_21:C:=.seq (.pl <| .e 14 1 <|
 .x 14 (.bin .lss (.v 13) (.v 12)) .done) K164_20
abbrev K164_22:C:=.block 0 (.loop 14 [1,5,9,10] K164_21)
abbrev K164_23:C:=.seq (.seq (.pl <| .e 14 3 <|
 .l 14 5 <|
 .m 15 0 <|
 .x 16 (.ia 1 (.v 14) (.v 15)) <|
 .l 11 16 <|
 .x 12 (.lenV (.v 11)) <|
 .x 13 (.mv (.c (.int .i64 0))) .done) K164_22) K164_10
abbrev K164_24:Pl:=.o (.ex none (.store 1 (.v 4) (.v 17))) .done
abbrev K164_25:C:=.seq (.pl <| .e 14 4 <|
 .l 14 4 <|
 .m 15 0 <|
 .o (.psl 16 [.int .i64 0] [(0,1,.v 15)]) <|
 .c 17 (.app 8 1 [.int .i64 0] (.o (.v 14)) (.p 1 16)) K164_24) K164_23
abbrev K164_26:Pl:=.st (.re 16 (.v 3) none none) <|
 .st (.re 19 (.v 1) none none) <|
 .x 21 (.ia 1 (.v 16) (.v 17)) <|
 .o (.ex none (.store 1 (.v 21) (.v 19))) .done
abbrev K164_27:C:=.seq (.pl <| .e 14 8 <|
 .l 14 2 <|
 .m 15 0 <|
 .l 16 3 <|
 .m 17 0 <|
 .l 18 1 <|
 .l 19 1 <|
 .x 20 (.ia 1 (.v 14) (.v 15)) <|
 .o (.ex none (.store 1 (.v 20) (.v 18))) K164_26) K164_25
abbrev B_impl_components_1:C:=.seq (.pl <| .e 14 2 <|
 .l 14 1 <|
 .x 15 (.bin .add (.v 14) (.c (.int .i64 1))) <|
 .o (.ex none (.store 1 (.v 1) (.v 15))) .done) K164_27
def R_impl_components_1:FIR:=⟨B_impl_components_1,14,[]⟩
theorem IR_impl_components_1:cfun Tryz.prog H_impl_components_1 Tryz.f164=some R_impl_components_1:=by kernel_rfl
theorem EN_impl_components_1:ENT Tryz.prog B_impl_components_1 [] 9 14 fn_impl_components_1:=fun hargs hw=>enter Tryz.func164 rfl IR_impl_components_1 hargs hw
def H_impl_cyclic:Hint:=⟨[(0,false),(2,false),(3,false),(4,false),(6,false),(7,false),(8,false),(14,false),(15,false),(16,false),(31,false),(32,false)],[[1,4,5,6,10,11],[1,4,6,7,8,9]]⟩
abbrev K93_1:C:=.seq (.pl <| .e 12 1 <|
 .m 12 5 <|
 .m 1 12 .done) (.ret)
abbrev K93_2:C:=.pl <| .e 12 1 <|
 .x 12 (.bin .add (.v 11) (.c (.int .i64 1))) <|
 .m 11 12 .done
abbrev K93_3:Pl:=.x 29 (.pick (.v 22) (.c (.bool true)) (.v 28)) <|
 .x 30 (.ia 1 (.v 12) (.v 13)) <|
 .o (.ex none (.store 1 (.v 30) (.v 29))) .done
abbrev K93_4:C:=.pl <| .e 12 19 <|
 .m 12 5 <|
 .m 13 6 <|
 .m 14 3 <|
 .m 15 2 <|
 .m 16 6 <|
 .x 17 (.ia 1 (.v 15) (.v 16)) <|
 .l 18 17 <|
 .x 19 (.ia 1 (.v 14) (.v 18)) <|
 .l 20 19 <|
 .x 21 (.bin .gtr (.v 20) (.c (.int .i64 1))) <|
 .m 22 21 <|
 .n 22 (.px (some 23) (.mv (.v 0))) <|
 .n 22 (.px (some 24) (.mv (.v 6))) <|
 .n 22 (.px (some 25) (.ia 1 (.v 23) (.v 24))) <|
 .n 22 (.ld (some 26) (.v 25) none) <|
 .n 22 (.px (some 27) (.mv (.v 6))) <|
 .st (.act (some (.v 22,false)) (.ex (some 28) (.call fn_slices_Contains_S_int_int [.v 26,.v 27]))) K93_3
abbrev K93_5:C:=.seq (.block 3 (.seq (.pl <| .e 12 1 <|
 .m 12 11 <|
 .m 6 12 .done) K93_4)) K93_2
abbrev K93_6:C:=.seq (.cond 12 (.v 12) (.skip) (.exit 2)) K93_5
abbrev K93_7:C:=.seq (.pl <| .e 12 1 <|
 .x 12 (.bin .lss (.v 11) (.v 10)) .done) K93_6
abbrev K93_8:C:=.block 2 (.loop 12 [1,4,6,7,8,9] K93_7)
abbrev K93_9:C:=.seq (.seq (.pl <| .e 12 1 <|
 .m 12 0 <|
 .x 10 (.lenV (.v 12)) <|
 .x 11 (.mv (.c (.int .i64 0))) .done) K93_8) K93_1
abbrev K93_10:Pl:=.m 5 14 .done
abbrev K93_11:C:=.seq (.pl <| .e 12 3 <|
 .m 12 0 <|
 .x 13 (.lenV (.v 12)) <|
 .c 14 (.mks 1 1 [.bool false] (.v 13) (.v 13)) K93_10) K93_9
abbrev K93_12:C:=.pl <| .e 12 1 <|
 .x 12 (.bin .add (.v 9) (.c (.int .i64 1))) <|
 .m 9 12 .done
abbrev K93_13:C:=.pl <| .e 12 6 <|
 .m 12 3 <|
 .m 13 4 <|
 .x 14 (.ia 1 (.v 12) (.v 13)) <|
 .l 15 14 <|
 .x 16 (.bin .add (.v 15) (.c (.int .i64 1))) <|
 .x 17 (.ia 1 (.v 12) (.v 13)) <|
 .o (.ex none (.store 1 (.v 17) (.v 16))) .done
abbrev K93_14:C:=.seq (.block 1 (.seq (.pl <| .e 12 2 <|
 .x 12 (.ia 1 (.v 7) (.v 9)) <|
 .l 13 12 <|
 .m 4 13 .done) K93_13)) K93_12
abbrev K93_15:C:=.seq (.cond 12 (.v 12) (.skip) (.exit 0)) K93_14
abbrev K93_16:C:=.seq (.pl <| .e 12 1 <|
 .x 12 (.bin .lss (.v 9) (.v 8)) .done) K93_15
abbrev K93_17:C:=.block 0 (.loop 12 [1,4,5,6,10,11] K93_16)
abbrev K93_18:C:=.seq (.seq (.pl <| .e 12 0 <|
 .m 7 2 <|
 .x 8 (.lenV (.v 7)) <|
 .x 9 (.mv (.c (.int .i64 0))) .done) K93_17) K93_11
abbrev K93_19:Pl:=.m 3 14 .done
abbrev K93_20:C:=.seq (.pl <| .e 12 3 <|
 .m 12 0 <|
 .x 13 (.lenV (.v 12)) <|
 .c 14 (.mks 8 1 [.int .i64 0] (.v 13) (.v 13)) K93_19) K93_18
abbrev K93_21:Pl:=.m 2 13 .done
abbrev K93_22:C:=.seq (.pl <| .e 12 2 <|
 .m 12 0 <|
 .c 13 (.call fn_impl_components [.v 12]) K93_21) K93_20
abbrev B_impl_cyclic:C:=.seq (.pl <| .e 12 0 <|
 .x 1 (.mv (.c (.slice none 0 0))) .done) K93_22
def R_impl_cyclic:FIR:=⟨B_impl_cyclic,12,[(1,none)]⟩
theorem IR_impl_cyclic:cfun Tryz.prog H_impl_cyclic Tryz.f93=some R_impl_cyclic:=by kernel_rfl
theorem EN_impl_cyclic:ENT Tryz.prog B_impl_cyclic [(1,none)] 1 12 fn_impl_cyclic:=fun hargs hw=>enter Tryz.func93 rfl IR_impl_cyclic hargs hw
def H_impl_explore_impl_phased:Hint:=⟨[(0,false),(1,false),(2,false),(6,true),(7,false),(8,true),(9,false),(10,false),(11,false),(13,true),(14,false),(16,true),(24,false),(25,false),(26,false),(70,false),(71,false),(72,false)],[[0,4,6,9,10,11,15,16,17],[0,4,6,9,11,12,13,14,15,16,17],[0,4,6,9,11,12,13,14]]⟩
abbrev K41_1:Pl:=.o (.pset none 3 0 3 (.v 19)) <|
 .x 4 (.mv (.c (.bool true))) .done
abbrev K41_2:C:=.seq (.pl <| .e 18 2 <|
 .o (.pget (some 18) none 5 0 (some 3)) <|
 .c 19 (.call fn_impl_Automaton_copyOf [.v 18]) K41_1) (.ret)
abbrev K41_3:C:=.seq (.pl <| .e 18 1 <|
 .x 18 (.build [.slice none 0 0,.slice none 0 0,.slice none 0 0] []) <|
 .o (.pset none 3 0 3 (.v 18)) <|
 .x 4 (.mv (.c (.bool false))) .done) (.ret)
abbrev K41_4:C:=.cond 18 (.v 20) K41_3 (.skip)
abbrev K41_5:Pl:=.x 20 (.un .not (.v 19)) .done
abbrev K41_6:C:=.seq (.seq (.pl <| .e 18 3 <|
 .o (.pget (some 18) none 5 0 (some 3)) <|
 .c 19 (.call fn_impl_AutomatonValid [.v 18]) K41_5) K41_4) K41_2
abbrev K41_7:C:=.pl <| .e 18 2 <|
 .m 18 10 <|
 .x 19 (.bin .add (.v 18) (.c (.int .i64 1))) <|
 .m 10 19 .done
abbrev K41_8:C:=.pl <| .e 18 1 <|
 .x 18 (.bin .add (.v 17) (.c (.int .i64 1))) <|
 .m 17 18 .done
abbrev K41_9:Pl:=.a 32 5 <|
 .o (.pset (some 32) 5 2 1 (.v 31)) .done
abbrev K41_10:Pl:=.x 29 (.build [.int .i64 0,.int .i64 0,.int .i64 0,.int .i64 0] [(0,1,.v 20),(1,1,.v 22),(2,1,.v 24),(3,1,.v 28)]) <|
 .o (.psl 30 [.int .i64 0,.int .i64 0,.int .i64 0,.int .i64 0] [(0,4,.v 29)]) <|
 .c 31 (.app 32 4 [.int .i64 0,.int .i64 0,.int .i64 0,.int .i64 0] (.o (.v 19)) (.p 1 30)) K41_9
abbrev K41_11:C:=.pl <| .e 18 15 <|
 .a 18 5 <|
 .g 19 18 5 2 <|
 .m 20 10 <|
 .a 21 11 <|
 .g 22 21 11 0 <|
 .a 23 11 <|
 .g 24 23 11 1 <|
 .m 25 8 <|
 .a 26 11 <|
 .o (.pget (some 27) (some 26) 11 2 (some 2)) <|
 .c 28 (.callv (.v 25) [.v 27]) K41_10
abbrev K41_12:C:=.seq (.block 5 (.seq (.pl <| .e 18 2 <|
 .x 18 (.ia 4 (.v 15) (.v 17)) <|
 .o (.ld (some 19) (.v 18) (some 4)) <|
 .o (.pnew 11 (.c (.agg #[.int .i64 0,.int .i64 0,.int .i64 0,.int .i64 0])) []) <|
 .o (.pset none 11 0 4 (.v 19)) .done) K41_11)) K41_8
abbrev K41_13:C:=.seq (.cond 18 (.v 18) (.skip) (.exit 4)) K41_12
abbrev K41_14:C:=.seq (.pl <| .e 18 1 <|
 .x 18 (.bin .lss (.v 17) (.v 16)) .done) K41_13
abbrev K41_15:C:=.block 4 (.loop 18 [0,4,6,9,11,12,13,14] K41_14)
abbrev K41_16:Pl:=.x 16 (.lenV (.v 15)) <|
 .x 17 (.mv (.c (.int .i64 0))) .done
abbrev K41_17:C:=.seq (.pl <| .e 18 5 <|
 .m 18 2 <|
 .l 19 7 <|
 .m 20 10 <|
 .x 21 (.ia 2 (.v 19) (.v 20)) <|
 .o (.ld (some 22) (.v 21) (some 2)) <|
 .c 15 (.callv (.v 18) [.v 22]) K41_16) K41_15
abbrev K41_18:Pl:=.a 28 5 <|
 .o (.pset (some 28) 5 1 1 (.v 27)) .done
abbrev K41_19:Pl:=.o (.psl 26 [.bool false] [(0,1,.v 25)]) <|
 .c 27 (.app 1 1 [.bool false] (.o (.v 19)) (.p 1 26)) K41_18
abbrev K41_20:C:=.seq (.pl <| .e 18 11 <|
 .a 18 5 <|
 .g 19 18 5 1 <|
 .m 20 1 <|
 .l 21 7 <|
 .m 22 10 <|
 .x 23 (.ia 2 (.v 21) (.v 22)) <|
 .o (.ld (some 24) (.v 23) (some 2)) <|
 .c 25 (.callv (.v 20) [.v 24]) K41_19) K41_17
abbrev K41_21:C:=.seq (.pl <| .e 18 1 <|
 .x 18 (.build [.slice none 0 0,.slice none 0 0,.slice none 0 0] []) <|
 .o (.pset none 3 0 3 (.v 18)) <|
 .x 4 (.mv (.c (.bool false))) .done) (.ret)
abbrev K41_22:C:=.cond 18 (.v 25) K41_21 (.skip)
abbrev K41_23:C:=.seq (.block 3 (.seq (.seq (.pl <| .e 18 8 <|
 .m 18 10 <|
 .x 19 (.bin .eql (.v 18) (.c (.int .i64 64))) <|
 .m 20 19 <|
 .n 20 (.als 21 none 5) <|
 .n 20 (.pget (some 22) (some 21) 5 2 none) <|
 .n 20 (.px (some 23) (.lenV (.v 22))) <|
 .n 20 (.px (some 24) (.bin .gtr (.v 23) (.c (.int .i64 2048)))) <|
 .x 25 (.pick (.v 20) (.c (.bool true)) (.v 24)) .done) K41_22) K41_20)) K41_7
abbrev K41_24:C:=.cond 18 (.v 21) (.skip) (.exit 2)
abbrev K41_25:C:=.seq (.seq (.pl <| .e 18 4 <|
 .m 18 10 <|
 .l 19 7 <|
 .x 20 (.lenV (.v 19)) <|
 .x 21 (.bin .lss (.v 18) (.v 20)) .done) K41_24) K41_23
abbrev K41_26:C:=.block 2 (.loop 18 [0,4,6,9,11,12,13,14,15,16,17] K41_25)
abbrev K41_27:C:=.seq (.seq (.pl <| .e 18 0 <|
 .x 10 (.mv (.c (.int .i64 0))) .done) K41_26) K41_6
abbrev K41_28:C:=.pl <| .e 18 1 <|
 .x 18 (.bin .add (.v 14) (.c (.int .i64 1))) <|
 .m 14 18 .done
abbrev K41_29:Pl:=.a 25 5 <|
 .o (.pset (some 25) 5 0 1 (.v 24)) .done
abbrev K41_30:Pl:=.o (.psl 23 [.int .i64 0] [(0,1,.v 22)]) <|
 .c 24 (.app 8 1 [.int .i64 0] (.o (.v 19)) (.p 1 23)) K41_29
abbrev K41_31:C:=.pl <| .e 18 8 <|
 .a 18 5 <|
 .g 19 18 5 0 <|
 .m 20 8 <|
 .o (.pget (some 21) none 9 0 (some 2)) <|
 .c 22 (.callv (.v 20) [.v 21]) K41_30
abbrev K41_32:C:=.seq (.block 1 (.seq (.pl <| .e 18 2 <|
 .x 18 (.ia 2 (.v 12) (.v 14)) <|
 .o (.ld (some 19) (.v 18) (some 2)) <|
 .o (.pnew 9 (.c (.agg #[.int .i64 0,.int .i64 0])) []) <|
 .o (.pset none 9 0 2 (.v 19)) .done) K41_31)) K41_28
abbrev K41_33:C:=.seq (.cond 18 (.v 18) (.skip) (.exit 0)) K41_32
abbrev K41_34:C:=.seq (.pl <| .e 18 1 <|
 .x 18 (.bin .lss (.v 14) (.v 13)) .done) K41_33
abbrev K41_35:C:=.block 0 (.loop 18 [0,4,6,9,10,11,15,16,17] K41_34)
abbrev K41_36:C:=.seq (.seq (.pl <| .e 18 0 <|
 .m 12 0 <|
 .x 13 (.lenV (.v 12)) <|
 .x 14 (.mv (.c (.int .i64 0))) .done) K41_35) K41_27
abbrev K41_37:C:=.seq (.pl <| .e 18 1 <|
 .x 18 (.mkf (.func fn_impl_explore_impl_phased_1) [] [.v 6,.v 7]) <|
 .m 8 18 .done) K41_36
abbrev K41_38:C:=.seq (.pl <| .e 18 0 <|
 .c 7 (.alloc (.c (.slice none 0 0))) .done) K41_37
abbrev K41_39:Pl:=.o (.ex none (.store 1 (.v 6) (.v 18))) .done
abbrev K41_40:Pl:=.c 6 (.alloc (.c (.map none))) K41_39
abbrev K41_41:C:=.seq (.pl <| .e 18 1 <|
 .c 18 (.mkm) K41_40) K41_38
abbrev K41_42:C:=.seq (.pl <| .e 18 0 <|
 .o (.pnew 5 (.c (.agg #[.slice none 0 0,.slice none 0 0,.slice none 0 0])) []) .done) K41_41
abbrev K41_43:Pl:=.x 19 (.build [.slice none 0 0,.slice none 0 0,.slice none 0 0] [(1,1,.v 18)]) <|
 .o (.pset none 3 0 3 (.v 19)) <|
 .x 4 (.mv (.c (.bool true))) .done
abbrev K41_44:C:=.seq (.pl <| .e 18 2 <|
 .c 18 (.mks 1 1 [.bool false] (.c (.int .i64 1)) (.c (.int .i64 1))) K41_43) (.ret)
abbrev K41_45:C:=.cond 18 (.v 20) K41_44 (.skip)
abbrev K41_46:C:=.seq (.seq (.pl <| .e 18 3 <|
 .m 18 0 <|
 .x 19 (.lenV (.v 18)) <|
 .x 20 (.bin .eql (.v 19) (.c (.int .i64 0))) .done) K41_45) K41_42
abbrev B_impl_explore_impl_phased:C:=.seq (.pl <| .e 18 0 <|
 .o (.pnew 3 (.c (.agg #[.slice none 0 0,.slice none 0 0,.slice none 0 0])) []) <|
 .x 4 (.mv (.c (.bool false))) .done) K41_46
def R_impl_explore_impl_phased:FIR:=⟨B_impl_explore_impl_phased,18,[(3,some (some 3)),(4,none)]⟩
theorem IR_impl_explore_impl_phased:cfun Tryz.prog H_impl_explore_impl_phased Tryz.f41=some R_impl_explore_impl_phased:=by kernel_rfl
theorem EN_impl_explore_impl_phased:ENT Tryz.prog B_impl_explore_impl_phased [(3,some (some 3)),(4,none)] 3 18 fn_impl_explore_impl_phased:=fun hargs hw=>enter Tryz.func41 rfl IR_impl_explore_impl_phased hargs hw
def H_impl_explore_impl_phased_1:Hint:=⟨[(0,false),(1,false),(2,false),(3,true),(4,false),(5,false),(6,false)],[]⟩
abbrev K80_1:C:=.seq (.pl <| .e 7 1 <|
 .m 7 5 <|
 .m 4 7 .done) (.ret)
abbrev K80_2:Pl:=.o (.ex none (.store 1 (.v 2) (.v 10))) .done
abbrev K80_3:C:=.pl <| .e 7 4 <|
 .l 7 2 <|
 .o (.pget (some 8) none 3 0 (some 2)) <|
 .o (.psl 9 [.int .i64 0,.int .i64 0] [(0,2,.v 8)]) <|
 .c 10 (.app 16 2 [.int .i64 0,.int .i64 0] (.o (.v 7)) (.p 1 9)) K80_2
abbrev K80_4:C:=.seq (.pl <| .e 7 3 <|
 .l 7 1 <|
 .o (.pget (some 8) none 3 0 (some 2)) <|
 .m 9 5 <|
 .o (.ex none (.mput (.many [.i,.i]) (.v 7) (.v 8) (.v 9))) .done) K80_3
abbrev K80_5:C:=.seq (.pl <| .e 7 2 <|
 .l 7 2 <|
 .x 8 (.lenV (.v 7)) <|
 .m 5 8 .done) K80_4
abbrev K80_6:C:=.cond 7 (.v 8) K80_5 (.skip)
abbrev K80_7:C:=.seq (.seq (.pl <| .e 7 2 <|
 .m 7 6 <|
 .x 8 (.un .not (.v 7)) .done) K80_6) K80_1
abbrev K80_8:Pl:=.m 10 9 <|
 .x 11 (.extract 0 (.v 10)) <|
 .x 12 (.extract 1 (.v 10)) <|
 .m 5 11 <|
 .m 6 12 .done
abbrev K80_9:C:=.seq (.pl <| .e 7 6 <|
 .l 7 1 <|
 .o (.pget (some 8) none 3 0 (some 2)) <|
 .c 9 (.mget (.many [.i,.i]) (.int .i64 0) true (.v 7) (.v 8)) K80_8) K80_7
abbrev B_impl_explore_impl_phased_1:C:=.seq (.pl <| .e 7 0 <|
 .o (.pnew 3 (.v 0) []) <|
 .x 4 (.mv (.c (.int .i64 0))) .done) K80_9
def R_impl_explore_impl_phased_1:FIR:=⟨B_impl_explore_impl_phased_1,7,[(4,none)]⟩
theorem IR_impl_explore_impl_phased_1:cfun Tryz.prog H_impl_explore_impl_phased_1 Tryz.f80=some R_impl_explore_impl_phased_1:=by kernel_rfl
theorem EN_impl_explore_impl_phased_1:ENT Tryz.prog B_impl_explore_impl_phased_1 [(4,none)] 3 7 fn_impl_explore_impl_phased_1:=fun hargs hw=>enter Tryz.func80 rfl IR_impl_explore_impl_phased_1 hargs hw
def H_impl_formula:Hint:=⟨[(0,false),(1,false),(4,true)],[]⟩
abbrev K75_1:Pl:=.x 6 (.build [.int .i64 0,.int .i64 0,.slice none 0 0] [(0,1,.v 3),(1,1,.c (.int .i64 0)),(2,1,.v 5)]) <|
 .o (.pset none 2 0 3 (.v 6)) .done
abbrev K75_2:C:=.seq (.pl <| .e 3 4 <|
 .m 3 0 <|
 .m 4 1 <|
 .c 5 (.call fn_impl_clone_impl_Formula [.v 4]) K75_1) (.ret)
abbrev B_impl_formula:C:=.seq (.pl <| .e 3 0 <|
 .o (.pnew 2 (.c (.agg #[.int .i64 0,.int .i64 0,.slice none 0 0])) []) .done) K75_2
def R_impl_formula:FIR:=⟨B_impl_formula,3,[(2,some (some 3))]⟩
theorem IR_impl_formula:cfun Tryz.prog H_impl_formula Tryz.f75=some R_impl_formula:=by kernel_rfl
theorem EN_impl_formula:ENT Tryz.prog B_impl_formula [(2,some (some 3))] 2 3 fn_impl_formula:=fun hargs hw=>enter Tryz.func75 rfl IR_impl_formula hargs hw
def H_impl_formulaAt:Hint:=⟨[(0,false),(1,false),(3,false),(4,false)],[]⟩
abbrev K79_1:Pl:=.m 3 6 .done
abbrev K79_2:C:=.seq (.pl <| .e 4 3 <|
 .m 4 0 <|
 .x 5 (.mkf (.func fn_impl_formulaAt_1) [] [.v 2]) <|
 .c 6 (.call fn_slices_IndexFunc_S_impl_Formula_impl_Formula [.v 4,.v 5]) K79_1) (.ret)
abbrev K79_3:Pl:=.x 3 (.mv (.c (.int .i64 0))) .done
abbrev B_impl_formulaAt:C:=.seq (.pl <| .e 4 0 <|
 .c 2 (.alloc (.v 1)) K79_3) K79_2
def R_impl_formulaAt:FIR:=⟨B_impl_formulaAt,4,[(3,none)]⟩
theorem IR_impl_formulaAt:cfun Tryz.prog H_impl_formulaAt Tryz.f79=some R_impl_formulaAt:=by kernel_rfl
theorem EN_impl_formulaAt:ENT Tryz.prog B_impl_formulaAt [(3,none)] 2 4 fn_impl_formulaAt:=fun hargs hw=>enter Tryz.func79 rfl IR_impl_formulaAt hargs hw
def H_impl_formulaAt_1:Hint:=⟨[(0,false),(1,false),(2,true),(3,false)],[]⟩
abbrev K119_1:Pl:=.m 3 6 .done
abbrev K119_2:C:=.seq (.pl <| .e 4 3 <|
 .o (.pget (some 4) none 2 0 (some 3)) <|
 .o (.ld (some 5) (.v 1) (some 3)) <|
 .c 6 (.call fn_impl_FormulaSame [.v 4,.v 5]) K119_1) (.ret)
abbrev B_impl_formulaAt_1:C:=.seq (.pl <| .e 4 0 <|
 .o (.pnew 2 (.v 0) []) <|
 .x 3 (.mv (.c (.bool false))) .done) K119_2
def R_impl_formulaAt_1:FIR:=⟨B_impl_formulaAt_1,4,[(3,none)]⟩
theorem IR_impl_formulaAt_1:cfun Tryz.prog H_impl_formulaAt_1 Tryz.f119=some R_impl_formulaAt_1:=by kernel_rfl
theorem EN_impl_formulaAt_1:ENT Tryz.prog B_impl_formulaAt_1 [(3,none)] 2 4 fn_impl_formulaAt_1:=fun hargs hw=>enter Tryz.func119 rfl IR_impl_formulaAt_1 hargs hw
def H_impl_in:Hint:=⟨[(0,false),(1,false),(2,false),(6,false)],[]⟩
abbrev K65_1:C:=.seq (.pl <| .e 4 8 <|
 .m 4 0 <|
 .m 5 1 <|
 .x 6 (.bin .geq (.v 4) (.v 5)) <|
 .m 7 6 <|
 .y 7 (.px (some 8) (.mv (.v 0))) <|
 .y 7 (.px (some 9) (.mv (.v 2))) <|
 .y 7 (.px (some 10) (.bin .leq (.v 8) (.v 9))) <|
 .x 11 (.pick (.v 7) (.v 10) (.c (.bool false))) <|
 .m 3 11 .done) (.ret)
abbrev B_impl_in:C:=.seq (.pl <| .e 4 0 <|
 .x 3 (.mv (.c (.bool false))) .done) K65_1
def R_impl_in:FIR:=⟨B_impl_in,4,[(3,none)]⟩
theorem IR_impl_in:cfun Tryz.prog H_impl_in Tryz.f65=some R_impl_in:=by kernel_rfl
theorem EN_impl_in:ENT Tryz.prog B_impl_in [(3,none)] 3 4 fn_impl_in:=fun hargs hw=>enter Tryz.func65 rfl IR_impl_in hargs hw
def H_impl_letters:Hint:=⟨[(0,false),(2,false)],[]⟩
abbrev K64_1:Pl:=.x 4 (.un .not (.v 3)) <|
 .m 1 4 .done
abbrev K64_2:C:=.seq (.pl <| .e 2 3 <|
 .m 2 0 <|
 .c 3 (.call fn_slices_ContainsFunc_S_int_int [.v 2,.c (.func (.func 111) #[] #[])]) K64_1) (.ret)
abbrev B_impl_letters:C:=.seq (.pl <| .e 2 0 <|
 .x 1 (.mv (.c (.bool false))) .done) K64_2
def R_impl_letters:FIR:=⟨B_impl_letters,2,[(1,none)]⟩
theorem IR_impl_letters:cfun Tryz.prog H_impl_letters Tryz.f64=some R_impl_letters:=by kernel_rfl
theorem EN_impl_letters:ENT Tryz.prog B_impl_letters [(1,none)] 1 2 fn_impl_letters:=fun hargs hw=>enter Tryz.func64 rfl IR_impl_letters hargs hw
def H_impl_letters_1:Hint:=⟨[(0,false),(2,false)],[]⟩
abbrev K111_1:Pl:=.x 4 (.un .not (.v 3)) <|
 .m 1 4 .done
abbrev K111_2:C:=.seq (.pl <| .e 2 3 <|
 .m 2 0 <|
 .c 3 (.call fn_impl_in [.v 2,.c (.int .i64 0),.c (.int .i64 7)]) K111_1) (.ret)
abbrev B_impl_letters_1:C:=.seq (.pl <| .e 2 0 <|
 .x 1 (.mv (.c (.bool false))) .done) K111_2
def R_impl_letters_1:FIR:=⟨B_impl_letters_1,2,[(1,none)]⟩
theorem IR_impl_letters_1:cfun Tryz.prog H_impl_letters_1 Tryz.f111=some R_impl_letters_1:=by kernel_rfl
theorem EN_impl_letters_1:ENT Tryz.prog B_impl_letters_1 [(1,none)] 1 2 fn_impl_letters_1:=fun hargs hw=>enter Tryz.func111 rfl IR_impl_letters_1 hargs hw
def H_impl_monitorRun:Hint:=⟨[(0,false),(1,false),(2,true),(4,false),(5,false),(6,true),(7,true),(8,false),(9,false),(10,false),(11,false),(12,false),(13,false),(14,false),(40,false),(41,false)],[[0,2,3,4,7,13]]⟩
abbrev K19_1:C:=.seq (.pl <| .e 16 1 <|
 .m 16 12 <|
 .m 3 16 <|
 .x 4 (.mv (.c (.int .i64 0))) .done) (.ret)
abbrev K19_2:C:=.pl <| .e 16 1 <|
 .x 16 (.bin .add (.v 15) (.c (.int .i64 1))) <|
 .m 15 16 .done
abbrev K19_3:Pl:=.m 10 23 <|
 .m 11 31 .done
abbrev K19_4:Pl:=.st (.re 30 (.v 29) none none) <|
 .c 31 (.call fn_impl_Automaton_after [.v 24,.v 25,.v 26,.v 30]) K19_3
abbrev K19_5:C:=.pl <| .e 16 16 <|
 .o (.pget (some 16) none 5 0 (some 3)) <|
 .m 17 8 <|
 .m 18 10 <|
 .m 19 1 <|
 .m 20 13 <|
 .x 21 (.ia 1 (.v 19) (.v 20)) <|
 .l 22 21 <|
 .o (.pget (some 24) none 6 0 (some 3)) <|
 .m 25 9 <|
 .m 26 11 <|
 .m 27 1 <|
 .m 28 13 <|
 .x 29 (.ia 1 (.v 27) (.v 28)) <|
 .l 30 29 <|
 .c 23 (.call fn_impl_Automaton_after [.v 16,.v 17,.v 18,.v 22]) K19_4
abbrev K19_6:C:=.cond 16 (.v 19) K19_5 (.skip)
abbrev K19_7:C:=.seq (.pl <| .e 16 4 <|
 .m 16 13 <|
 .m 17 1 <|
 .x 18 (.lenV (.v 17)) <|
 .x 19 (.bin .lss (.v 16) (.v 18)) .done) K19_6
abbrev K19_8:C:=.pl <| .e 16 3 <|
 .m 16 12 <|
 .m 17 13 <|
 .x 18 (.ia 1 (.v 16) (.v 17)) <|
 .o (.ex none (.store 1 (.v 18) (.c (.int .i64 2)))) .done
abbrev K19_9:C:=.pl <| .e 16 3 <|
 .m 16 12 <|
 .m 17 13 <|
 .x 18 (.ia 1 (.v 16) (.v 17)) <|
 .o (.ex none (.store 1 (.v 18) (.c (.int .i64 1)))) .done
abbrev K19_10:C:=.cond 16 (.v 19) K19_9 (.skip)
abbrev K19_11:Pl:=.x 18 (.un .not (.v 17)) <|
 .m 19 18 .done
abbrev K19_12:C:=.seq (.pl <| .e 16 4 <|
 .m 16 11 <|
 .c 17 (.call fn_slices_Contains_S_bool_bool [.v 16,.c (.bool true)]) K19_11) K19_10
abbrev K19_13:C:=.cond 16 (.v 19) K19_8 K19_12
abbrev K19_14:Pl:=.x 18 (.un .not (.v 17)) <|
 .m 19 18 .done
abbrev K19_15:C:=.seq (.block 2 (.seq (.pl <| .e 16 4 <|
 .m 16 10 <|
 .c 17 (.call fn_slices_Contains_S_bool_bool [.v 16,.c (.bool true)]) K19_14) K19_13)) K19_7
abbrev K19_16:C:=.seq (.block 1 (.seq (.pl <| .e 16 1 <|
 .m 16 15 <|
 .m 13 16 .done) K19_15)) K19_2
abbrev K19_17:C:=.seq (.cond 16 (.v 16) (.skip) (.exit 0)) K19_16
abbrev K19_18:C:=.seq (.pl <| .e 16 1 <|
 .x 16 (.bin .lss (.v 15) (.v 14)) .done) K19_17
abbrev K19_19:C:=.block 0 (.loop 16 [0,2,3,4,7,13] K19_18)
abbrev K19_20:C:=.seq (.seq (.pl <| .e 16 1 <|
 .m 16 12 <|
 .x 14 (.lenV (.v 16)) <|
 .x 15 (.mv (.c (.int .i64 0))) .done) K19_19) K19_1
abbrev K19_21:Pl:=.m 12 19 .done
abbrev K19_22:C:=.seq (.pl <| .e 16 4 <|
 .m 16 1 <|
 .x 17 (.lenV (.v 16)) <|
 .x 18 (.bin .add (.v 17) (.c (.int .i64 1))) <|
 .c 19 (.mks 8 1 [.int .i64 0] (.v 18) (.v 18)) K19_21) K19_20
abbrev K19_23:Pl:=.m 10 18 <|
 .m 11 21 .done
abbrev K19_24:Pl:=.c 21 (.call fn_impl_Automaton_begin [.v 19,.v 20]) K19_23
abbrev K19_25:C:=.seq (.pl <| .e 16 6 <|
 .o (.pget (some 16) none 5 0 (some 3)) <|
 .m 17 8 <|
 .o (.pget (some 19) none 6 0 (some 3)) <|
 .m 20 9 <|
 .c 18 (.call fn_impl_Automaton_begin [.v 16,.v 17]) K19_24) K19_22
abbrev K19_26:Pl:=.m 8 17 <|
 .m 9 19 .done
abbrev K19_27:Pl:=.c 19 (.call fn_impl_Automaton_live [.v 18]) K19_26
abbrev K19_28:C:=.seq (.pl <| .e 16 4 <|
 .o (.pget (some 16) none 5 0 (some 3)) <|
 .o (.pget (some 18) none 6 0 (some 3)) <|
 .c 17 (.call fn_impl_Automaton_live [.v 16]) K19_27) K19_25
abbrev K19_29:C:=.seq (.pl <| .e 16 1 <|
 .m 16 7 <|
 .x 3 (.mv (.c (.slice none 0 0))) <|
 .m 4 16 .done) (.ret)
abbrev K19_30:C:=.cond 16 (.v 17) K19_29 (.skip)
abbrev K19_31:C:=.seq (.seq (.pl <| .e 16 2 <|
 .m 16 7 <|
 .x 17 (.bin .neq (.v 16) (.c (.int .i64 0))) .done) K19_30) K19_28
abbrev K19_32:Pl:=.m 19 18 <|
 .x 20 (.extract 0 (.v 19)) <|
 .x 21 (.extract 1 (.v 19)) <|
 .x 22 (.extract 2 (.v 19)) <|
 .o (.pnew 5 (.c (.agg #[.slice none 0 0,.slice none 0 0,.slice none 0 0])) []) <|
 .o (.pnew 6 (.c (.agg #[.slice none 0 0,.slice none 0 0,.slice none 0 0])) []) <|
 .o (.pset none 5 0 3 (.v 20)) <|
 .o (.pset none 6 0 3 (.v 21)) <|
 .m 7 22 .done
abbrev K19_33:C:=.seq (.pl <| .e 16 7 <|
 .o (.pget (some 16) none 2 0 (some 3)) <|
 .m 17 1 <|
 .c 18 (.call fn_impl_monitors [.v 16,.v 17]) K19_32) K19_31
abbrev B_impl_monitorRun:C:=.seq (.pl <| .e 16 0 <|
 .o (.pnew 2 (.v 0) []) <|
 .x 3 (.mv (.c (.slice none 0 0))) <|
 .x 4 (.mv (.c (.int .i64 0))) .done) K19_33
def R_impl_monitorRun:FIR:=⟨B_impl_monitorRun,16,[(3,none),(4,none)]⟩
theorem IR_impl_monitorRun:cfun Tryz.prog H_impl_monitorRun Tryz.f19=some R_impl_monitorRun:=by kernel_rfl
theorem EN_impl_monitorRun:ENT Tryz.prog B_impl_monitorRun [(3,none),(4,none)] 2 16 fn_impl_monitorRun:=fun hargs hw=>enter Tryz.func19 rfl IR_impl_monitorRun hargs hw
def H_impl_monitors:Hint:=⟨[(0,false),(1,false),(2,true),(4,true),(5,true),(6,false),(7,true),(8,false),(9,true),(10,false)],[]⟩
abbrev K47_1:C:=.seq (.pl <| .e 10 2 <|
 .o (.pget (some 10) none 6 0 (some 3)) <|
 .o (.pget (some 11) none 8 0 (some 3)) <|
 .o (.pset none 3 0 3 (.v 10)) <|
 .o (.pset none 4 0 3 (.v 11)) <|
 .x 5 (.mv (.c (.int .i64 0))) .done) (.ret)
abbrev K47_2:C:=.seq (.pl <| .e 10 2 <|
 .x 10 (.build [.slice none 0 0,.slice none 0 0,.slice none 0 0] []) <|
 .x 11 (.build [.slice none 0 0,.slice none 0 0,.slice none 0 0] []) <|
 .o (.pset none 3 0 3 (.v 10)) <|
 .o (.pset none 4 0 3 (.v 11)) <|
 .x 5 (.mv (.c (.int .i64 4))) .done) (.ret)
abbrev K47_3:C:=.cond 10 (.v 15) K47_2 (.skip)
abbrev K47_4:C:=.seq (.seq (.pl <| .e 10 6 <|
 .m 10 7 <|
 .x 11 (.un .not (.v 10)) <|
 .m 12 11 <|
 .n 12 (.px (some 13) (.mv (.v 9))) <|
 .n 12 (.px (some 14) (.un .not (.v 13))) <|
 .x 15 (.pick (.v 12) (.c (.bool true)) (.v 14)) .done) K47_3) K47_1
abbrev K47_5:Pl:=.m 12 11 <|
 .x 13 (.extract 0 (.v 12)) <|
 .x 14 (.extract 1 (.v 12)) <|
 .o (.pnew 8 (.c (.agg #[.slice none 0 0,.slice none 0 0,.slice none 0 0])) []) <|
 .o (.pset none 8 0 3 (.v 13)) <|
 .m 9 14 .done
abbrev K47_6:C:=.seq (.pl <| .e 10 5 <|
 .o (.pget (some 10) none 2 0 (some 3)) <|
 .c 11 (.call fn_impl_negated [.v 10]) K47_5) K47_4
abbrev K47_7:Pl:=.m 12 11 <|
 .x 13 (.extract 0 (.v 12)) <|
 .x 14 (.extract 1 (.v 12)) <|
 .o (.pnew 6 (.c (.agg #[.slice none 0 0,.slice none 0 0,.slice none 0 0])) []) <|
 .o (.pset none 6 0 3 (.v 13)) <|
 .m 7 14 .done
abbrev K47_8:C:=.seq (.pl <| .e 10 5 <|
 .o (.pget (some 10) none 2 0 (some 3)) <|
 .c 11 (.call fn_impl_TranslateFormula [.v 10]) K47_7) K47_6
abbrev K47_9:C:=.seq (.pl <| .e 10 2 <|
 .x 10 (.build [.slice none 0 0,.slice none 0 0,.slice none 0 0] []) <|
 .x 11 (.build [.slice none 0 0,.slice none 0 0,.slice none 0 0] []) <|
 .o (.pset none 3 0 3 (.v 10)) <|
 .o (.pset none 4 0 3 (.v 11)) <|
 .x 5 (.mv (.c (.int .i64 3))) .done) (.ret)
abbrev K47_10:C:=.cond 10 (.v 17) K47_9 (.skip)
abbrev K47_11:Pl:=.n 13 (.px (some 16) (.un .not (.v 15))) <|
 .x 17 (.pick (.v 13) (.c (.bool true)) (.v 16)) .done
abbrev K47_12:Pl:=.x 12 (.un .not (.v 11)) <|
 .m 13 12 <|
 .n 13 (.px (some 14) (.mv (.v 1))) <|
 .st (.act (some (.v 13,false)) (.ex (some 15) (.call fn_impl_wordOk [.v 14]))) K47_11
abbrev K47_13:C:=.seq (.seq (.pl <| .e 10 8 <|
 .o (.pget (some 10) none 2 0 (some 3)) <|
 .c 11 (.call fn_impl_FormulaValid [.v 10]) K47_12) K47_10) K47_8
abbrev B_impl_monitors:C:=.seq (.pl <| .e 10 0 <|
 .o (.pnew 2 (.v 0) []) <|
 .o (.pnew 3 (.c (.agg #[.slice none 0 0,.slice none 0 0,.slice none 0 0])) []) <|
 .o (.pnew 4 (.c (.agg #[.slice none 0 0,.slice none 0 0,.slice none 0 0])) []) <|
 .x 5 (.mv (.c (.int .i64 0))) .done) K47_13
def R_impl_monitors:FIR:=⟨B_impl_monitors,10,[(3,some (some 3)),(4,some (some 3)),(5,none)]⟩
theorem IR_impl_monitors:cfun Tryz.prog H_impl_monitors Tryz.f47=some R_impl_monitors:=by kernel_rfl
theorem EN_impl_monitors:ENT Tryz.prog B_impl_monitors [(3,some (some 3)),(4,some (some 3)),(5,none)] 2 10 fn_impl_monitors:=fun hargs hw=>enter Tryz.func47 rfl IR_impl_monitors hargs hw
def H_impl_negated:Hint:=⟨[(0,false),(1,true),(2,true),(3,false),(4,true),(5,false)],[]⟩
abbrev K92_1:Pl:=.x 8 (.extract 0 (.v 7)) <|
 .x 9 (.extract 1 (.v 7)) <|
 .o (.pset none 2 0 3 (.v 8)) <|
 .m 3 9 .done
abbrev K92_2:C:=.seq (.pl <| .e 6 4 <|
 .o (.pget (some 6) none 4 0 (some 3)) <|
 .c 7 (.call fn_impl_TranslateFormula [.v 6]) K92_1) (.ret)
abbrev K92_3:C:=.seq (.pl <| .e 6 1 <|
 .x 6 (.build [.slice none 0 0,.slice none 0 0,.slice none 0 0] []) <|
 .o (.pset none 2 0 3 (.v 6)) <|
 .x 3 (.mv (.c (.bool false))) .done) (.ret)
abbrev K92_4:C:=.cond 6 (.v 7) K92_3 (.skip)
abbrev K92_5:C:=.seq (.seq (.pl <| .e 6 2 <|
 .m 6 5 <|
 .x 7 (.un .not (.v 6)) .done) K92_4) K92_2
abbrev K92_6:Pl:=.m 8 7 <|
 .x 9 (.extract 0 (.v 8)) <|
 .x 10 (.extract 1 (.v 8)) <|
 .o (.pnew 4 (.c (.agg #[.int .i64 0,.int .i64 0,.slice none 0 0])) []) <|
 .o (.pset none 4 0 3 (.v 9)) <|
 .m 5 10 .done
abbrev K92_7:C:=.seq (.pl <| .e 6 5 <|
 .o (.pget (some 6) none 1 0 (some 3)) <|
 .c 7 (.call fn_impl_NegateFormula [.v 6]) K92_6) K92_5
abbrev B_impl_negated:C:=.seq (.pl <| .e 6 0 <|
 .o (.pnew 1 (.v 0) []) <|
 .o (.pnew 2 (.c (.agg #[.slice none 0 0,.slice none 0 0,.slice none 0 0])) []) <|
 .x 3 (.mv (.c (.bool false))) .done) K92_7
def R_impl_negated:FIR:=⟨B_impl_negated,6,[(2,some (some 3)),(3,none)]⟩
theorem IR_impl_negated:cfun Tryz.prog H_impl_negated Tryz.f92=some R_impl_negated:=by kernel_rfl
theorem EN_impl_negated:ENT Tryz.prog B_impl_negated [(2,some (some 3)),(3,none)] 1 6 fn_impl_negated:=fun hargs hw=>enter Tryz.func92 rfl IR_impl_negated hargs hw
def H_impl_operands:Hint:=⟨[(0,false),(2,false),(3,false),(4,false),(7,false)],[]⟩
abbrev K151_1:C:=.seq (.pl <| .e 5 0 <|
 .x 1 (.mv (.c (.int .i64 1))) .done) (.ret)
abbrev K151_2:C:=.seq (.pl <| .e 5 0 <|
 .x 1 (.mv (.c (.int .i64 0))) .done) (.ret)
abbrev K151_3:C:=.seq (.pl <| .e 5 0 <|
 .x 1 (.mv (.c (.int .i64 2))) .done) (.ret)
abbrev K151_4:C:=.cond 5 (.v 4) K151_3 (.skip)
abbrev K151_5:C:=.pl <| .e 5 1 <|
 .x 5 (.bin .eql (.v 2) (.c (.int .i64 8))) <|
 .m 4 5 .done
abbrev K151_6:C:=.cond 5 (.v 4) (.skip) K151_5
abbrev K151_7:C:=.seq (.pl <| .e 5 1 <|
 .x 5 (.bin .eql (.v 2) (.c (.int .i64 7))) <|
 .m 4 5 .done) K151_6
abbrev K151_8:C:=.cond 5 (.v 4) (.skip) K151_7
abbrev K151_9:C:=.seq (.pl <| .e 5 1 <|
 .x 5 (.bin .eql (.v 2) (.c (.int .i64 5))) <|
 .m 4 5 .done) K151_8
abbrev K151_10:C:=.cond 5 (.v 4) (.skip) K151_9
abbrev K151_11:C:=.seq (.seq (.pl <| .e 5 1 <|
 .x 5 (.bin .eql (.v 2) (.c (.int .i64 4))) <|
 .m 4 5 .done) K151_10) K151_4
abbrev K151_12:C:=.cond 5 (.v 3) K151_2 K151_11
abbrev K151_13:C:=.pl <| .e 5 1 <|
 .x 5 (.bin .eql (.v 2) (.c (.int .i64 2))) <|
 .m 3 5 .done
abbrev K151_14:C:=.cond 5 (.v 3) (.skip) K151_13
abbrev K151_15:C:=.block 0 (.seq (.seq (.pl <| .e 5 1 <|
 .x 5 (.bin .eql (.v 2) (.c (.int .i64 1))) <|
 .m 3 5 .done) K151_14) K151_12)
abbrev K151_16:C:=.seq (.seq (.pl <| .e 5 0 <|
 .m 2 0 .done) K151_15) K151_1
abbrev B_impl_operands:C:=.seq (.pl <| .e 5 0 <|
 .x 1 (.mv (.c (.int .i64 0))) .done) K151_16
def R_impl_operands:FIR:=⟨B_impl_operands,5,[(1,none)]⟩
theorem IR_impl_operands:cfun Tryz.prog H_impl_operands Tryz.f151=some R_impl_operands:=by kernel_rfl
theorem EN_impl_operands:ENT Tryz.prog B_impl_operands [(1,none)] 1 5 fn_impl_operands:=fun hargs hw=>enter Tryz.func151 rfl IR_impl_operands hargs hw
def H_impl_reachable:Hint:=⟨[(0,false),(1,false),(4,false),(5,false),(6,false),(8,false),(9,false),(11,false),(17,false),(18,false),(19,false),(44,false),(45,false),(46,false)],[[1,2,5,6,7,11,12,13],[1,2,5,6,7,8,9,10,11,12,13],[1,2,5,6,7,8,9,10]]⟩
abbrev K94_1:C:=.seq (.pl <| .e 14 1 <|
 .m 14 3 <|
 .m 2 14 .done) (.ret)
abbrev K94_2:C:=.pl <| .e 14 1 <|
 .x 14 (.bin .add (.v 13) (.c (.int .i64 1))) <|
 .m 13 14 .done
abbrev K94_3:Pl:=.m 4 17 .done
abbrev K94_4:C:=.pl <| .e 14 4 <|
 .m 14 4 <|
 .m 15 7 <|
 .o (.psl 16 [.int .i64 0] [(0,1,.v 15)]) <|
 .c 17 (.app 8 1 [.int .i64 0] (.o (.v 14)) (.p 1 16)) K94_3
abbrev K94_5:C:=.seq (.pl <| .e 14 3 <|
 .m 14 3 <|
 .m 15 7 <|
 .x 16 (.ia 1 (.v 14) (.v 15)) <|
 .o (.ex none (.store 1 (.v 16) (.c (.bool true)))) .done) K94_4
abbrev K94_6:C:=.cond 14 (.v 18) K94_5 (.skip)
abbrev K94_7:C:=.seq (.pl <| .e 14 5 <|
 .m 14 3 <|
 .m 15 7 <|
 .x 16 (.ia 1 (.v 14) (.v 15)) <|
 .l 17 16 <|
 .x 18 (.un .not (.v 17)) .done) K94_6
abbrev K94_8:C:=.seq (.block 5 (.seq (.pl <| .e 14 2 <|
 .x 14 (.ia 1 (.v 11) (.v 13)) <|
 .l 15 14 <|
 .m 7 15 .done) K94_7)) K94_2
abbrev K94_9:C:=.seq (.cond 14 (.v 14) (.skip) (.exit 4)) K94_8
abbrev K94_10:C:=.seq (.pl <| .e 14 1 <|
 .x 14 (.bin .lss (.v 13) (.v 12)) .done) K94_9
abbrev K94_11:C:=.block 4 (.loop 14 [1,2,5,6,7,8,9,10] K94_10)
abbrev K94_12:C:=.seq (.pl <| .e 14 3 <|
 .m 14 0 <|
 .m 15 6 <|
 .x 16 (.ia 1 (.v 14) (.v 15)) <|
 .l 11 16 <|
 .x 12 (.lenV (.v 11)) <|
 .x 13 (.mv (.c (.int .i64 0))) .done) K94_11
abbrev K94_13:C:=.seq (.pl <| .e 14 5 <|
 .m 14 4 <|
 .m 15 4 <|
 .x 16 (.lenV (.v 15)) <|
 .x 17 (.bin .sub (.v 16) (.c (.int .i64 1))) <|
 .x 18 (.sliceV 1 (.v 14) none (some (.v 17)) none) <|
 .m 4 18 .done) K94_12
abbrev K94_14:C:=.block 3 (.seq (.pl <| .e 14 6 <|
 .m 14 4 <|
 .m 15 4 <|
 .x 16 (.lenV (.v 15)) <|
 .x 17 (.bin .sub (.v 16) (.c (.int .i64 1))) <|
 .x 18 (.ia 1 (.v 14) (.v 17)) <|
 .l 19 18 <|
 .m 6 19 .done) K94_13)
abbrev K94_15:C:=.cond 14 (.v 16) (.skip) (.exit 2)
abbrev K94_16:C:=.seq (.seq (.pl <| .e 14 3 <|
 .m 14 4 <|
 .x 15 (.lenV (.v 14)) <|
 .x 16 (.bin .gtr (.v 15) (.c (.int .i64 0))) .done) K94_15) K94_14
abbrev K94_17:C:=.seq (.block 2 (.loop 14 [1,2,5,6,7,8,9,10,11,12,13] K94_16)) K94_1
abbrev K94_18:C:=.pl <| .e 14 1 <|
 .x 14 (.bin .add (.v 10) (.c (.int .i64 1))) <|
 .m 10 14 .done
abbrev K94_19:C:=.pl <| .e 14 3 <|
 .m 14 3 <|
 .m 15 5 <|
 .x 16 (.ia 1 (.v 14) (.v 15)) <|
 .o (.ex none (.store 1 (.v 16) (.c (.bool true)))) .done
abbrev K94_20:C:=.seq (.block 1 (.seq (.pl <| .e 14 2 <|
 .x 14 (.ia 1 (.v 8) (.v 10)) <|
 .l 15 14 <|
 .m 5 15 .done) K94_19)) K94_18
abbrev K94_21:C:=.seq (.cond 14 (.v 14) (.skip) (.exit 0)) K94_20
abbrev K94_22:C:=.seq (.pl <| .e 14 1 <|
 .x 14 (.bin .lss (.v 10) (.v 9)) .done) K94_21
abbrev K94_23:C:=.block 0 (.loop 14 [1,2,5,6,7,11,12,13] K94_22)
abbrev K94_24:C:=.seq (.seq (.pl <| .e 14 0 <|
 .m 8 1 <|
 .x 9 (.lenV (.v 8)) <|
 .x 10 (.mv (.c (.int .i64 0))) .done) K94_23) K94_17
abbrev K94_25:Pl:=.m 4 15 .done
abbrev K94_26:C:=.seq (.pl <| .e 14 2 <|
 .m 14 1 <|
 .c 15 (.call fn_impl_clone_int [.v 14]) K94_25) K94_24
abbrev K94_27:Pl:=.m 3 16 .done
abbrev K94_28:C:=.seq (.pl <| .e 14 3 <|
 .m 14 0 <|
 .x 15 (.lenV (.v 14)) <|
 .c 16 (.mks 1 1 [.bool false] (.v 15) (.v 15)) K94_27) K94_26
abbrev B_impl_reachable:C:=.seq (.pl <| .e 14 0 <|
 .x 2 (.mv (.c (.slice none 0 0))) .done) K94_28
def R_impl_reachable:FIR:=⟨B_impl_reachable,14,[(2,none)]⟩
theorem IR_impl_reachable:cfun Tryz.prog H_impl_reachable Tryz.f94=some R_impl_reachable:=by kernel_rfl
theorem EN_impl_reachable:ENT Tryz.prog B_impl_reachable [(2,none)] 2 14 fn_impl_reachable:=fun hargs hw=>enter Tryz.func94 rfl IR_impl_reachable hargs hw
def H_impl_translator_follows:Hint:=⟨[(0,false),(1,false),(2,false),(6,false),(7,false),(8,true),(9,false),(10,false),(11,false),(15,false),(16,false),(17,false),(34,false)],[[3,4,5,6,7,8,12]]⟩
abbrev K83_1:C:=.seq (.pl <| .e 13 0 <|
 .x 3 (.mv (.c (.bool true))) .done) (.ret)
abbrev K83_2:C:=.pl <| .e 13 1 <|
 .x 13 (.bin .add (.v 11) (.c (.int .i64 1))) <|
 .m 11 13 .done
abbrev K83_3:C:=.seq (.pl <| .e 13 0 <|
 .x 3 (.mv (.c (.bool false))) .done) (.ret)
abbrev K83_4:C:=.cond 13 (.v 15) K83_3 (.skip)
abbrev K83_5:C:=.seq (.pl <| .e 13 3 <|
 .m 13 6 <|
 .m 14 8 <|
 .x 15 (.eqb true (.v 13) (.v 14)) .done) K83_4
abbrev K83_6:Pl:=.m 8 19 .done
abbrev K83_7:C:=.pl <| .e 13 7 <|
 .m 13 0 <|
 .a 14 5 <|
 .g 15 14 5 2 <|
 .x 16 (.ia 3 (.v 15) (.c (.int .i64 0))) <|
 .o (.ld (some 17) (.v 16) (some 3)) <|
 .m 18 2 <|
 .c 19 (.call fn_impl_translator_holds [.v 13,.v 17,.v 18]) K83_6
abbrev K83_8:Pl:=.n 20 (.px (some 28) (.mv (.v 27))) <|
 .y 28 (.px (some 29) (.mv (.v 7))) <|
 .n 20 (.px (some 30) (.pick (.v 28) (.v 29) (.c (.bool false)))) <|
 .x 31 (.pick (.v 20) (.c (.bool true)) (.v 30)) <|
 .m 8 31 .done
abbrev K83_9:Pl:=.m 20 19 <|
 .n 20 (.px (some 21) (.mv (.v 0))) <|
 .n 20 (.als 22 none 5) <|
 .n 20 (.pget (some 23) (some 22) 5 2 none) <|
 .n 20 (.px (some 24) (.ia 3 (.v 23) (.c (.int .i64 0)))) <|
 .n 20 (.ld (some 25) (.v 24) (some 3)) <|
 .n 20 (.px (some 26) (.mv (.v 1))) <|
 .st (.act (some (.v 20,false)) (.ex (some 27) (.call fn_impl_translator_holds [.v 21,.v 25,.v 26]))) K83_8
abbrev K83_10:C:=.pl <| .e 13 19 <|
 .m 13 0 <|
 .a 14 5 <|
 .g 15 14 5 2 <|
 .x 16 (.ia 3 (.v 15) (.c (.int .i64 1))) <|
 .o (.ld (some 17) (.v 16) (some 3)) <|
 .m 18 1 <|
 .c 19 (.call fn_impl_translator_holds [.v 13,.v 17,.v 18]) K83_9
abbrev K83_11:Pl:=.y 20 (.px (some 28) (.mv (.v 27))) <|
 .n 28 (.px (some 29) (.mv (.v 7))) <|
 .y 20 (.px (some 30) (.pick (.v 28) (.c (.bool true)) (.v 29))) <|
 .x 31 (.pick (.v 20) (.v 30) (.c (.bool false))) <|
 .m 8 31 .done
abbrev K83_12:Pl:=.m 20 19 <|
 .y 20 (.px (some 21) (.mv (.v 0))) <|
 .y 20 (.als 22 none 5) <|
 .y 20 (.pget (some 23) (some 22) 5 2 none) <|
 .y 20 (.px (some 24) (.ia 3 (.v 23) (.c (.int .i64 0)))) <|
 .y 20 (.ld (some 25) (.v 24) (some 3)) <|
 .y 20 (.px (some 26) (.mv (.v 1))) <|
 .st (.act (some (.v 20,true)) (.ex (some 27) (.call fn_impl_translator_holds [.v 21,.v 25,.v 26]))) K83_11
abbrev K83_13:C:=.pl <| .e 13 19 <|
 .m 13 0 <|
 .a 14 5 <|
 .g 15 14 5 2 <|
 .x 16 (.ia 3 (.v 15) (.c (.int .i64 1))) <|
 .o (.ld (some 17) (.v 16) (some 3)) <|
 .m 18 1 <|
 .c 19 (.call fn_impl_translator_holds [.v 13,.v 17,.v 18]) K83_12
abbrev K83_14:C:=.cond 13 (.v 14) K83_13 (.skip)
abbrev K83_15:C:=.seq (.pl <| .e 13 2 <|
 .x 13 (.bin .eql (.v 12) (.c (.int .i64 8))) <|
 .m 14 13 .done) K83_14
abbrev K83_16:C:=.cond 13 (.v 14) K83_10 K83_15
abbrev K83_17:C:=.seq (.pl <| .e 13 2 <|
 .x 13 (.bin .eql (.v 12) (.c (.int .i64 7))) <|
 .m 14 13 .done) K83_16
abbrev K83_18:C:=.cond 13 (.v 14) K83_7 K83_17
abbrev K83_19:C:=.block 2 (.seq (.pl <| .e 13 2 <|
 .x 13 (.bin .eql (.v 12) (.c (.int .i64 6))) <|
 .m 14 13 .done) K83_18)
abbrev K83_20:C:=.seq (.seq (.pl <| .e 13 1 <|
 .a 13 5 <|
 .g 12 13 5 0 .done) K83_19) K83_5
abbrev K83_21:C:=.seq (.pl <| .e 13 1 <|
 .m 13 6 <|
 .m 8 13 .done) K83_20
abbrev K83_22:C:=.seq (.pl <| .e 13 10 <|
 .m 13 1 <|
 .m 14 4 <|
 .x 15 (.bin .shr (.v 13) (.v 14)) <|
 .x 16 (.bin .and (.v 15) (.c (.int .i64 1))) <|
 .x 17 (.bin .eql (.v 16) (.c (.int .i64 1))) <|
 .m 18 2 <|
 .m 19 4 <|
 .x 20 (.bin .shr (.v 18) (.v 19)) <|
 .x 21 (.bin .and (.v 20) (.c (.int .i64 1))) <|
 .x 22 (.bin .eql (.v 21) (.c (.int .i64 1))) <|
 .m 6 17 <|
 .m 7 22 .done) K83_21
abbrev K83_23:C:=.seq (.block 1 (.seq (.pl <| .e 13 3 <|
 .m 13 11 <|
 .x 14 (.ia 3 (.v 9) (.v 11)) <|
 .o (.ld (some 15) (.v 14) (some 3)) <|
 .o (.pnew 5 (.c (.agg #[.int .i64 0,.int .i64 0,.slice none 0 0])) []) <|
 .m 4 13 <|
 .o (.pset none 5 0 3 (.v 15)) .done) K83_22)) K83_2
abbrev K83_24:C:=.seq (.cond 13 (.v 13) (.skip) (.exit 0)) K83_23
abbrev K83_25:C:=.seq (.pl <| .e 13 1 <|
 .x 13 (.bin .lss (.v 11) (.v 10)) .done) K83_24
abbrev K83_26:C:=.block 0 (.loop 13 [3,4,5,6,7,8,12] K83_25)
abbrev K83_27:C:=.seq (.seq (.pl <| .e 13 3 <|
 .m 13 0 <|
 .x 14 (.nilc (.v 13)) <|
 .x 15 (.fa 0 (.v 14)) <|
 .l 9 15 <|
 .x 10 (.lenV (.v 9)) <|
 .x 11 (.mv (.c (.int .i64 0))) .done) K83_26) K83_1
abbrev B_impl_translator_follows:C:=.seq (.pl <| .e 13 0 <|
 .x 3 (.mv (.c (.bool false))) .done) K83_27
def R_impl_translator_follows:FIR:=⟨B_impl_translator_follows,13,[(3,none)]⟩
theorem IR_impl_translator_follows:cfun Tryz.prog H_impl_translator_follows Tryz.f83=some R_impl_translator_follows:=by kernel_rfl
theorem EN_impl_translator_follows:ENT Tryz.prog B_impl_translator_follows [(3,none)] 3 13 fn_impl_translator_follows:=fun hargs hw=>enter Tryz.func83 rfl IR_impl_translator_follows hargs hw
namespace Fm
def arity (k:Int):Int:=if k=1∨k=2 then 0 else if k=3∨k=6∨k=9∨k=10 then 1 else if k=4∨k=5∨k=7∨k=8 then 2 else -1
structure Nd (x:Exq):Prop where
 ar:(x.kids.length:Int)=arity x.kind
 lo:0≤x.val
 hi:x.val<3
 ze:x.kind≠2→x.val=0
def Shp:Nat→Exq→Prop
 | 0,_=>False
 | n+1,x=>Nd x∧∀y∈x.kids,Shp n y
noncomputable instance {n:Nat}{x:Exq}:Decidable (Shp n x):=Classical.propDecidable _
def Ok (x:Exq):Prop:=Shp 6 x∧x.nod≤12
noncomputable instance {x:Exq}:Decidable (Ok x):=Classical.propDecidable _
theorem Nd.kind {x:Exq}(h:Nd x):1≤x.kind∧x.kind≤10:=by
 have:=h.ar
 unfold arity at this
 split at this<;>(try split at this)<;>(try split at this)<;>omega
theorem arity_le {k:Int}:arity k≤2:=by
 unfold arity
 split<;>(try split)<;>(try split)<;>omega
theorem arity_ge {k:Int}:-1≤arity k:=by
 unfold arity
 split<;>(try split)<;>(try split)<;>omega
theorem Shp.nd {n:Nat}{x:Exq}(h:Shp n x):Nd x:=by
 cases n with
 | zero=>exact h.elim
 | succ n=>exact h.1
theorem Shp.kid {n:Nat}{x:Exq}(h:Shp (n+1) x) {i:Nat}(hi:i<x.kids.length):Shp n x.kids[i]:=h.2 _ (List.getElem_mem hi)
theorem Shp.le2 {n:Nat}{x:Exq}(h:Shp n x):x.kids.length≤2:=by
 have h1:=h.nd.ar
 have h2:=arity_le (k:=x.kind)
 omega
theorem Shp.two {n:Nat}{x:Exq}(h:Shp n x) (hk:x.kind=4∨x.kind=5∨x.kind=7∨x.kind=8):x.kids.length=2:=by
 have h1:=h.nd.ar
 unfold arity at h1
 split at h1<;>(try split at h1)<;>(try split at h1)<;>omega
theorem Shp.one {n:Nat}{x:Exq}(h:Shp n x) (hk:x.kind=3∨x.kind=6∨x.kind=9∨x.kind=10):x.kids.length=1:=by
 have h1:=h.nd.ar
 unfold arity at h1
 split at h1<;>(try split at h1)<;>(try split at h1)<;>omega
theorem Shp.none {n:Nat}{x:Exq}(h:Shp n x) (hk:x.kind=1∨x.kind=2):x.kids=[]:=by
 have h1:=h.nd.ar
 rw[arity,if_pos hk] at h1
 exact List.length_eq_zero_iff.1 (by omega)
theorem Shp.mono:∀{n:Nat}{x:Exq},Shp n x→Shp (n+1) x
 | 0,_,h=>h.elim
 | n+1,_,h=>⟨h.1,fun y hy=>(h.2 y hy).mono⟩
theorem Shp.bnd:∀{n:Nat}{x:Exq},Shp n x→x.nod<2^n
 | 0,_,h=>h.elim
 | n+1,x,h=>by
  have h2:=h.le2
  rw[Exq.nod_eq]
  have h4:Exq.nods x.kids+x.kids.length≤x.kids.length*2^n:=by
   have key:∀l:List Exq,(∀y∈l,y.nod<2^n)→Exq.nods l+l.length≤l.length*2^n:=by
    intro l
    induction l with
    | nil=>intro _;simp[Exq.nods]
    | cons y l ih=>
     intro hy
     have e1:=hy y (by simp)
     have e2:=ih fun z hz=>hy z (by simp[hz])
     simp only[Exq.nods,List.length_cons,Nat.add_mul]
     omega
   exact key x.kids fun y hy=>(h.2 y hy).bnd
  have h5:0<2^n:=Nat.two_pow_pos n
  have h6:2^(n+1)=2*2^n:=by rw[Nat.pow_succ];omega
  rw[h6]
  obtain h7 | h7 | h7:x.kids.length=0∨x.kids.length=1∨x.kids.length=2:=by omega
  all_goals (rw[h7] at h4;omega)
def tru:Exq:=.mk 1 0 []
def neg (x:Exq):Exq:=.mk 3 0 [x]
def dual (k:Int):Int:=if k=4 then 5 else if k=5 then 4 else if k=7 then 8 else 7
mutual
def push:Exq→Bool→Exq
 | .mk k v l,n=>if k=1∨k=2 then (if n then neg (.mk k v []) else .mk k v [])
  else if k=3 then (pushes l (!n)).getD 0 Exq.zero
  else if k=6 then .mk 6 0 [(pushes l n).getD 0 Exq.zero]
  else if k=9∨k=10 then (if decide (k=9) != n then .mk 7 0 [tru,(pushes l n).getD 0 Exq.zero] else .mk 8 0 [neg tru,(pushes l n).getD 0 Exq.zero])
  else .mk (if n then dual k else k) 0 [(pushes l n).getD 0 Exq.zero,(pushes l n).getD 1 Exq.zero]
def pushes:List Exq→Bool→List Exq
 | [],_=>[]
 | x::l,n=>push x n::pushes l n
end
theorem pushes_eq {n:Bool}:∀l,pushes l n=l.map fun x=>push x n
 | []=>rfl
 | x::l=>by simp only[pushes,List.map_cons,pushes_eq l]
def kp (x:Exq) (n:Bool) (j:Nat):Exq:=(x.kids.map fun y=>push y n).getD j Exq.zero
theorem kp_at {x:Exq}{n:Bool}{j:Nat}(hj:j<x.kids.length):kp x n j=push x.kids[j] n:=by simp[kp,hj]
theorem push_eq (x:Exq) (n:Bool):push x n=if x.kind=1∨x.kind=2 then (if n then neg (.mk x.kind x.val []) else .mk x.kind x.val [])
  else if x.kind=3 then kp x (!n) 0
  else if x.kind=6 then .mk 6 0 [kp x n 0]
  else if x.kind=9∨x.kind=10 then (if decide (x.kind=9) != n then .mk 7 0 [tru,kp x n 0] else .mk 8 0 [neg tru,kp x n 0])
  else .mk (if n then dual x.kind else x.kind) 0 [kp x n 0,kp x n 1]:=by
 cases x with
 | mk k v l=>simp only[push,pushes_eq];rfl
noncomputable def nfR (x:Exq):Exq:=if Ok x∧Ok (push x false) then push x false else Exq.zero
noncomputable def fx (l:List Exq) (x:Exq):Int:=match l.findIdx? (fun y=>decide (y=x)) with | some i=>(i:Int) | .none=>-1
theorem fx_at {xs:List Exq}{st:Exq}{i:Nat}(hi:i<xs.length) (he:xs[i]=st) (hn:∀(j:Nat) (hj:j<xs.length),j<i→xs[j]≠st):fx xs st=i:=by
 have:xs.findIdx? (fun y=>decide (y=st))=some i:=by
  rw[List.findIdx?_eq_some_iff_getElem]
  exact⟨hi,by simpa using he,fun j hj=>by simpa using hn j (by omega) hj⟩
 rw[fx,this]
theorem fx_not {xs:List Exq}{st:Exq}(h:st∉xs):fx xs st = -1:=by
 have:xs.findIdx? (fun y=>decide (y=st))=.none:=by
  rw[List.findIdx?_eq_none_iff]
  intro y hy
  simp only[decide_eq_false_iff_not]
  rintro rfl
  exact h hy
 rw[fx,this]
theorem fx_mem {xs:List Exq}{st:Exq}(h:st∈xs):∃(i:Nat) (hi:i<xs.length),fx xs st=i∧xs[i]=st:=by
 obtain⟨i,hi⟩:∃i,xs.findIdx? (fun y=>decide (y=st))=some i:=by
  rcases hf:xs.findIdx? (fun y=>decide (y=st)) with _ | i
  ·rw[List.findIdx?_eq_none_iff] at hf
   have:=hf st h
   simp at this
  ·exact⟨i,rfl⟩
 have h2:=hi
 rw[List.findIdx?_eq_some_iff_getElem] at h2
 obtain⟨h3,h4,_⟩:=h2
 exact⟨i,h3,by rw[fx,hi],by simpa using h4⟩
theorem fx_neg {xs:List Exq}{st:Exq}:fx xs st<0↔st∉xs:=by
 constructor
 ·intro h hm
  obtain⟨i,_,e,_⟩:=fx_mem hm
  omega
 ·intro h
  rw[fx_not h]
  decide
noncomputable def ins (o:List Exq) (x:Exq):List Exq:=if x∈o then o else o++[x]
mutual
noncomputable def subs:Exq→List Exq→List Exq
 | .mk k v l,o=>ins (subsL l o) (.mk k v l)
noncomputable def subsL:List Exq→List Exq→List Exq
 | [],o=>o
 | x::l,o=>subsL l (subs x o)
end
theorem subsL_eq:∀(l:List Exq) (o:List Exq),subsL l o=l.foldl (fun o x=>subs x o) o
 | [],_=>rfl
 | x::l,o=>by rw[subsL,subsL_eq l,List.foldl_cons]
theorem subs_eq (x:Exq) (o:List Exq):subs x o=ins (x.kids.foldl (fun o x=>subs x o) o) x:=by
 cases x with
 | mk k v l=>rw[subs,subsL_eq];rfl
theorem ins_len {o:List Exq}{x:Exq}:(ins o x).length≤o.length+1:=by unfold ins;split<;>simp
theorem subsL_len:∀(l:List Exq),(∀x∈l,∀o,(subs x o).length≤o.length+x.nod)→∀o,(l.foldl (fun o x=>subs x o) o).length≤o.length+Exq.nods l
 | [],_,o=>by simp[Exq.nods]
 | x::l,h,o=>by
  have h1:=h x (by simp) o
  have h2:=subsL_len l (fun y hy=>h y (by simp[hy])) (subs x o)
  simp only[List.foldl_cons,Exq.nods]
  omega
theorem subs_len:∀(x:Exq) (o:List Exq),(subs x o).length≤o.length+x.nod:=by
 have key:∀(n:Nat) (x:Exq),x.nod≤n→∀o,(subs x o).length≤o.length+x.nod:=by
  intro n
  induction n with
  | zero=>intro x h;rw[Exq.nod_eq] at h;omega
  | succ n ih=>
   intro x hx o
   rw[Exq.nod_eq] at hx ⊢
   rw[subs_eq]
   have h1:=subsL_len x.kids (fun y hy=>ih y (by
    obtain⟨i,hi,rfl⟩:=List.mem_iff_getElem.1 hy
    have e1:=Exq.nods_take hi
    have e2:=Exq.nods_le x.kids (i+1)
    omega)) o
   have h2:=ins_len (o:=x.kids.foldl (fun o x=>subs x o) o) (x:=x)
   omega
 exact fun x o=>key x.nod x (Nat.le_refl _) o
theorem subs_all {P:Exq→Prop}:∀(n:Nat) (x:Exq),(∀y,P y→∀z∈y.kids,P z)→x.nod≤n→P x→∀(o:List Exq),(∀y∈o,P y)→∀y∈subs x o,P y:=by
 intro n
 induction n with
 | zero=>intro x _ h;rw[Exq.nod_eq] at h;omega
 | succ n ih=>
  intro x hP hx hPx o ho
  rw[Exq.nod_eq] at hx
  rw[subs_eq]
  have hl:∀(l:List Exq),(∀z∈l,P z∧z.nod≤n)→∀(o:List Exq),(∀y∈o,P y)→∀y∈l.foldl (fun o x=>subs x o) o,P y:=by
   intro l
   induction l with
   | nil=>intro _ o ho;exact ho
   | cons z l ihl=>
    intro hz o ho
    rw[List.foldl_cons]
    exact ihl (fun w hw=>hz w (by simp[hw])) _ (ih z hP (hz z (by simp)).2 (hz z (by simp)).1 o ho)
  have h1:=hl x.kids (fun z hz=>⟨hP x hPx z hz,by
   obtain⟨i,hi,rfl⟩:=List.mem_iff_getElem.1 hz
   have e1:=Exq.nods_take hi
   have e2:=Exq.nods_le x.kids (i+1)
   omega⟩) o ho
  intro y hy
  unfold ins at hy
  split at hy
  ·exact h1 y hy
  ·rcases List.mem_append.1 hy with hy | hy
   ·exact h1 y hy
   ·simp at hy;subst hy;exact hPx
def bas (x:Exq):Bool:=decide (x.kind=2∨x.kind=6∨x.kind=7∨x.kind=8)
noncomputable def basics (x:Exq):List Exq:=(subs (push x false) []).filter bas
def bOk (x:Exq):Prop:=(Ok x∧Ok (push x false))∧(basics x).length≤5
noncomputable instance {x:Exq}:Decidable (bOk x):=Classical.propDecidable _
noncomputable def basR (x:Exq):List Exq:=if bOk x then basics x else []
theorem Shp.kids6 {x:Exq}(h:∃n,n≤6∧Shp n x):∀y∈x.kids,∃n,n≤6∧Shp n y:=by
 obtain⟨n,hn,hs⟩:=h
 cases n with
 | zero=>exact hs.elim
 | succ n=>exact fun y hy=>⟨n,by omega,hs.2 y hy⟩
theorem Shp.up {n m:Nat}{x:Exq}(h:Shp n x) (hm:n≤m):Shp m x:=by
 induction m with
 | zero=>have:n=0:=by omega
         subst this;exact h
 | succ m ih=>
  by_cases e:n=m+1
  ·subst e;exact h
  ·exact (ih (by omega)).mono
theorem basics_ok {x:Exq}(h:bOk x):∀y∈basics x,Shp 6 y∧bas y=true:=by
 intro y hy
 obtain⟨h1,h2⟩:=List.mem_filter.1 hy
 obtain⟨n,hn,h3⟩:=subs_all (P:=fun y=>∃n,n≤6∧Shp n y) _ (push x false) (fun y hy=>Shp.kids6 hy) (Nat.le_refl _) ⟨6,Nat.le_refl _,h.1.2.1⟩ [] (fun y hy=>by simp at hy) y h1
 exact⟨h3.up hn,h2⟩
end Fm
end Go.Proofs.YtedbaenahnfhfaaGreat
