/-
  Texts of this proof, one behind the other.
-/
import Derived.Test.YtielhfonnleldaaGreatYF3
set_option linter.all false
set_option linter.unusedVariables false
set_option linter.unusedSimpArgs false
set_option linter.defProp false
set_option maxRecDepth 1000000
namespace Go.Proofs.YtielhfonnleldaaGreat
open Go
def H_impl_shortest:Hint:=⟨[(0,false),(1,false),(2,false),(6,false),(7,false),(8,false),(9,false),(11,false),(12,false),(13,false),(14,false),(16,false),(21,false),(22,false),(29,false),(30,false),(31,false),(76,false),(77,false),(78,false)],[[3,5,6,7,8,9,10,11,14,15,16,17,18,19],[1,3,5,7,8,9,10,11,12,13,17,18,19],[1,3,5,7,9,10,11,12,13,14,15,16,17,18,19],[0,1,2,3,5,6,7,8,11,12,13,14,15,16,17,18,19],[1,3,5,7,9,10,11,12,13,14,15,16]]⟩
def K116_1:C:=.seq (.pl <| .e 20 0 <|
 .x 3 (.mv (.c (.slice none 0 0))) .done) (.ret)
@[simp] def W116_1:=C.w K116_1.eq_1
def K116_2:C:=.pl <| .e 20 2 <|
 .m 20 8 <|
 .x 21 (.bin .add (.v 20) (.c (.int .i64 1))) <|
 .m 8 21 .done
@[simp] def W116_2:=C.w K116_2.eq_1
def K116_3:C:=.pl <| .e 20 1 <|
 .x 20 (.bin .add (.v 19) (.c (.int .i64 1))) <|
 .m 19 20 .done
@[simp] def W116_3:=C.w K116_3.eq_1
def K116_4:Pl:=.m 6 23 .done
@[simp] def W116_4:=Pl.w K116_4.eq_1
def K116_5:C:=.pl <| .e 20 4 <|
 .m 20 6 <|
 .m 21 11 <|
 .o (.psl 22 [.int .i64 0] [(0,1,.v 21)]) <|
 .c 23 (.app 8 1 [.int .i64 0] (.o (.v 20)) (.p 1 22)) K116_4
@[simp] def W116_5:=C.w K116_5.eq_1
def K116_6:C:=.seq (.pl <| .e 20 7 <|
 .m 20 4 <|
 .m 21 11 <|
 .m 22 6 <|
 .m 23 8 <|
 .x 24 (.ia 1 (.v 22) (.v 23)) <|
 .l 25 24 <|
 .x 26 (.ia 1 (.v 20) (.v 21)) <|
 .o (.ex none (.store 1 (.v 26) (.v 25))) .done) K116_5
@[simp] def W116_6:=C.w K116_6.eq_1
def K116_7:C:=.cond 20 (.v 24) K116_6 (.skip)
@[simp] def W116_7:=C.w K116_7.eq_1
def K116_8:C:=.seq (.pl <| .e 20 5 <|
 .m 20 4 <|
 .m 21 11 <|
 .x 22 (.ia 1 (.v 20) (.v 21)) <|
 .l 23 22 <|
 .x 24 (.bin .eql (.v 23) (.c (.int .i64 (-2)))) .done) K116_7
@[simp] def W116_8:=C.w K116_8.eq_1
def K116_9:C:=.seq (.block 9 (.seq (.pl <| .e 20 2 <|
 .x 20 (.ia 1 (.v 17) (.v 19)) <|
 .l 21 20 <|
 .m 11 21 .done) K116_8)) K116_3
@[simp] def W116_9:=C.w K116_9.eq_1
def K116_10:C:=.seq (.cond 20 (.v 20) (.skip) (.exit 8)) K116_9
@[simp] def W116_10:=C.w K116_10.eq_1
def K116_11:C:=.seq (.pl <| .e 20 1 <|
 .x 20 (.bin .lss (.v 19) (.v 18)) .done) K116_10
@[simp] def W116_11:=C.w K116_11.eq_1
def K116_12:C:=.block 8 (.loop 20 [1,3,5,7,9,10,11,12,13,14,15,16] K116_11)
@[simp] def W116_12:=C.w K116_12.eq_1
def K116_13:C:=.seq (.pl <| .e 20 6 <|
 .m 20 0 <|
 .m 21 6 <|
 .m 22 8 <|
 .x 23 (.ia 1 (.v 21) (.v 22)) <|
 .l 24 23 <|
 .x 25 (.ia 1 (.v 20) (.v 24)) <|
 .l 17 25 <|
 .x 18 (.lenV (.v 17)) <|
 .x 19 (.mv (.c (.int .i64 0))) .done) K116_12
@[simp] def W116_13:=C.w K116_13.eq_1
def K116_14:Pl:=.m 3 21 .done
@[simp] def W116_14:=Pl.w K116_14.eq_1
def K116_15:C:=.seq (.pl <| .e 20 2 <|
 .m 20 10 <|
 .c 21 (.call fn_slices_Clip_S_int_int [.v 20]) K116_14) (.ret)
@[simp] def W116_15:=C.w K116_15.eq_1
def K116_16:C:=.seq (.pl <| .e 20 2 <|
 .m 20 10 <|
 .c 21 (.call fn_slices_Reverse_S_int_int [.v 20]) .done) K116_15
@[simp] def W116_16:=C.w K116_16.eq_1
def K116_17:C:=.pl <| .e 20 4 <|
 .m 20 4 <|
 .m 21 9 <|
 .x 22 (.ia 1 (.v 20) (.v 21)) <|
 .l 23 22 <|
 .m 9 23 .done
@[simp] def W116_17:=C.w K116_17.eq_1
def K116_18:Pl:=.m 10 23 .done
@[simp] def W116_18:=Pl.w K116_18.eq_1
def K116_19:C:=.seq (.block 7 (.pl <| .e 20 4 <|
 .m 20 10 <|
 .m 21 9 <|
 .o (.psl 22 [.int .i64 0] [(0,1,.v 21)]) <|
 .c 23 (.app 8 1 [.int .i64 0] (.o (.v 20)) (.p 1 22)) K116_18)) K116_17
@[simp] def W116_19:=C.w K116_19.eq_1
def K116_20:C:=.cond 20 (.v 21) (.skip) (.exit 6)
@[simp] def W116_20:=C.w K116_20.eq_1
def K116_21:C:=.seq (.seq (.pl <| .e 20 2 <|
 .m 20 9 <|
 .x 21 (.bin .geq (.v 20) (.c (.int .i64 0))) .done) K116_20) K116_19
@[simp] def W116_21:=C.w K116_21.eq_1
def K116_22:C:=.seq (.block 6 (.loop 20 [0,1,2,3,5,6,7,8,11,12,13,14,15,16,17,18,19] K116_21)) K116_16
@[simp] def W116_22:=C.w K116_22.eq_1
def K116_23:C:=.seq (.pl <| .e 20 0 <|
 .x 10 (.mv (.c (.slice none 0 0))) .done) K116_22
@[simp] def W116_23:=C.w K116_23.eq_1
def K116_24:C:=.cond 20 (.v 22) K116_23 (.skip)
@[simp] def W116_24:=C.w K116_24.eq_1
def K116_25:C:=.seq (.pl <| .e 20 3 <|
 .m 20 2 <|
 .m 21 9 <|
 .c 22 (.callv (.v 20) [.v 21]) .done) K116_24
@[simp] def W116_25:=C.w K116_25.eq_1
def K116_26:C:=.seq (.block 5 (.seq (.seq (.pl <| .e 20 4 <|
 .m 20 6 <|
 .m 21 8 <|
 .x 22 (.ia 1 (.v 20) (.v 21)) <|
 .l 23 22 <|
 .m 9 23 .done) K116_25) K116_13)) K116_2
@[simp] def W116_26:=C.w K116_26.eq_1
def K116_27:C:=.cond 20 (.v 23) (.skip) (.exit 4)
@[simp] def W116_27:=C.w K116_27.eq_1
def K116_28:C:=.seq (.seq (.pl <| .e 20 4 <|
 .m 20 8 <|
 .m 21 6 <|
 .x 22 (.lenV (.v 21)) <|
 .x 23 (.bin .lss (.v 20) (.v 22)) .done) K116_27) K116_26
@[simp] def W116_28:=C.w K116_28.eq_1
def K116_29:C:=.block 4 (.loop 20 [1,3,5,7,9,10,11,12,13,14,15,16,17,18,19] K116_28)
@[simp] def W116_29:=C.w K116_29.eq_1
def K116_30:C:=.seq (.seq (.pl <| .e 20 0 <|
 .x 8 (.mv (.c (.int .i64 0))) .done) K116_29) K116_1
@[simp] def W116_30:=C.w K116_30.eq_1
def K116_31:C:=.pl <| .e 20 1 <|
 .x 20 (.bin .add (.v 16) (.c (.int .i64 1))) <|
 .m 16 20 .done
@[simp] def W116_31:=C.w K116_31.eq_1
def K116_32:Pl:=.m 6 23 .done
@[simp] def W116_32:=Pl.w K116_32.eq_1
def K116_33:C:=.pl <| .e 20 4 <|
 .m 20 6 <|
 .m 21 7 <|
 .o (.psl 22 [.int .i64 0] [(0,1,.v 21)]) <|
 .c 23 (.app 8 1 [.int .i64 0] (.o (.v 20)) (.p 1 22)) K116_32
@[simp] def W116_33:=C.w K116_33.eq_1
def K116_34:C:=.seq (.pl <| .e 20 3 <|
 .m 20 4 <|
 .m 21 7 <|
 .x 22 (.ia 1 (.v 20) (.v 21)) <|
 .o (.ex none (.store 1 (.v 22) (.c (.int .i64 (-1))))) .done) K116_33
@[simp] def W116_34:=C.w K116_34.eq_1
def K116_35:C:=.seq (.block 3 (.seq (.pl <| .e 20 2 <|
 .x 20 (.ia 1 (.v 14) (.v 16)) <|
 .l 21 20 <|
 .m 7 21 .done) K116_34)) K116_31
@[simp] def W116_35:=C.w K116_35.eq_1
def K116_36:C:=.seq (.cond 20 (.v 20) (.skip) (.exit 2)) K116_35
@[simp] def W116_36:=C.w K116_36.eq_1
def K116_37:C:=.seq (.pl <| .e 20 1 <|
 .x 20 (.bin .lss (.v 16) (.v 15)) .done) K116_36
@[simp] def W116_37:=C.w K116_37.eq_1
def K116_38:C:=.block 2 (.loop 20 [1,3,5,7,8,9,10,11,12,13,17,18,19] K116_37)
@[simp] def W116_38:=C.w K116_38.eq_1
def K116_39:C:=.seq (.seq (.pl <| .e 20 0 <|
 .m 14 1 <|
 .x 15 (.lenV (.v 14)) <|
 .x 16 (.mv (.c (.int .i64 0))) .done) K116_38) K116_30
@[simp] def W116_39:=C.w K116_39.eq_1
def K116_40:C:=.seq (.pl <| .e 20 0 <|
 .x 6 (.mv (.c (.slice none 0 0))) .done) K116_39
@[simp] def W116_40:=C.w K116_40.eq_1
def K116_41:C:=.pl <| .e 20 1 <|
 .x 20 (.bin .add (.v 13) (.c (.int .i64 1))) <|
 .m 13 20 .done
@[simp] def W116_41:=C.w K116_41.eq_1
def K116_42:C:=.pl <| .e 20 3 <|
 .m 20 4 <|
 .m 21 5 <|
 .x 22 (.ia 1 (.v 20) (.v 21)) <|
 .o (.ex none (.store 1 (.v 22) (.c (.int .i64 (-2))))) .done
@[simp] def W116_42:=C.w K116_42.eq_1
def K116_43:C:=.seq (.block 1 (.seq (.pl <| .e 20 1 <|
 .m 20 13 <|
 .m 5 20 .done) K116_42)) K116_41
@[simp] def W116_43:=C.w K116_43.eq_1
def K116_44:C:=.seq (.cond 20 (.v 20) (.skip) (.exit 0)) K116_43
@[simp] def W116_44:=C.w K116_44.eq_1
def K116_45:C:=.seq (.pl <| .e 20 1 <|
 .x 20 (.bin .lss (.v 13) (.v 12)) .done) K116_44
@[simp] def W116_45:=C.w K116_45.eq_1
def K116_46:C:=.block 0 (.loop 20 [3,5,6,7,8,9,10,11,14,15,16,17,18,19] K116_45)
@[simp] def W116_46:=C.w K116_46.eq_1
def K116_47:C:=.seq (.seq (.pl <| .e 20 1 <|
 .m 20 4 <|
 .x 12 (.lenV (.v 20)) <|
 .x 13 (.mv (.c (.int .i64 0))) .done) K116_46) K116_40
@[simp] def W116_47:=C.w K116_47.eq_1
def K116_48:Pl:=.m 4 22 .done
@[simp] def W116_48:=Pl.w K116_48.eq_1
def K116_49:C:=.seq (.pl <| .e 20 3 <|
 .m 20 0 <|
 .x 21 (.lenV (.v 20)) <|
 .c 22 (.mks 8 1 [.int .i64 0] (.v 21) (.v 21)) K116_48) K116_47
@[simp] def W116_49:=C.w K116_49.eq_1
def B_impl_shortest:C:=.seq (.pl <| .e 20 0 <|
 .x 3 (.mv (.c (.slice none 0 0))) .done) K116_49
@[simp] def WB_impl_shortest:=C.w B_impl_shortest.eq_1
def R_impl_shortest:FIR:=⟨B_impl_shortest,20,[(3,none)]⟩
theorem IR_impl_shortest:cfun Tryz.prog H_impl_shortest Tryz.f116=some R_impl_shortest:=by kernel_rfl
theorem EN_impl_shortest:ENT Tryz.prog B_impl_shortest [(3,none)] 3 20 fn_impl_shortest:=fun hargs hw=>enter Tryz.func116 rfl IR_impl_shortest hargs hw
def H_laws_FnTranslateNegation:Hint:=⟨[(0,false),(1,false),(4,false),(5,true),(6,true),(7,true),(8,true),(9,false),(10,true),(11,false),(12,true),(13,false),(14,true),(15,false),(16,false),(17,false),(18,false),(19,false),(20,true),(21,false),(22,true),(23,false)],[]⟩
def K3_1:C:=.seq (.pl <| .e 22 12 <|
 .m 22 15 <|
 .m 23 17 <|
 .x 24 (.eqb false (.v 22) (.v 23)) <|
 .m 25 24 <|
 .y 25 (.px (some 26) (.mv (.v 15))) <|
 .y 25 (.px (some 27) (.un .not (.v 26))) <|
 .y 25 (.px (some 28) (.mv (.v 27))) <|
 .n 28 (.px (some 29) (.mv (.v 14))) <|
 .n 28 (.px (some 30) (.mv (.v 16))) <|
 .n 28 (.px (some 31) (.eqb true (.v 29) (.v 30))) <|
 .y 25 (.px (some 32) (.pick (.v 28) (.c (.bool true)) (.v 31))) <|
 .x 33 (.pick (.v 25) (.v 32) (.c (.bool false))) <|
 .m 2 33 .done) (.ret)
@[simp] def W3_1:=C.w K3_1.eq_1
def K3_2:C:=.seq (.pl <| .e 22 0 <|
 .x 2 (.mv (.c (.bool false))) .done) (.ret)
@[simp] def W3_2:=C.w K3_2.eq_1
def K3_3:C:=.cond 22 (.v 22) K3_2 (.skip)
@[simp] def W3_3:=C.w K3_3.eq_1
def K3_4:C:=.seq (.pl <| .e 22 1 <|
 .m 22 21 .done) K3_3
@[simp] def W3_4:=C.w K3_4.eq_1
def K3_5:Pl:=.m 24 23 <|
 .x 25 (.extract 0 (.v 24)) <|
 .x 26 (.extract 1 (.v 24)) <|
 .o (.pnew 20 (.c (.agg #[.slice none 0 0,.slice none 0 0])) []) <|
 .o (.pset none 20 0 2 (.v 25)) <|
 .m 21 26 .done
@[simp] def W3_5:=Pl.w K3_5.eq_1
def K3_6:C:=.seq (.pl <| .e 22 5 <|
 .o (.pget (some 22) none 18 0 (some 3)) <|
 .c 23 (.call fn_impl_FindWord [.v 22]) K3_5) K3_4
@[simp] def W3_6:=C.w K3_6.eq_1
def K3_7:C:=.cond 22 (.v 22) K3_6 (.skip)
@[simp] def W3_7:=C.w K3_7.eq_1
def K3_8:C:=.seq (.seq (.pl <| .e 22 1 <|
 .m 22 19 .done) K3_7) K3_1
@[simp] def W3_8:=C.w K3_8.eq_1
def K3_9:Pl:=.m 25 24 <|
 .x 26 (.extract 0 (.v 25)) <|
 .x 27 (.extract 1 (.v 25)) <|
 .o (.pnew 18 (.c (.agg #[.slice none 0 0,.slice none 0 0,.slice none 0 0])) []) <|
 .o (.pset none 18 0 3 (.v 26)) <|
 .m 19 27 .done
@[simp] def W3_9:=Pl.w K3_9.eq_1
def K3_10:C:=.seq (.pl <| .e 22 6 <|
 .o (.pget (some 22) none 8 0 (some 3)) <|
 .o (.pget (some 23) none 12 0 (some 3)) <|
 .c 24 (.call fn_impl_IntersectAutomata [.v 22,.v 23]) K3_9) K3_8
@[simp] def W3_10:=C.w K3_10.eq_1
def K3_11:Pl:=.m 25 24 <|
 .x 26 (.extract 0 (.v 25)) <|
 .x 27 (.extract 1 (.v 25)) <|
 .m 16 26 <|
 .m 17 27 .done
@[simp] def W3_11:=Pl.w K3_11.eq_1
def K3_12:C:=.seq (.pl <| .e 22 6 <|
 .o (.pget (some 22) none 12 0 (some 3)) <|
 .o (.pget (some 23) none 5 0 (some 2)) <|
 .c 24 (.call fn_impl_Accepts [.v 22,.v 23]) K3_11) K3_10
@[simp] def W3_12:=C.w K3_12.eq_1
def K3_13:Pl:=.m 25 24 <|
 .x 26 (.extract 0 (.v 25)) <|
 .x 27 (.extract 1 (.v 25)) <|
 .m 14 26 <|
 .m 15 27 .done
@[simp] def W3_13:=Pl.w K3_13.eq_1
def K3_14:C:=.seq (.pl <| .e 22 6 <|
 .o (.pget (some 22) none 8 0 (some 3)) <|
 .o (.pget (some 23) none 5 0 (some 2)) <|
 .c 24 (.call fn_impl_Accepts [.v 22,.v 23]) K3_13) K3_12
@[simp] def W3_14:=C.w K3_14.eq_1
def K3_15:Pl:=.x 29 (.pick (.v 25) (.v 28) (.c (.bool false))) <|
 .m 2 29 .done
@[simp] def W3_15:=Pl.w K3_15.eq_1
def K3_16:C:=.seq (.pl <| .e 22 8 <|
 .m 22 9 <|
 .m 23 11 <|
 .x 24 (.eqb false (.v 22) (.v 23)) <|
 .m 25 24 <|
 .y 25 (.pget (some 26) none 8 0 (some 3)) <|
 .y 25 (.pget (some 27) none 10 0 (some 3)) <|
 .st (.act (some (.v 25,true)) (.ex (some 28) (.call fn_impl_AutomatonSame [.v 26,.v 27]))) K3_15) (.ret)
@[simp] def W3_16:=C.w K3_16.eq_1
def K3_17:C:=.cond 22 (.v 42) K3_16 (.skip)
@[simp] def W3_17:=C.w K3_17.eq_1
def K3_18:Pl:=.n 25 (.px (some 29) (.un .not (.v 28))) <|
 .x 30 (.pick (.v 25) (.c (.bool true)) (.v 29)) <|
 .m 31 30 <|
 .n 31 (.px (some 32) (.mv (.v 7))) <|
 .n 31 (.px (some 33) (.un .not (.v 32))) <|
 .x 34 (.pick (.v 31) (.c (.bool true)) (.v 33)) <|
 .m 35 34 <|
 .n 35 (.px (some 36) (.mv (.v 9))) <|
 .n 35 (.px (some 37) (.un .not (.v 36))) <|
 .x 38 (.pick (.v 35) (.c (.bool true)) (.v 37)) <|
 .m 39 38 <|
 .n 39 (.px (some 40) (.mv (.v 13))) <|
 .n 39 (.px (some 41) (.un .not (.v 40))) <|
 .x 42 (.pick (.v 39) (.c (.bool true)) (.v 41)) .done
@[simp] def W3_18:=Pl.w K3_18.eq_1
def K3_19:C:=.seq (.seq (.pl <| .e 22 21 <|
 .m 22 9 <|
 .m 23 11 <|
 .x 24 (.eqb true (.v 22) (.v 23)) <|
 .m 25 24 <|
 .n 25 (.pget (some 26) none 8 0 (some 3)) <|
 .n 25 (.pget (some 27) none 10 0 (some 3)) <|
 .st (.act (some (.v 25,false)) (.ex (some 28) (.call fn_impl_AutomatonSame [.v 26,.v 27]))) K3_18) K3_17) K3_14
@[simp] def W3_19:=C.w K3_19.eq_1
def K3_20:Pl:=.m 24 23 <|
 .x 25 (.extract 0 (.v 24)) <|
 .x 26 (.extract 1 (.v 24)) <|
 .o (.pnew 12 (.c (.agg #[.slice none 0 0,.slice none 0 0,.slice none 0 0])) []) <|
 .o (.pset none 12 0 3 (.v 25)) <|
 .m 13 26 .done
@[simp] def W3_20:=Pl.w K3_20.eq_1
def K3_21:C:=.seq (.pl <| .e 22 5 <|
 .o (.pget (some 22) none 6 0 (some 3)) <|
 .c 23 (.call fn_impl_TranslateFormula [.v 22]) K3_20) K3_19
@[simp] def W3_21:=C.w K3_21.eq_1
def K3_22:Pl:=.m 24 23 <|
 .x 25 (.extract 0 (.v 24)) <|
 .x 26 (.extract 1 (.v 24)) <|
 .o (.pnew 10 (.c (.agg #[.slice none 0 0,.slice none 0 0,.slice none 0 0])) []) <|
 .o (.pset none 10 0 3 (.v 25)) <|
 .m 11 26 .done
@[simp] def W3_22:=Pl.w K3_22.eq_1
def K3_23:C:=.seq (.pl <| .e 22 5 <|
 .o (.pget (some 22) none 3 0 (some 3)) <|
 .c 23 (.call fn_spec_TranslateFormula [.v 22]) K3_22) K3_21
@[simp] def W3_23:=C.w K3_23.eq_1
def K3_24:Pl:=.m 24 23 <|
 .x 25 (.extract 0 (.v 24)) <|
 .x 26 (.extract 1 (.v 24)) <|
 .o (.pnew 8 (.c (.agg #[.slice none 0 0,.slice none 0 0,.slice none 0 0])) []) <|
 .o (.pset none 8 0 3 (.v 25)) <|
 .m 9 26 .done
@[simp] def W3_24:=Pl.w K3_24.eq_1
def K3_25:C:=.seq (.pl <| .e 22 5 <|
 .o (.pget (some 22) none 3 0 (some 3)) <|
 .c 23 (.call fn_impl_TranslateFormula [.v 22]) K3_24) K3_23
@[simp] def W3_25:=C.w K3_25.eq_1
def K3_26:Pl:=.m 24 23 <|
 .x 25 (.extract 0 (.v 24)) <|
 .x 26 (.extract 1 (.v 24)) <|
 .o (.pnew 6 (.c (.agg #[.int .i64 0,.int .i64 0,.slice none 0 0])) []) <|
 .o (.pset none 6 0 3 (.v 25)) <|
 .m 7 26 .done
@[simp] def W3_26:=Pl.w K3_26.eq_1
def K3_27:C:=.seq (.pl <| .e 22 5 <|
 .o (.pget (some 22) none 3 0 (some 3)) <|
 .c 23 (.call fn_impl_NegateFormula [.v 22]) K3_26) K3_25
@[simp] def W3_27:=C.w K3_27.eq_1
def K3_28:Pl:=.m 24 23 <|
 .x 25 (.extract 0 (.v 24)) <|
 .x 26 (.extract 1 (.v 24)) <|
 .o (.pnew 4 (.c (.agg #[.slice none 0 0,.slice none 0 0,.slice none 0 0])) []) <|
 .o (.pnew 5 (.c (.agg #[.slice none 0 0,.slice none 0 0])) []) <|
 .o (.pset none 4 0 3 (.v 25)) <|
 .o (.pset none 5 0 2 (.v 26)) .done
@[simp] def W3_28:=Pl.w K3_28.eq_1
def K3_29:C:=.seq (.pl <| .e 22 5 <|
 .m 22 1 <|
 .c 23 (.call fn_spec_DrawAccepts [.v 22]) K3_28) K3_27
@[simp] def W3_29:=C.w K3_29.eq_1
def K3_30:Pl:=.o (.pnew 3 (.c (.agg #[.int .i64 0,.int .i64 0,.slice none 0 0])) []) <|
 .o (.pset none 3 0 3 (.v 23)) .done
@[simp] def W3_30:=Pl.w K3_30.eq_1
def K3_31:C:=.seq (.pl <| .e 22 2 <|
 .m 22 0 <|
 .c 23 (.call fn_spec_DrawTranslateFormula [.v 22]) K3_30) K3_29
@[simp] def W3_31:=C.w K3_31.eq_1
def K3_32:C:=.seq (.pl <| .e 22 0 <|
 .x 2 (.mv (.c (.bool true))) .done) (.ret)
@[simp] def W3_32:=C.w K3_32.eq_1
def K3_33:C:=.cond 22 (.v 29) K3_32 (.skip)
@[simp] def W3_33:=C.w K3_33.eq_1
def K3_34:C:=.seq (.seq (.pl <| .e 22 8 <|
 .m 22 0 <|
 .x 23 (.lenV (.v 22)) <|
 .x 24 (.bin .gtr (.v 23) (.c (.int .i64 1048576))) <|
 .m 25 24 <|
 .n 25 (.px (some 26) (.mv (.v 1))) <|
 .n 25 (.px (some 27) (.lenV (.v 26))) <|
 .n 25 (.px (some 28) (.bin .gtr (.v 27) (.c (.int .i64 1048576)))) <|
 .x 29 (.pick (.v 25) (.c (.bool true)) (.v 28)) .done) K3_33) K3_31
@[simp] def W3_34:=C.w K3_34.eq_1
def B_laws_FnTranslateNegation:C:=.seq (.pl <| .e 22 0 <|
 .x 2 (.mv (.c (.bool false))) .done) K3_34
@[simp] def WB_laws_FnTranslateNegation:=C.w B_laws_FnTranslateNegation.eq_1
def R_laws_FnTranslateNegation:FIR:=⟨B_laws_FnTranslateNegation,22,[(2,none)]⟩
theorem IR_laws_FnTranslateNegation:cfun Tryz.prog H_laws_FnTranslateNegation Tryz.f3=some R_laws_FnTranslateNegation:=by kernel_rfl
theorem EN_laws_FnTranslateNegation:ENT Tryz.prog B_laws_FnTranslateNegation [(2,none)] 2 22 fn_laws_FnTranslateNegation:=fun hargs hw=>enter Tryz.func3 rfl IR_laws_FnTranslateNegation hargs hw
def H_slices_Concat_S_int_int:Hint:=⟨[(0,false),(2,false),(3,false),(5,false),(6,false),(8,false),(9,false),(10,false),(11,false),(25,false),(26,false),(27,false)],[[1,3,4,5,9,10,11],[0,1,2,3,5,6,7,8]]⟩
def K155_1:C:=.seq (.pl <| .e 12 1 <|
 .m 12 4 <|
 .m 1 12 .done) (.ret)
@[simp] def W155_1:=C.w K155_1.eq_1
def K155_2:C:=.pl <| .e 12 1 <|
 .x 12 (.bin .add (.v 11) (.c (.int .i64 1))) <|
 .m 11 12 .done
@[simp] def W155_2:=C.w K155_2.eq_1
def K155_3:Pl:=.m 4 14 .done
@[simp] def W155_3:=Pl.w K155_3.eq_1
def K155_4:C:=.pl <| .e 12 3 <|
 .m 12 4 <|
 .m 13 5 <|
 .c 14 (.app 8 1 [.int .i64 0] (.o (.v 12)) (.o (.v 13))) K155_3
@[simp] def W155_4:=C.w K155_4.eq_1
def K155_5:C:=.seq (.block 3 (.seq (.pl <| .e 12 2 <|
 .x 12 (.ia 1 (.v 9) (.v 11)) <|
 .l 13 12 <|
 .m 5 13 .done) K155_4)) K155_2
@[simp] def W155_5:=C.w K155_5.eq_1
def K155_6:C:=.seq (.cond 12 (.v 12) (.skip) (.exit 2)) K155_5
@[simp] def W155_6:=C.w K155_6.eq_1
def K155_7:C:=.seq (.pl <| .e 12 1 <|
 .x 12 (.bin .lss (.v 11) (.v 10)) .done) K155_6
@[simp] def W155_7:=C.w K155_7.eq_1
def K155_8:C:=.block 2 (.loop 12 [0,1,2,3,5,6,7,8] K155_7)
@[simp] def W155_8:=C.w K155_8.eq_1
def K155_9:C:=.seq (.seq (.pl <| .e 12 0 <|
 .m 9 0 <|
 .x 10 (.lenV (.v 9)) <|
 .x 11 (.mv (.c (.int .i64 0))) .done) K155_8) K155_1
@[simp] def W155_9:=C.w K155_9.eq_1
def K155_10:Pl:=.m 4 13 .done
@[simp] def W155_10:=Pl.w K155_10.eq_1
def K155_11:C:=.seq (.pl <| .e 12 2 <|
 .m 12 2 <|
 .c 13 (.call fn_slices_Grow_S_int_int [.c (.slice none 0 0),.v 12]) K155_10) K155_9
@[simp] def W155_11:=C.w K155_11.eq_1
def K155_12:C:=.pl <| .e 12 1 <|
 .x 12 (.bin .add (.v 8) (.c (.int .i64 1))) <|
 .m 8 12 .done
@[simp] def W155_12:=C.w K155_12.eq_1
def K155_13:C:=.pl <| .e 12 1 <|
 .o (.px none (.extract 0 (.c (.tuple #[])))) <|
 .o (.px none (.extract 0 (.c (.tuple #[])))) .done
@[simp] def W155_13:=C.w K155_13.eq_1
def K155_14:C:=.cond 12 (.v 13) K155_13 (.skip)
@[simp] def W155_14:=C.w K155_14.eq_1
def K155_15:C:=.seq (.pl <| .e 12 2 <|
 .m 12 2 <|
 .x 13 (.bin .lss (.v 12) (.c (.int .i64 0))) .done) K155_14
@[simp] def W155_15:=C.w K155_15.eq_1
def K155_16:C:=.seq (.pl <| .e 12 4 <|
 .m 12 2 <|
 .m 13 3 <|
 .x 14 (.lenV (.v 13)) <|
 .x 15 (.bin .add (.v 12) (.v 14)) <|
 .m 2 15 .done) K155_15
@[simp] def W155_16:=C.w K155_16.eq_1
def K155_17:C:=.seq (.block 1 (.seq (.pl <| .e 12 2 <|
 .x 12 (.ia 1 (.v 6) (.v 8)) <|
 .l 13 12 <|
 .m 3 13 .done) K155_16)) K155_12
@[simp] def W155_17:=C.w K155_17.eq_1
def K155_18:C:=.seq (.cond 12 (.v 12) (.skip) (.exit 0)) K155_17
@[simp] def W155_18:=C.w K155_18.eq_1
def K155_19:C:=.seq (.pl <| .e 12 1 <|
 .x 12 (.bin .lss (.v 8) (.v 7)) .done) K155_18
@[simp] def W155_19:=C.w K155_19.eq_1
def K155_20:C:=.block 0 (.loop 12 [1,3,4,5,9,10,11] K155_19)
@[simp] def W155_20:=C.w K155_20.eq_1
def K155_21:C:=.seq (.seq (.pl <| .e 12 0 <|
 .m 6 0 <|
 .x 7 (.lenV (.v 6)) <|
 .x 8 (.mv (.c (.int .i64 0))) .done) K155_20) K155_11
@[simp] def W155_21:=C.w K155_21.eq_1
def K155_22:C:=.seq (.pl <| .e 12 0 <|
 .x 2 (.mv (.c (.int .i64 0))) .done) K155_21
@[simp] def W155_22:=C.w K155_22.eq_1
def B_slices_Concat_S_int_int:C:=.seq (.pl <| .e 12 0 <|
 .x 1 (.mv (.c (.slice none 0 0))) .done) K155_22
@[simp] def WB_slices_Concat_S_int_int:=C.w B_slices_Concat_S_int_int.eq_1
def R_slices_Concat_S_int_int:FIR:=⟨B_slices_Concat_S_int_int,12,[(1,none)]⟩
theorem IR_slices_Concat_S_int_int:cfun Tryz.prog H_slices_Concat_S_int_int Tryz.f155=some R_slices_Concat_S_int_int:=by kernel_rfl
theorem EN_slices_Concat_S_int_int:ENT Tryz.prog B_slices_Concat_S_int_int [(1,none)] 1 12 fn_slices_Concat_S_int_int:=fun hargs hw=>enter Tryz.func155 rfl IR_slices_Concat_S_int_int hargs hw
def H_slices_Equal_S_impl_Transition_impl_Transition:Hint:=⟨[(0,false),(1,false),(4,false),(5,false),(12,false),(13,false)],[[2,3]]⟩
def K54_1:C:=.seq (.pl <| .e 6 0 <|
 .x 2 (.mv (.c (.bool true))) .done) (.ret)
@[simp] def W54_1:=C.w K54_1.eq_1
def K54_2:C:=.pl <| .e 6 1 <|
 .x 6 (.bin .add (.v 5) (.c (.int .i64 1))) <|
 .m 5 6 .done
@[simp] def W54_2:=C.w K54_2.eq_1
def K54_3:C:=.seq (.pl <| .e 6 0 <|
 .x 2 (.mv (.c (.bool false))) .done) (.ret)
@[simp] def W54_3:=C.w K54_3.eq_1
def K54_4:C:=.cond 6 (.v 14) K54_3 (.skip)
@[simp] def W54_4:=C.w K54_4.eq_1
def K54_5:C:=.seq (.pl <| .e 6 9 <|
 .m 6 0 <|
 .m 7 3 <|
 .x 8 (.ia 4 (.v 6) (.v 7)) <|
 .o (.ld (some 9) (.v 8) (some 4)) <|
 .m 10 1 <|
 .m 11 3 <|
 .x 12 (.ia 4 (.v 10) (.v 11)) <|
 .o (.ld (some 13) (.v 12) (some 4)) <|
 .x 14 (.eqf true [.i,.i,.i,.i] (.v 9) (.v 13)) .done) K54_4
@[simp] def W54_5:=C.w K54_5.eq_1
def K54_6:C:=.seq (.block 1 (.seq (.pl <| .e 6 1 <|
 .m 6 5 <|
 .m 3 6 .done) K54_5)) K54_2
@[simp] def W54_6:=C.w K54_6.eq_1
def K54_7:C:=.seq (.cond 6 (.v 6) (.skip) (.exit 0)) K54_6
@[simp] def W54_7:=C.w K54_7.eq_1
def K54_8:C:=.seq (.pl <| .e 6 1 <|
 .x 6 (.bin .lss (.v 5) (.v 4)) .done) K54_7
@[simp] def W54_8:=C.w K54_8.eq_1
def K54_9:C:=.block 0 (.loop 6 [2,3] K54_8)
@[simp] def W54_9:=C.w K54_9.eq_1
def K54_10:C:=.seq (.seq (.pl <| .e 6 1 <|
 .m 6 0 <|
 .x 4 (.lenV (.v 6)) <|
 .x 5 (.mv (.c (.int .i64 0))) .done) K54_9) K54_1
@[simp] def W54_10:=C.w K54_10.eq_1
def K54_11:C:=.seq (.pl <| .e 6 0 <|
 .x 2 (.mv (.c (.bool false))) .done) (.ret)
@[simp] def W54_11:=C.w K54_11.eq_1
def K54_12:C:=.cond 6 (.v 10) K54_11 (.skip)
@[simp] def W54_12:=C.w K54_12.eq_1
def K54_13:C:=.seq (.seq (.pl <| .e 6 5 <|
 .m 6 0 <|
 .x 7 (.lenV (.v 6)) <|
 .m 8 1 <|
 .x 9 (.lenV (.v 8)) <|
 .x 10 (.bin .neq (.v 7) (.v 9)) .done) K54_12) K54_10
@[simp] def W54_13:=C.w K54_13.eq_1
def B_slices_Equal_S_impl_Transition_impl_Transition:C:=.seq (.pl <| .e 6 0 <|
 .x 2 (.mv (.c (.bool false))) .done) K54_13
@[simp] def WB_slices_Equal_S_impl_Transition_impl_Transition:=C.w B_slices_Equal_S_impl_Transition_impl_Transition.eq_1
def R_slices_Equal_S_impl_Transition_impl_Transition:FIR:=⟨B_slices_Equal_S_impl_Transition_impl_Transition,6,[(2,none)]⟩
theorem IR_slices_Equal_S_impl_Transition_impl_Transition:cfun Tryz.prog H_slices_Equal_S_impl_Transition_impl_Transition Tryz.f54=some R_slices_Equal_S_impl_Transition_impl_Transition:=by kernel_rfl
theorem EN_slices_Equal_S_impl_Transition_impl_Transition:ENT Tryz.prog B_slices_Equal_S_impl_Transition_impl_Transition [(2,none)] 2 6 fn_slices_Equal_S_impl_Transition_impl_Transition:=fun hargs hw=>enter Tryz.func54 rfl IR_slices_Equal_S_impl_Transition_impl_Transition hargs hw
def H_slices_Equal_S_int_int:Hint:=⟨[(0,false),(1,false),(4,false),(5,false),(12,false),(13,false)],[[2,3]]⟩
def K52_1:C:=.seq (.pl <| .e 6 0 <|
 .x 2 (.mv (.c (.bool true))) .done) (.ret)
@[simp] def W52_1:=C.w K52_1.eq_1
def K52_2:C:=.pl <| .e 6 1 <|
 .x 6 (.bin .add (.v 5) (.c (.int .i64 1))) <|
 .m 5 6 .done
@[simp] def W52_2:=C.w K52_2.eq_1
def K52_3:C:=.seq (.pl <| .e 6 0 <|
 .x 2 (.mv (.c (.bool false))) .done) (.ret)
@[simp] def W52_3:=C.w K52_3.eq_1
def K52_4:C:=.cond 6 (.v 14) K52_3 (.skip)
@[simp] def W52_4:=C.w K52_4.eq_1
def K52_5:C:=.seq (.pl <| .e 6 9 <|
 .m 6 0 <|
 .m 7 3 <|
 .x 8 (.ia 1 (.v 6) (.v 7)) <|
 .l 9 8 <|
 .m 10 1 <|
 .m 11 3 <|
 .x 12 (.ia 1 (.v 10) (.v 11)) <|
 .l 13 12 <|
 .x 14 (.bin .neq (.v 9) (.v 13)) .done) K52_4
@[simp] def W52_5:=C.w K52_5.eq_1
def K52_6:C:=.seq (.block 1 (.seq (.pl <| .e 6 1 <|
 .m 6 5 <|
 .m 3 6 .done) K52_5)) K52_2
@[simp] def W52_6:=C.w K52_6.eq_1
def K52_7:C:=.seq (.cond 6 (.v 6) (.skip) (.exit 0)) K52_6
@[simp] def W52_7:=C.w K52_7.eq_1
def K52_8:C:=.seq (.pl <| .e 6 1 <|
 .x 6 (.bin .lss (.v 5) (.v 4)) .done) K52_7
@[simp] def W52_8:=C.w K52_8.eq_1
def K52_9:C:=.block 0 (.loop 6 [2,3] K52_8)
@[simp] def W52_9:=C.w K52_9.eq_1
def K52_10:C:=.seq (.seq (.pl <| .e 6 1 <|
 .m 6 0 <|
 .x 4 (.lenV (.v 6)) <|
 .x 5 (.mv (.c (.int .i64 0))) .done) K52_9) K52_1
@[simp] def W52_10:=C.w K52_10.eq_1
def K52_11:C:=.seq (.pl <| .e 6 0 <|
 .x 2 (.mv (.c (.bool false))) .done) (.ret)
@[simp] def W52_11:=C.w K52_11.eq_1
def K52_12:C:=.cond 6 (.v 10) K52_11 (.skip)
@[simp] def W52_12:=C.w K52_12.eq_1
def K52_13:C:=.seq (.seq (.pl <| .e 6 5 <|
 .m 6 0 <|
 .x 7 (.lenV (.v 6)) <|
 .m 8 1 <|
 .x 9 (.lenV (.v 8)) <|
 .x 10 (.bin .neq (.v 7) (.v 9)) .done) K52_12) K52_10
@[simp] def W52_13:=C.w K52_13.eq_1
def B_slices_Equal_S_int_int:C:=.seq (.pl <| .e 6 0 <|
 .x 2 (.mv (.c (.bool false))) .done) K52_13
@[simp] def WB_slices_Equal_S_int_int:=C.w B_slices_Equal_S_int_int.eq_1
def R_slices_Equal_S_int_int:FIR:=⟨B_slices_Equal_S_int_int,6,[(2,none)]⟩
theorem IR_slices_Equal_S_int_int:cfun Tryz.prog H_slices_Equal_S_int_int Tryz.f52=some R_slices_Equal_S_int_int:=by kernel_rfl
theorem EN_slices_Equal_S_int_int:ENT Tryz.prog B_slices_Equal_S_int_int [(2,none)] 2 6 fn_slices_Equal_S_int_int:=fun hargs hw=>enter Tryz.func52 rfl IR_slices_Equal_S_int_int hargs hw
def H_slices_Grow_S_int_int:Hint:=⟨[(0,false),(1,false),(4,false)],[]⟩
def K174_1:C:=.seq (.pl <| .e 3 1 <|
 .m 3 0 <|
 .m 2 3 .done) (.ret)
@[simp] def W174_1:=C.w K174_1.eq_1
def K174_2:Pl:=.m 9 0 <|
 .x 10 (.lenV (.v 9)) <|
 .x 11 (.sliceV 1 (.v 8) none (some (.v 10)) none) <|
 .m 0 11 .done
@[simp] def W174_2:=Pl.w K174_2.eq_1
def K174_3:C:=.pl <| .e 3 9 <|
 .m 3 0 <|
 .m 4 0 <|
 .x 5 (.capV (.v 4)) <|
 .x 6 (.sliceV 1 (.v 3) none (some (.v 5)) none) <|
 .m 7 1 <|
 .c 8 (.app 8 1 [.int .i64 0] (.o (.v 6)) (.z (.v 7) 8 [.int .i64 0])) K174_2
@[simp] def W174_3:=C.w K174_3.eq_1
def K174_4:C:=.cond 3 (.v 4) K174_3 (.skip)
@[simp] def W174_4:=C.w K174_4.eq_1
def K174_5:C:=.seq (.pl <| .e 3 2 <|
 .m 3 1 <|
 .x 4 (.bin .gtr (.v 3) (.c (.int .i64 0))) .done) K174_4
@[simp] def W174_5:=C.w K174_5.eq_1
def K174_6:C:=.seq (.seq (.pl <| .e 3 7 <|
 .m 3 1 <|
 .m 4 0 <|
 .x 5 (.capV (.v 4)) <|
 .m 6 0 <|
 .x 7 (.lenV (.v 6)) <|
 .x 8 (.bin .sub (.v 5) (.v 7)) <|
 .x 9 (.bin .sub (.v 3) (.v 8)) <|
 .m 1 9 .done) K174_5) K174_1
@[simp] def W174_6:=C.w K174_6.eq_1
def K174_7:C:=.pl <| .e 3 1 <|
 .o (.px none (.extract 0 (.c (.tuple #[])))) <|
 .o (.px none (.extract 0 (.c (.tuple #[])))) .done
@[simp] def W174_7:=C.w K174_7.eq_1
def K174_8:C:=.cond 3 (.v 4) K174_7 (.skip)
@[simp] def W174_8:=C.w K174_8.eq_1
def K174_9:C:=.seq (.seq (.pl <| .e 3 2 <|
 .m 3 1 <|
 .x 4 (.bin .lss (.v 3) (.c (.int .i64 0))) .done) K174_8) K174_6
@[simp] def W174_9:=C.w K174_9.eq_1
def B_slices_Grow_S_int_int:C:=.seq (.pl <| .e 3 0 <|
 .x 2 (.mv (.c (.slice none 0 0))) .done) K174_9
@[simp] def WB_slices_Grow_S_int_int:=C.w B_slices_Grow_S_int_int.eq_1
def R_slices_Grow_S_int_int:FIR:=⟨B_slices_Grow_S_int_int,3,[(2,none)]⟩
theorem IR_slices_Grow_S_int_int:cfun Tryz.prog H_slices_Grow_S_int_int Tryz.f174=some R_slices_Grow_S_int_int:=by kernel_rfl
theorem EN_slices_Grow_S_int_int:ENT Tryz.prog B_slices_Grow_S_int_int [(2,none)] 2 3 fn_slices_Grow_S_int_int:=fun hargs hw=>enter Tryz.func174 rfl IR_slices_Grow_S_int_int hargs hw
def H_slices_Reverse_S_int_int:Hint:=⟨[(0,false),(2,false),(3,false)],[[]]⟩
def K159_1:C:=.pl <| .e 3 4 <|
 .m 3 1 <|
 .x 4 (.bin .add (.v 3) (.c (.int .i64 1))) <|
 .m 5 2 <|
 .x 6 (.bin .sub (.v 5) (.c (.int .i64 1))) <|
 .m 1 4 <|
 .m 2 6 .done
@[simp] def W159_1:=C.w K159_1.eq_1
def K159_2:Pl:=.x 16 (.ia 1 (.v 5) (.v 6)) <|
 .o (.ex none (.store 1 (.v 16) (.v 14))) .done
@[simp] def W159_2:=Pl.w K159_2.eq_1
def K159_3:C:=.seq (.block 1 (.pl <| .e 3 14 <|
 .m 3 0 <|
 .m 4 1 <|
 .m 5 0 <|
 .m 6 2 <|
 .m 7 0 <|
 .m 8 2 <|
 .x 9 (.ia 1 (.v 7) (.v 8)) <|
 .l 10 9 <|
 .m 11 0 <|
 .m 12 1 <|
 .x 13 (.ia 1 (.v 11) (.v 12)) <|
 .l 14 13 <|
 .x 15 (.ia 1 (.v 3) (.v 4)) <|
 .o (.ex none (.store 1 (.v 15) (.v 10))) K159_2)) K159_1
@[simp] def W159_3:=C.w K159_3.eq_1
def K159_4:C:=.cond 3 (.v 5) (.skip) (.exit 0)
@[simp] def W159_4:=C.w K159_4.eq_1
def K159_5:C:=.seq (.seq (.pl <| .e 3 3 <|
 .m 3 1 <|
 .m 4 2 <|
 .x 5 (.bin .lss (.v 3) (.v 4)) .done) K159_4) K159_3
@[simp] def W159_5:=C.w K159_5.eq_1
def K159_6:C:=.block 0 (.loop 3 [] K159_5)
@[simp] def W159_6:=C.w K159_6.eq_1
def B_slices_Reverse_S_int_int:C:=.seq (.pl <| .e 3 3 <|
 .m 3 0 <|
 .x 4 (.lenV (.v 3)) <|
 .x 5 (.bin .sub (.v 4) (.c (.int .i64 1))) <|
 .x 1 (.mv (.c (.int .i64 0))) <|
 .m 2 5 .done) K159_6
@[simp] def WB_slices_Reverse_S_int_int:=C.w B_slices_Reverse_S_int_int.eq_1
def R_slices_Reverse_S_int_int:FIR:=⟨B_slices_Reverse_S_int_int,3,[]⟩
theorem IR_slices_Reverse_S_int_int:cfun Tryz.prog H_slices_Reverse_S_int_int Tryz.f159=some R_slices_Reverse_S_int_int:=by kernel_rfl
theorem EN_slices_Reverse_S_int_int:ENT Tryz.prog B_slices_Reverse_S_int_int [] 1 3 fn_slices_Reverse_S_int_int:=fun hargs hw=>enter Tryz.func159 rfl IR_slices_Reverse_S_int_int hargs hw
def H_spec_DrawAccepts:Hint:=⟨[(0,false),(2,true),(3,true),(4,false),(5,true)],[]⟩
def K8_1:Pl:=.o (.pset none 1 0 3 (.v 5)) <|
 .o (.pset none 2 0 2 (.v 9)) .done
@[simp] def W8_1:=Pl.w K8_1.eq_1
def K8_2:Pl:=.c 9 (.call fn_spec_l6Mutate [.v 6,.v 8]) K8_1
@[simp] def W8_2:=Pl.w K8_2.eq_1
def K8_3:C:=.seq (.pl <| .e 5 5 <|
 .o (.pget (some 5) none 4 0 (some 3)) <|
 .m 6 3 <|
 .m 7 3 <|
 .c 8 (.call fn_spec_l6Lasso [.v 7]) K8_2) (.ret)
@[simp] def W8_3:=C.w K8_3.eq_1
def K8_4:Pl:=.o (.pnew 4 (.c (.agg #[.slice none 0 0,.slice none 0 0,.slice none 0 0])) []) <|
 .o (.pset none 4 0 3 (.v 8)) .done
@[simp] def W8_4:=Pl.w K8_4.eq_1
def K8_5:Pl:=.c 8 (.call fn_spec_l7Mutate [.v 5,.v 7]) K8_4
@[simp] def W8_5:=Pl.w K8_5.eq_1
def K8_6:C:=.seq (.pl <| .e 5 4 <|
 .m 5 3 <|
 .m 6 3 <|
 .c 7 (.call fn_spec_l7Automaton [.v 6]) K8_5) K8_3
@[simp] def W8_6:=C.w K8_6.eq_1
def K8_7:Pl:=.m 3 6 .done
@[simp] def W8_7:=Pl.w K8_7.eq_1
def K8_8:C:=.seq (.pl <| .e 5 2 <|
 .m 5 0 <|
 .c 6 (.call fn_spec_l16Open [.v 5]) K8_7) K8_6
@[simp] def W8_8:=C.w K8_8.eq_1
def B_spec_DrawAccepts:C:=.seq (.pl <| .e 5 0 <|
 .o (.pnew 1 (.c (.agg #[.slice none 0 0,.slice none 0 0,.slice none 0 0])) []) <|
 .o (.pnew 2 (.c (.agg #[.slice none 0 0,.slice none 0 0])) []) .done) K8_8
@[simp] def WB_spec_DrawAccepts:=C.w B_spec_DrawAccepts.eq_1
def R_spec_DrawAccepts:FIR:=⟨B_spec_DrawAccepts,5,[(1,some (some 3)),(2,some (some 2))]⟩
theorem IR_spec_DrawAccepts:cfun Tryz.prog H_spec_DrawAccepts Tryz.f8=some R_spec_DrawAccepts:=by kernel_rfl
theorem EN_spec_DrawAccepts:ENT Tryz.prog B_spec_DrawAccepts [(1,some (some 3)),(2,some (some 2))] 1 5 fn_spec_DrawAccepts:=fun hargs hw=>enter Tryz.func8 rfl IR_spec_DrawAccepts hargs hw
def H_spec_DrawFormulaValid:Hint:=⟨[(0,false),(2,true),(3,false)],[]⟩
def K29_1:Pl:=.o (.pset none 1 0 3 (.v 6)) .done
@[simp] def W29_1:=Pl.w K29_1.eq_1
def K29_2:Pl:=.c 6 (.call fn_spec_l5Mutate [.v 3,.v 5]) K29_1
@[simp] def W29_2:=Pl.w K29_2.eq_1
def K29_3:C:=.seq (.pl <| .e 3 4 <|
 .m 3 2 <|
 .m 4 2 <|
 .c 5 (.call fn_spec_l5Formula [.v 4]) K29_2) (.ret)
@[simp] def W29_3:=C.w K29_3.eq_1
def K29_4:Pl:=.m 2 4 .done
@[simp] def W29_4:=Pl.w K29_4.eq_1
def K29_5:C:=.seq (.pl <| .e 3 2 <|
 .m 3 0 <|
 .c 4 (.call fn_spec_l16Open [.v 3]) K29_4) K29_3
@[simp] def W29_5:=C.w K29_5.eq_1
def B_spec_DrawFormulaValid:C:=.seq (.pl <| .e 3 0 <|
 .o (.pnew 1 (.c (.agg #[.int .i64 0,.int .i64 0,.slice none 0 0])) []) .done) K29_5
@[simp] def WB_spec_DrawFormulaValid:=C.w B_spec_DrawFormulaValid.eq_1
def R_spec_DrawFormulaValid:FIR:=⟨B_spec_DrawFormulaValid,3,[(1,some (some 3))]⟩
theorem IR_spec_DrawFormulaValid:cfun Tryz.prog H_spec_DrawFormulaValid Tryz.f29=some R_spec_DrawFormulaValid:=by kernel_rfl
theorem EN_spec_DrawFormulaValid:ENT Tryz.prog B_spec_DrawFormulaValid [(1,some (some 3))] 1 3 fn_spec_DrawFormulaValid:=fun hargs hw=>enter Tryz.func29 rfl IR_spec_DrawFormulaValid hargs hw
def H_spec_DrawTranslateFormula:Hint:=⟨[(0,false),(2,true)],[]⟩
def K7_1:Pl:=.o (.pset none 1 0 3 (.v 3)) .done
@[simp] def W7_1:=Pl.w K7_1.eq_1
def K7_2:C:=.seq (.pl <| .e 2 2 <|
 .m 2 0 <|
 .c 3 (.call fn_spec_DrawFormulaValid [.v 2]) K7_1) (.ret)
@[simp] def W7_2:=C.w K7_2.eq_1
def B_spec_DrawTranslateFormula:C:=.seq (.pl <| .e 2 0 <|
 .o (.pnew 1 (.c (.agg #[.int .i64 0,.int .i64 0,.slice none 0 0])) []) .done) K7_2
@[simp] def WB_spec_DrawTranslateFormula:=C.w B_spec_DrawTranslateFormula.eq_1
def R_spec_DrawTranslateFormula:FIR:=⟨B_spec_DrawTranslateFormula,2,[(1,some (some 3))]⟩
theorem IR_spec_DrawTranslateFormula:cfun Tryz.prog H_spec_DrawTranslateFormula Tryz.f7=some R_spec_DrawTranslateFormula:=by kernel_rfl
theorem EN_spec_DrawTranslateFormula:ENT Tryz.prog B_spec_DrawTranslateFormula [(1,some (some 3))] 1 2 fn_spec_DrawTranslateFormula:=fun hargs hw=>enter Tryz.func7 rfl IR_spec_DrawTranslateFormula hargs hw
def H_spec_l6Lasso:Hint:=⟨[(0,false),(2,true),(3,true)],[]⟩
def K34_1:C:=.seq (.pl <| .e 3 1 <|
 .o (.pget (some 3) none 2 0 (some 2)) <|
 .o (.pset none 1 0 2 (.v 3)) .done) (.ret)
@[simp] def W34_1:=C.w K34_1.eq_1
def K34_2:Pl:=.a 10 2 <|
 .o (.pset (some 10) 2 1 1 (.v 9)) .done
@[simp] def W34_2:=Pl.w K34_2.eq_1
def K34_3:Pl:=.c 9 (.app 8 1 [.int .i64 0] (.o (.v 6)) (.o (.v 8))) K34_2
@[simp] def W34_3:=Pl.w K34_3.eq_1
def K34_4:C:=.pl <| .e 3 8 <|
 .o (.psl 3 [] []) <|
 .a 4 2 <|
 .g 5 4 2 1 <|
 .a 7 2 <|
 .g 8 7 2 1 <|
 .c 6 (.app 8 1 [.int .i64 0] (.p 0 3) (.o (.v 5))) K34_3
@[simp] def W34_4:=C.w K34_4.eq_1
def K34_5:C:=.cond 3 (.v 5) K34_4 (.skip)
@[simp] def W34_5:=C.w K34_5.eq_1
def K34_6:Pl:=.x 5 (.bin .eql (.v 4) (.c (.int .i64 0))) .done
@[simp] def W34_6:=Pl.w K34_6.eq_1
def K34_7:C:=.seq (.seq (.pl <| .e 3 3 <|
 .m 3 0 <|
 .c 4 (.call fn_spec_l16Rd_pick [.v 3,.c (.int .i64 4)]) K34_6) K34_5) K34_1
@[simp] def W34_7:=C.w K34_7.eq_1
def K34_8:Pl:=.x 13 (.build [.slice none 0 0,.slice none 0 0] [(0,1,.v 7),(1,1,.v 12)]) <|
 .o (.pnew 2 (.c (.agg #[.slice none 0 0,.slice none 0 0])) []) <|
 .o (.pset none 2 0 2 (.v 13)) .done
@[simp] def W34_8:=Pl.w K34_8.eq_1
def K34_9:Pl:=.c 12 (.call fn_spec_l6Word [.v 8,.v 11]) K34_8
@[simp] def W34_9:=Pl.w K34_9.eq_1
def K34_10:Pl:=.c 11 (.call fn_spec_l16Rd_num [.v 9,.v 10]) K34_9
@[simp] def W34_10:=Pl.w K34_10.eq_1
def K34_11:Pl:=.m 8 0 <|
 .m 9 0 <|
 .c 10 (.bls 1 4 [.int .i64 0] [(0,1,.c (.int .i64 2)),(1,1,.c (.int .i64 1)),(2,1,.c (.int .i64 3)),(3,1,.c (.int .i64 4))]) K34_10
@[simp] def W34_11:=Pl.w K34_11.eq_1
def K34_12:Pl:=.c 7 (.call fn_spec_l6Word [.v 3,.v 6]) K34_11
@[simp] def W34_12:=Pl.w K34_12.eq_1
def K34_13:Pl:=.c 6 (.call fn_spec_l16Rd_num [.v 4,.v 5]) K34_12
@[simp] def W34_13:=Pl.w K34_13.eq_1
def K34_14:C:=.seq (.pl <| .e 3 11 <|
 .m 3 0 <|
 .m 4 0 <|
 .c 5 (.bls 1 5 [.int .i64 0] [(0,1,.c (.int .i64 2)),(1,1,.c (.int .i64 0)),(2,1,.c (.int .i64 3)),(3,1,.c (.int .i64 1)),(4,1,.c (.int .i64 5))]) K34_13) K34_7
@[simp] def W34_14:=C.w K34_14.eq_1
def B_spec_l6Lasso:C:=.seq (.pl <| .e 3 0 <|
 .o (.pnew 1 (.c (.agg #[.slice none 0 0,.slice none 0 0])) []) .done) K34_14
@[simp] def WB_spec_l6Lasso:=C.w B_spec_l6Lasso.eq_1
def R_spec_l6Lasso:FIR:=⟨B_spec_l6Lasso,3,[(1,some (some 2))]⟩
theorem IR_spec_l6Lasso:cfun Tryz.prog H_spec_l6Lasso Tryz.f34=some R_spec_l6Lasso:=by kernel_rfl
theorem EN_spec_l6Lasso:ENT Tryz.prog B_spec_l6Lasso [(1,some (some 2))] 1 3 fn_spec_l6Lasso:=fun hargs hw=>enter Tryz.func34 rfl IR_spec_l6Lasso hargs hw
def H_spec_l6Mutate:Hint:=⟨[(0,false),(1,false),(3,true),(4,true),(5,true),(16,false)],[[1,2,5]]⟩
def K33_1:C:=.seq (.pl <| .e 6 1 <|
 .o (.pget (some 6) none 4 0 (some 2)) <|
 .o (.pset none 3 0 2 (.v 6)) .done) (.ret)
@[simp] def W33_1:=C.w K33_1.eq_1
def K33_2:Pl:=.a 7 4 <|
 .o (.pset (some 7) 4 1 1 (.v 6)) .done
@[simp] def W33_2:=Pl.w K33_2.eq_1
def K33_3:C:=.pl <| .e 6 2 <|
 .c 6 (.bls 1 0 [.int .i64 0] []) K33_2
@[simp] def W33_3:=C.w K33_3.eq_1
def K33_4:Pl:=.x 11 (.ia 1 (.v 7) (.c (.int .i64 0))) <|
 .o (.ex none (.store 1 (.v 11) (.v 10))) .done
@[simp] def W33_4:=Pl.w K33_4.eq_1
def K33_5:Pl:=.c 10 (.call fn_spec_l16Rd_num [.v 8,.v 9]) K33_4
@[simp] def W33_5:=Pl.w K33_5.eq_1
def K33_6:C:=.pl <| .e 6 6 <|
 .a 6 4 <|
 .g 7 6 4 1 <|
 .m 8 0 <|
 .c 9 (.bls 1 4 [.int .i64 0] [(0,1,.c (.int .i64 8)),(1,1,.c (.int .i64 (-1))),(2,1,.c (.int .i64 7)),(3,1,.c (.int .i64 9223372036854775807))]) K33_5
@[simp] def W33_6:=C.w K33_6.eq_1
def K33_7:Pl:=.a 13 4 <|
 .o (.pset (some 13) 4 0 1 (.v 12)) .done
@[simp] def W33_7:=Pl.w K33_7.eq_1
def K33_8:Pl:=.o (.psl 11 [.int .i64 0] [(0,1,.v 10)]) <|
 .c 12 (.app 8 1 [.int .i64 0] (.o (.v 7)) (.p 1 11)) K33_7
@[simp] def W33_8:=Pl.w K33_8.eq_1
def K33_9:Pl:=.c 10 (.call fn_spec_l16Rd_num [.v 8,.v 9]) K33_8
@[simp] def W33_9:=Pl.w K33_9.eq_1
def K33_10:C:=.pl <| .e 6 8 <|
 .a 6 4 <|
 .g 7 6 4 0 <|
 .m 8 0 <|
 .c 9 (.bls 1 3 [.int .i64 0] [(0,1,.c (.int .i64 8)),(1,1,.c (.int .i64 0)),(2,1,.c (.int .i64 (-9223372036854775808)))]) K33_9
@[simp] def W33_10:=C.w K33_10.eq_1
def K33_11:Pl:=.a 10 4 <|
 .o (.pset (some 10) 4 0 1 (.v 9)) .done
@[simp] def W33_11:=Pl.w K33_11.eq_1
def K33_12:C:=.block 2 (.pl <| .e 6 5 <|
 .a 6 4 <|
 .g 7 6 4 0 <|
 .o (.psl 8 [.int .i64 0] [(0,1,.c (.int .i64 1))]) <|
 .c 9 (.app 8 1 [.int .i64 0] (.o (.v 7)) (.p 1 8)) K33_11)
@[simp] def W33_12:=C.w K33_12.eq_1
def K33_13:C:=.cond 6 (.v 12) (.skip) (.exit 1)
@[simp] def W33_13:=C.w K33_13.eq_1
def K33_14:Pl:=.x 11 (.bin .add (.c (.int .i64 80)) (.v 10)) <|
 .x 12 (.bin .lss (.v 8) (.v 11)) .done
@[simp] def W33_14:=Pl.w K33_14.eq_1
def K33_15:C:=.seq (.seq (.pl <| .e 6 7 <|
 .a 6 4 <|
 .g 7 6 4 0 <|
 .x 8 (.lenV (.v 7)) <|
 .m 9 0 <|
 .c 10 (.call fn_spec_l16Rd_pick [.v 9,.c (.int .i64 2)]) K33_14) K33_13) K33_12
@[simp] def W33_15:=C.w K33_15.eq_1
def K33_16:C:=.block 1 (.loop 6 [1,2,5] K33_15)
@[simp] def W33_16:=C.w K33_16.eq_1
def K33_17:C:=.cond 6 (.v 7) K33_16 (.skip)
@[simp] def W33_17:=C.w K33_17.eq_1
def K33_18:C:=.seq (.pl <| .e 6 2 <|
 .x 6 (.bin .eql (.v 5) (.c (.int .i64 3))) <|
 .m 7 6 .done) K33_17
@[simp] def W33_18:=C.w K33_18.eq_1
def K33_19:C:=.cond 6 (.v 7) K33_10 K33_18
@[simp] def W33_19:=C.w K33_19.eq_1
def K33_20:C:=.seq (.pl <| .e 6 2 <|
 .x 6 (.bin .eql (.v 5) (.c (.int .i64 2))) <|
 .m 7 6 .done) K33_19
@[simp] def W33_20:=C.w K33_20.eq_1
def K33_21:C:=.cond 6 (.v 7) K33_6 K33_20
@[simp] def W33_21:=C.w K33_21.eq_1
def K33_22:C:=.seq (.pl <| .e 6 2 <|
 .x 6 (.bin .eql (.v 5) (.c (.int .i64 1))) <|
 .m 7 6 .done) K33_21
@[simp] def W33_22:=C.w K33_22.eq_1
def K33_23:C:=.cond 6 (.v 7) K33_3 K33_22
@[simp] def W33_23:=C.w K33_23.eq_1
def K33_24:C:=.block 0 (.seq (.pl <| .e 6 2 <|
 .x 6 (.bin .eql (.v 5) (.c (.int .i64 0))) <|
 .m 7 6 .done) K33_23)
@[simp] def W33_24:=C.w K33_24.eq_1
def K33_25:C:=.seq (.seq (.pl <| .e 6 1 <|
 .m 6 0 <|
 .c 5 (.call fn_spec_l16Rd_pick [.v 6,.c (.int .i64 40)]) .done) K33_24) K33_1
@[simp] def W33_25:=C.w K33_25.eq_1
def K33_26:Pl:=.x 14 (.build [.slice none 0 0,.slice none 0 0] [(0,1,.v 9),(1,1,.v 13)]) <|
 .o (.pset none 4 0 2 (.v 14)) .done
@[simp] def W33_26:=Pl.w K33_26.eq_1
def K33_27:Pl:=.c 13 (.app 8 1 [.int .i64 0] (.p 0 10) (.o (.v 12))) K33_26
@[simp] def W33_27:=Pl.w K33_27.eq_1
def K33_28:C:=.seq (.pl <| .e 6 9 <|
 .o (.psl 6 [] []) <|
 .a 7 2 <|
 .g 8 7 2 0 <|
 .o (.psl 10 [] []) <|
 .a 11 2 <|
 .g 12 11 2 1 <|
 .o (.pnew 4 (.c (.agg #[.slice none 0 0,.slice none 0 0])) []) <|
 .c 9 (.app 8 1 [.int .i64 0] (.p 0 6) (.o (.v 8))) K33_27) K33_25
@[simp] def W33_28:=C.w K33_28.eq_1
def B_spec_l6Mutate:C:=.seq (.pl <| .e 6 0 <|
 .o (.pnew 2 (.v 1) []) <|
 .o (.pnew 3 (.c (.agg #[.slice none 0 0,.slice none 0 0])) []) .done) K33_28
@[simp] def WB_spec_l6Mutate:=C.w B_spec_l6Mutate.eq_1
def R_spec_l6Mutate:FIR:=⟨B_spec_l6Mutate,6,[(3,some (some 2))]⟩
theorem IR_spec_l6Mutate:cfun Tryz.prog H_spec_l6Mutate Tryz.f33=some R_spec_l6Mutate:=by kernel_rfl
theorem EN_spec_l6Mutate:ENT Tryz.prog B_spec_l6Mutate [(3,some (some 2))] 2 6 fn_spec_l6Mutate:=fun hargs hw=>enter Tryz.func33 rfl IR_spec_l6Mutate hargs hw
def H_spec_l7Automaton:Hint:=⟨[(0,false),(2,true),(3,true),(4,false),(5,false),(6,true),(7,false),(8,false),(9,false)],[[2,3,7,8],[2,3,6,8]]⟩
def K32_1:C:=.seq (.pl <| .e 9 1 <|
 .o (.pget (some 9) none 5 0 (some 3)) <|
 .o (.pset none 1 0 3 (.v 9)) .done) (.ret)
@[simp] def W32_1:=C.w K32_1.eq_1
def K32_2:C:=.pl <| .e 9 2 <|
 .m 9 7 <|
 .x 10 (.bin .sub (.v 9) (.c (.int .i64 1))) <|
 .m 7 10 .done
@[simp] def W32_2:=C.w K32_2.eq_1
def K32_3:Pl:=.a 25 5 <|
 .o (.pset (some 25) 5 2 1 (.v 24)) .done
@[simp] def W32_3:=Pl.w K32_3.eq_1
def K32_4:Pl:=.x 22 (.build [.int .i64 0,.int .i64 0,.int .i64 0,.int .i64 0] [(0,1,.v 13),(1,1,.v 14),(2,1,.v 18),(3,1,.v 21)]) <|
 .o (.psl 23 [.int .i64 0,.int .i64 0,.int .i64 0,.int .i64 0] [(0,4,.v 22)]) <|
 .c 24 (.app 32 4 [.int .i64 0,.int .i64 0,.int .i64 0,.int .i64 0] (.o (.v 10)) (.p 1 23)) K32_3
@[simp] def W32_4:=Pl.w K32_4.eq_1
def K32_5:Pl:=.x 18 (.bin .and (.v 16) (.v 17)) <|
 .c 21 (.call fn_spec_l16Rd_pick [.v 19,.v 20]) K32_4
@[simp] def W32_5:=Pl.w K32_5.eq_1
def K32_6:Pl:=.c 16 (.call fn_spec_l16Rd_pick [.v 15,.c (.int .i64 8)]) K32_5
@[simp] def W32_6:=Pl.w K32_6.eq_1
def K32_7:C:=.pl <| .e 9 17 <|
 .a 9 5 <|
 .g 10 9 5 2 <|
 .m 11 0 <|
 .m 12 4 <|
 .m 14 8 <|
 .m 15 0 <|
 .m 17 8 <|
 .m 19 0 <|
 .m 20 4 <|
 .c 13 (.call fn_spec_l16Rd_pick [.v 11,.v 12]) K32_6
@[simp] def W32_7:=C.w K32_7.eq_1
def K32_8:Pl:=.m 8 11 .done
@[simp] def W32_8:=Pl.w K32_8.eq_1
def K32_9:Pl:=.c 11 (.call fn_spec_l16Rd_num [.v 9,.v 10]) K32_8
@[simp] def W32_9:=Pl.w K32_9.eq_1
def K32_10:C:=.seq (.block 3 (.seq (.pl <| .e 9 3 <|
 .m 9 0 <|
 .c 10 (.bls 1 5 [.int .i64 0] [(0,1,.c (.int .i64 1)),(1,1,.c (.int .i64 3)),(2,1,.c (.int .i64 0)),(3,1,.c (.int .i64 2)),(4,1,.c (.int .i64 7))]) K32_9) K32_7)) K32_2
@[simp] def W32_10:=C.w K32_10.eq_1
def K32_11:C:=.cond 9 (.v 10) (.skip) (.exit 2)
@[simp] def W32_11:=C.w K32_11.eq_1
def K32_12:C:=.seq (.seq (.pl <| .e 9 2 <|
 .m 9 7 <|
 .x 10 (.bin .gtr (.v 9) (.c (.int .i64 0))) .done) K32_11) K32_10
@[simp] def W32_12:=C.w K32_12.eq_1
def K32_13:C:=.block 2 (.loop 9 [2,3,6,8] K32_12)
@[simp] def W32_13:=C.w K32_13.eq_1
def K32_14:Pl:=.m 7 11 .done
@[simp] def W32_14:=Pl.w K32_14.eq_1
def K32_15:Pl:=.c 11 (.call fn_spec_l16Rd_num [.v 9,.v 10]) K32_14
@[simp] def W32_15:=Pl.w K32_15.eq_1
def K32_16:C:=.seq (.seq (.pl <| .e 9 3 <|
 .m 9 0 <|
 .c 10 (.bls 1 5 [.int .i64 0] [(0,1,.c (.int .i64 6)),(1,1,.c (.int .i64 4)),(2,1,.c (.int .i64 8)),(3,1,.c (.int .i64 3)),(4,1,.c (.int .i64 10))]) K32_15) K32_13) K32_1
@[simp] def W32_16:=C.w K32_16.eq_1
def K32_17:C:=.pl <| .e 9 2 <|
 .m 9 6 <|
 .x 10 (.bin .add (.v 9) (.c (.int .i64 1))) <|
 .m 6 10 .done
@[simp] def W32_17:=C.w K32_17.eq_1
def K32_18:Pl:=.a 14 5 <|
 .o (.pset (some 14) 5 0 1 (.v 13)) .done
@[simp] def W32_18:=Pl.w K32_18.eq_1
def K32_19:C:=.pl <| .e 9 6 <|
 .a 9 5 <|
 .g 10 9 5 0 <|
 .m 11 6 <|
 .o (.psl 12 [.int .i64 0] [(0,1,.v 11)]) <|
 .c 13 (.app 8 1 [.int .i64 0] (.o (.v 10)) (.p 1 12)) K32_18
@[simp] def W32_19:=C.w K32_19.eq_1
def K32_20:C:=.cond 9 (.v 20) K32_19 (.skip)
@[simp] def W32_20:=C.w K32_20.eq_1
def K32_21:Pl:=.n 16 (.px (some 19) (.bin .eql (.v 18) (.c (.int .i64 0)))) <|
 .x 20 (.pick (.v 16) (.c (.bool true)) (.v 19)) .done
@[simp] def W32_21:=Pl.w K32_21.eq_1
def K32_22:Pl:=.y 11 (.px (some 14) (.bin .gtr (.v 13) (.c (.int .i64 0)))) <|
 .x 15 (.pick (.v 11) (.v 14) (.c (.bool false))) <|
 .m 16 15 <|
 .n 16 (.px (some 17) (.mv (.v 0))) <|
 .st (.act (some (.v 16,false)) (.ex (some 18) (.call fn_spec_l16Rd_pick [.v 17,.c (.int .i64 5)]))) K32_21
@[simp] def W32_22:=Pl.w K32_22.eq_1
def K32_23:C:=.seq (.pl <| .e 9 12 <|
 .m 9 6 <|
 .x 10 (.bin .eql (.v 9) (.c (.int .i64 0))) <|
 .m 11 10 <|
 .y 11 (.px (some 12) (.mv (.v 0))) <|
 .st (.act (some (.v 11,true)) (.ex (some 13) (.call fn_spec_l16Rd_pick [.v 12,.c (.int .i64 12)]))) K32_22) K32_20
@[simp] def W32_23:=C.w K32_23.eq_1
def K32_24:Pl:=.x 14 (.bin .eql (.v 13) (.c (.int .i64 0))) <|
 .x 15 (.ia 1 (.v 10) (.v 11)) <|
 .o (.ex none (.store 1 (.v 15) (.v 14))) .done
@[simp] def W32_24:=Pl.w K32_24.eq_1
def K32_25:C:=.seq (.block 1 (.seq (.pl <| .e 9 7 <|
 .a 9 5 <|
 .g 10 9 5 1 <|
 .m 11 6 <|
 .m 12 0 <|
 .c 13 (.call fn_spec_l16Rd_pick [.v 12,.c (.int .i64 3)]) K32_24) K32_23)) K32_17
@[simp] def W32_25:=C.w K32_25.eq_1
def K32_26:C:=.cond 9 (.v 11) (.skip) (.exit 0)
@[simp] def W32_26:=C.w K32_26.eq_1
def K32_27:C:=.seq (.seq (.pl <| .e 9 3 <|
 .m 9 6 <|
 .m 10 4 <|
 .x 11 (.bin .lss (.v 9) (.v 10)) .done) K32_26) K32_25
@[simp] def W32_27:=C.w K32_27.eq_1
def K32_28:C:=.block 0 (.loop 9 [2,3,7,8] K32_27)
@[simp] def W32_28:=C.w K32_28.eq_1
def K32_29:C:=.seq (.seq (.pl <| .e 9 0 <|
 .x 6 (.mv (.c (.int .i64 0))) .done) K32_28) K32_16
@[simp] def W32_29:=C.w K32_29.eq_1
def K32_30:Pl:=.x 11 (.build [.slice none 0 0,.slice none 0 0,.slice none 0 0] [(1,1,.v 10)]) <|
 .o (.pnew 5 (.c (.agg #[.slice none 0 0,.slice none 0 0,.slice none 0 0])) []) <|
 .o (.pset none 5 0 3 (.v 11)) .done
@[simp] def W32_30:=Pl.w K32_30.eq_1
def K32_31:C:=.seq (.pl <| .e 9 3 <|
 .m 9 4 <|
 .c 10 (.mks 1 1 [.bool false] (.v 9) (.v 9)) K32_30) K32_29
@[simp] def W32_31:=C.w K32_31.eq_1
def K32_32:Pl:=.m 4 11 .done
@[simp] def W32_32:=Pl.w K32_32.eq_1
def K32_33:Pl:=.c 11 (.call fn_spec_l16Rd_num [.v 9,.v 10]) K32_32
@[simp] def W32_33:=Pl.w K32_33.eq_1
def K32_34:C:=.seq (.pl <| .e 9 3 <|
 .m 9 0 <|
 .c 10 (.bls 1 5 [.int .i64 0] [(0,1,.c (.int .i64 3)),(1,1,.c (.int .i64 2)),(2,1,.c (.int .i64 4)),(3,1,.c (.int .i64 1)),(4,1,.c (.int .i64 5))]) K32_33) K32_31
@[simp] def W32_34:=C.w K32_34.eq_1
def K32_35:C:=.seq (.pl <| .e 9 1 <|
 .o (.pget (some 9) none 2 0 (some 3)) <|
 .o (.pset none 1 0 3 (.v 9)) .done) (.ret)
@[simp] def W32_35:=C.w K32_35.eq_1
def K32_36:C:=.cond 9 (.v 15) K32_35 (.skip)
@[simp] def W32_36:=C.w K32_36.eq_1
def K32_37:C:=.seq (.pl <| .e 9 7 <|
 .m 9 3 <|
 .m 10 9 <|
 .y 10 (.als 11 none 2) <|
 .y 10 (.pget (some 12) (some 11) 2 1 none) <|
 .y 10 (.px (some 13) (.lenV (.v 12))) <|
 .y 10 (.px (some 14) (.bin .leq (.v 13) (.c (.int .i64 16)))) <|
 .x 15 (.pick (.v 10) (.v 14) (.c (.bool false))) .done) K32_36
@[simp] def W32_37:=C.w K32_37.eq_1
def K32_38:Pl:=.m 12 11 <|
 .x 13 (.extract 0 (.v 12)) <|
 .x 14 (.extract 1 (.v 12)) <|
 .o (.pnew 2 (.c (.agg #[.slice none 0 0,.slice none 0 0,.slice none 0 0])) []) <|
 .o (.pset none 2 0 3 (.v 13)) <|
 .m 3 14 .done
@[simp] def W32_38:=Pl.w K32_38.eq_1
def K32_39:Pl:=.c 11 (.call fn_spec_TranslateFormula [.v 10]) K32_38
@[simp] def W32_39:=Pl.w K32_39.eq_1
def K32_40:C:=.seq (.pl <| .e 9 6 <|
 .m 9 0 <|
 .c 10 (.call fn_spec_l5Formula [.v 9]) K32_39) K32_37
@[simp] def W32_40:=C.w K32_40.eq_1
def K32_41:C:=.cond 9 (.v 11) K32_40 (.skip)
@[simp] def W32_41:=C.w K32_41.eq_1
def K32_42:Pl:=.x 11 (.bin .eql (.v 10) (.c (.int .i64 0))) .done
@[simp] def W32_42:=Pl.w K32_42.eq_1
def K32_43:C:=.seq (.seq (.pl <| .e 9 3 <|
 .m 9 0 <|
 .c 10 (.call fn_spec_l16Rd_pick [.v 9,.c (.int .i64 3)]) K32_42) K32_41) K32_34
@[simp] def W32_43:=C.w K32_43.eq_1
def B_spec_l7Automaton:C:=.seq (.pl <| .e 9 0 <|
 .o (.pnew 1 (.c (.agg #[.slice none 0 0,.slice none 0 0,.slice none 0 0])) []) .done) K32_43
@[simp] def WB_spec_l7Automaton:=C.w B_spec_l7Automaton.eq_1
def R_spec_l7Automaton:FIR:=⟨B_spec_l7Automaton,9,[(1,some (some 3))]⟩
theorem IR_spec_l7Automaton:cfun Tryz.prog H_spec_l7Automaton Tryz.f32=some R_spec_l7Automaton:=by kernel_rfl
theorem EN_spec_l7Automaton:ENT Tryz.prog B_spec_l7Automaton [(1,some (some 3))] 1 9 fn_spec_l7Automaton:=fun hargs hw=>enter Tryz.func32 rfl IR_spec_l7Automaton hargs hw
def H_spec_l7Mutate:Hint:=⟨[(0,false),(1,false),(3,true),(4,true),(5,true),(20,false)],[]⟩
def K31_1:C:=.seq (.pl <| .e 6 1 <|
 .o (.pget (some 6) none 4 0 (some 3)) <|
 .o (.pset none 3 0 3 (.v 6)) .done) (.ret)
@[simp] def W31_1:=C.w K31_1.eq_1
def K31_2:Pl:=.a 13 4 <|
 .o (.pset (some 13) 4 0 1 (.v 12)) .done
@[simp] def W31_2:=Pl.w K31_2.eq_1
def K31_3:Pl:=.o (.psl 11 [.int .i64 0] [(0,1,.v 10)]) <|
 .c 12 (.app 8 1 [.int .i64 0] (.o (.v 7)) (.p 1 11)) K31_2
@[simp] def W31_3:=Pl.w K31_3.eq_1
def K31_4:Pl:=.c 10 (.call fn_spec_l16Rd_num [.v 8,.v 9]) K31_3
@[simp] def W31_4:=Pl.w K31_4.eq_1
def K31_5:C:=.pl <| .e 6 8 <|
 .a 6 4 <|
 .g 7 6 4 0 <|
 .m 8 0 <|
 .c 9 (.bls 1 4 [.int .i64 0] [(0,1,.c (.int .i64 0)),(1,1,.c (.int .i64 (-1))),(2,1,.c (.int .i64 64)),(3,1,.c (.int .i64 3))]) K31_4
@[simp] def W31_5:=C.w K31_5.eq_1
def K31_6:Pl:=.x 11 (.ia 4 (.v 7) (.c (.int .i64 0))) <|
 .x 12 (.fa 2 (.v 11)) <|
 .o (.ex none (.store 1 (.v 12) (.v 10))) .done
@[simp] def W31_6:=Pl.w K31_6.eq_1
def K31_7:Pl:=.c 10 (.call fn_spec_l16Rd_num [.v 8,.v 9]) K31_6
@[simp] def W31_7:=Pl.w K31_7.eq_1
def K31_8:C:=.pl <| .e 6 7 <|
 .a 6 4 <|
 .g 7 6 4 2 <|
 .m 8 0 <|
 .c 9 (.bls 1 3 [.int .i64 0] [(0,1,.c (.int .i64 8)),(1,1,.c (.int .i64 (-1))),(2,1,.c (.int .i64 7))]) K31_7
@[simp] def W31_8:=C.w K31_8.eq_1
def K31_9:C:=.cond 6 (.v 9) K31_8 (.skip)
@[simp] def W31_9:=C.w K31_9.eq_1
def K31_10:C:=.seq (.pl <| .e 6 4 <|
 .a 6 4 <|
 .g 7 6 4 2 <|
 .x 8 (.lenV (.v 7)) <|
 .x 9 (.bin .gtr (.v 8) (.c (.int .i64 0))) .done) K31_9
@[simp] def W31_10:=C.w K31_10.eq_1
def K31_11:Pl:=.x 11 (.ia 4 (.v 7) (.c (.int .i64 0))) <|
 .x 12 (.fa 3 (.v 11)) <|
 .o (.ex none (.store 1 (.v 12) (.v 10))) .done
@[simp] def W31_11:=Pl.w K31_11.eq_1
def K31_12:Pl:=.c 10 (.call fn_spec_l16Rd_num [.v 8,.v 9]) K31_11
@[simp] def W31_12:=Pl.w K31_12.eq_1
def K31_13:C:=.pl <| .e 6 7 <|
 .a 6 4 <|
 .g 7 6 4 2 <|
 .m 8 0 <|
 .c 9 (.bls 1 4 [.int .i64 0] [(0,1,.c (.int .i64 (-1))),(1,1,.c (.int .i64 0)),(2,1,.c (.int .i64 64)),(3,1,.c (.int .i64 9223372036854775807))]) K31_12
@[simp] def W31_13:=C.w K31_13.eq_1
def K31_14:C:=.cond 6 (.v 9) K31_13 (.skip)
@[simp] def W31_14:=C.w K31_14.eq_1
def K31_15:C:=.seq (.pl <| .e 6 4 <|
 .a 6 4 <|
 .g 7 6 4 2 <|
 .x 8 (.lenV (.v 7)) <|
 .x 9 (.bin .gtr (.v 8) (.c (.int .i64 0))) .done) K31_14
@[simp] def W31_15:=C.w K31_15.eq_1
def K31_16:C:=.seq (.pl <| .e 6 1 <|
 .x 6 (.build [.slice none 0 0,.slice none 0 0,.slice none 0 0] []) <|
 .o (.pset none 3 0 3 (.v 6)) .done) (.ret)
@[simp] def W31_16:=C.w K31_16.eq_1
def K31_17:Pl:=.x 15 (.ia 4 (.v 7) (.v 11)) <|
 .x 16 (.fa 1 (.v 15)) <|
 .o (.ex none (.store 1 (.v 16) (.v 14))) .done
@[simp] def W31_17:=Pl.w K31_17.eq_1
def K31_18:Pl:=.c 14 (.call fn_spec_l16Rd_num [.v 12,.v 13]) K31_17
@[simp] def W31_18:=Pl.w K31_18.eq_1
def K31_19:C:=.pl <| .e 6 11 <|
 .a 6 4 <|
 .g 7 6 4 2 <|
 .a 8 4 <|
 .g 9 8 4 2 <|
 .x 10 (.lenV (.v 9)) <|
 .x 11 (.bin .sub (.v 10) (.c (.int .i64 1))) <|
 .m 12 0 <|
 .c 13 (.bls 1 3 [.int .i64 0] [(0,1,.c (.int .i64 8)),(1,1,.c (.int .i64 (-1))),(2,1,.c (.int .i64 0))]) K31_18
@[simp] def W31_19:=C.w K31_19.eq_1
def K31_20:C:=.cond 6 (.v 9) K31_19 (.skip)
@[simp] def W31_20:=C.w K31_20.eq_1
def K31_21:C:=.seq (.pl <| .e 6 4 <|
 .a 6 4 <|
 .g 7 6 4 2 <|
 .x 8 (.lenV (.v 7)) <|
 .x 9 (.bin .gtr (.v 8) (.c (.int .i64 0))) .done) K31_20
@[simp] def W31_21:=C.w K31_21.eq_1
def K31_22:C:=.cond 6 (.v 7) K31_21 (.skip)
@[simp] def W31_22:=C.w K31_22.eq_1
def K31_23:C:=.seq (.pl <| .e 6 2 <|
 .x 6 (.bin .eql (.v 5) (.c (.int .i64 4))) <|
 .m 7 6 .done) K31_22
@[simp] def W31_23:=C.w K31_23.eq_1
def K31_24:C:=.cond 6 (.v 7) K31_16 K31_23
@[simp] def W31_24:=C.w K31_24.eq_1
def K31_25:C:=.seq (.pl <| .e 6 2 <|
 .x 6 (.bin .eql (.v 5) (.c (.int .i64 3))) <|
 .m 7 6 .done) K31_24
@[simp] def W31_25:=C.w K31_25.eq_1
def K31_26:C:=.cond 6 (.v 7) K31_15 K31_25
@[simp] def W31_26:=C.w K31_26.eq_1
def K31_27:C:=.seq (.pl <| .e 6 2 <|
 .x 6 (.bin .eql (.v 5) (.c (.int .i64 2))) <|
 .m 7 6 .done) K31_26
@[simp] def W31_27:=C.w K31_27.eq_1
def K31_28:C:=.cond 6 (.v 7) K31_10 K31_27
@[simp] def W31_28:=C.w K31_28.eq_1
def K31_29:C:=.seq (.pl <| .e 6 2 <|
 .x 6 (.bin .eql (.v 5) (.c (.int .i64 1))) <|
 .m 7 6 .done) K31_28
@[simp] def W31_29:=C.w K31_29.eq_1
def K31_30:C:=.cond 6 (.v 7) K31_5 K31_29
@[simp] def W31_30:=C.w K31_30.eq_1
def K31_31:C:=.block 0 (.seq (.pl <| .e 6 2 <|
 .x 6 (.bin .eql (.v 5) (.c (.int .i64 0))) <|
 .m 7 6 .done) K31_30)
@[simp] def W31_31:=C.w K31_31.eq_1
def K31_32:C:=.seq (.seq (.pl <| .e 6 1 <|
 .m 6 0 <|
 .c 5 (.call fn_spec_l16Rd_pick [.v 6,.c (.int .i64 40)]) .done) K31_31) K31_1
@[simp] def W31_32:=C.w K31_32.eq_1
def K31_33:Pl:=.x 18 (.build [.slice none 0 0,.slice none 0 0,.slice none 0 0] [(0,1,.v 9),(1,1,.v 13),(2,1,.v 17)]) <|
 .o (.pset none 4 0 3 (.v 18)) .done
@[simp] def W31_33:=Pl.w K31_33.eq_1
def K31_34:Pl:=.c 17 (.app 32 4 [.int .i64 0,.int .i64 0,.int .i64 0,.int .i64 0] (.p 0 14) (.o (.v 16))) K31_33
@[simp] def W31_34:=Pl.w K31_34.eq_1
def K31_35:Pl:=.c 13 (.app 1 1 [.bool false] (.p 0 10) (.o (.v 12))) K31_34
@[simp] def W31_35:=Pl.w K31_35.eq_1
def K31_36:C:=.seq (.pl <| .e 6 13 <|
 .o (.psl 6 [] []) <|
 .a 7 2 <|
 .g 8 7 2 0 <|
 .o (.psl 10 [] []) <|
 .a 11 2 <|
 .g 12 11 2 1 <|
 .o (.psl 14 [] []) <|
 .a 15 2 <|
 .g 16 15 2 2 <|
 .o (.pnew 4 (.c (.agg #[.slice none 0 0,.slice none 0 0,.slice none 0 0])) []) <|
 .c 9 (.app 8 1 [.int .i64 0] (.p 0 6) (.o (.v 8))) K31_35) K31_32
@[simp] def W31_36:=C.w K31_36.eq_1
def B_spec_l7Mutate:C:=.seq (.pl <| .e 6 0 <|
 .o (.pnew 2 (.v 1) []) <|
 .o (.pnew 3 (.c (.agg #[.slice none 0 0,.slice none 0 0,.slice none 0 0])) []) .done) K31_36
@[simp] def WB_spec_l7Mutate:=C.w B_spec_l7Mutate.eq_1
def R_spec_l7Mutate:FIR:=⟨B_spec_l7Mutate,6,[(3,some (some 3))]⟩
theorem IR_spec_l7Mutate:cfun Tryz.prog H_spec_l7Mutate Tryz.f31=some R_spec_l7Mutate:=by kernel_rfl
theorem EN_spec_l7Mutate:ENT Tryz.prog B_spec_l7Mutate [(3,some (some 3))] 2 6 fn_spec_l7Mutate:=fun hargs hw=>enter Tryz.func31 rfl IR_spec_l7Mutate hargs hw
def H_impl_Accepts:Hint:=⟨[(0,false),(1,false),(2,true),(3,true),(4,false),(5,false)],[]⟩
def K13_1:Pl:=.m 4 8 <|
 .x 5 (.mv (.c (.bool true))) .done
@[simp] def W13_1:=Pl.w K13_1.eq_1
def K13_2:C:=.seq (.pl <| .e 6 3 <|
 .o (.pget (some 6) none 2 0 (some 3)) <|
 .o (.pget (some 7) none 3 0 (some 2)) <|
 .c 8 (.call fn_impl_Automaton_accepts [.v 6,.v 7]) K13_1) (.ret)
@[simp] def W13_2:=C.w K13_2.eq_1
def K13_3:C:=.seq (.pl <| .e 6 0 <|
 .x 4 (.mv (.c (.bool false))) <|
 .x 5 (.mv (.c (.bool false))) .done) (.ret)
@[simp] def W13_3:=C.w K13_3.eq_1
def K13_4:C:=.cond 6 (.v 13) K13_3 (.skip)
@[simp] def W13_4:=C.w K13_4.eq_1
def K13_5:Pl:=.n 9 (.px (some 12) (.un .not (.v 11))) <|
 .x 13 (.pick (.v 9) (.c (.bool true)) (.v 12)) .done
@[simp] def W13_5:=Pl.w K13_5.eq_1
def K13_6:Pl:=.x 8 (.un .not (.v 7)) <|
 .m 9 8 <|
 .n 9 (.pget (some 10) none 3 0 (some 2)) <|
 .st (.act (some (.v 9,false)) (.ex (some 11) (.call fn_impl_LassoValid [.v 10]))) K13_5
@[simp] def W13_6:=Pl.w K13_6.eq_1
def K13_7:C:=.seq (.seq (.pl <| .e 6 8 <|
 .o (.pget (some 6) none 2 0 (some 3)) <|
 .c 7 (.call fn_impl_AutomatonValid [.v 6]) K13_6) K13_4) K13_2
@[simp] def W13_7:=C.w K13_7.eq_1
def B_impl_Accepts:C:=.seq (.pl <| .e 6 0 <|
 .o (.pnew 2 (.v 0) []) <|
 .o (.pnew 3 (.v 1) []) <|
 .x 4 (.mv (.c (.bool false))) <|
 .x 5 (.mv (.c (.bool false))) .done) K13_7
@[simp] def WB_impl_Accepts:=C.w B_impl_Accepts.eq_1
def R_impl_Accepts:FIR:=⟨B_impl_Accepts,6,[(4,none),(5,none)]⟩
theorem IR_impl_Accepts:cfun Tryz.prog H_impl_Accepts Tryz.f13=some R_impl_Accepts:=by kernel_rfl
theorem EN_impl_Accepts:ENT Tryz.prog B_impl_Accepts [(4,none),(5,none)] 2 6 fn_impl_Accepts:=fun hargs hw=>enter Tryz.func13 rfl IR_impl_Accepts hargs hw
def H_impl_AutomatonSame:Hint:=⟨[(0,false),(1,false),(2,true),(3,true),(4,false)],[]⟩
def K12_1:Pl:=.x 23 (.pick (.v 17) (.v 22) (.c (.bool false))) <|
 .m 4 23 .done
@[simp] def W12_1:=Pl.w K12_1.eq_1
def K12_2:Pl:=.x 16 (.pick (.v 10) (.v 15) (.c (.bool false))) <|
 .m 17 16 <|
 .y 17 (.als 18 none 2) <|
 .y 17 (.pget (some 19) (some 18) 2 2 none) <|
 .y 17 (.als 20 none 3) <|
 .y 17 (.pget (some 21) (some 20) 3 2 none) <|
 .st (.act (some (.v 17,true)) (.ex (some 22) (.call fn_slices_Equal_S_impl_Transition_impl_Transition [.v 19,.v 21]))) K12_1
@[simp] def W12_2:=Pl.w K12_2.eq_1
def K12_3:Pl:=.m 10 9 <|
 .y 10 (.als 11 none 2) <|
 .y 10 (.pget (some 12) (some 11) 2 1 none) <|
 .y 10 (.als 13 none 3) <|
 .y 10 (.pget (some 14) (some 13) 3 1 none) <|
 .st (.act (some (.v 10,true)) (.ex (some 15) (.call fn_slices_Equal_S_bool_bool [.v 12,.v 14]))) K12_2
@[simp] def W12_3:=Pl.w K12_3.eq_1
def K12_4:C:=.seq (.pl <| .e 5 19 <|
 .a 5 2 <|
 .g 6 5 2 0 <|
 .a 7 3 <|
 .g 8 7 3 0 <|
 .c 9 (.call fn_slices_Equal_S_int_int [.v 6,.v 8]) K12_3) (.ret)
@[simp] def W12_4:=C.w K12_4.eq_1
def B_impl_AutomatonSame:C:=.seq (.pl <| .e 5 0 <|
 .o (.pnew 2 (.v 0) []) <|
 .o (.pnew 3 (.v 1) []) <|
 .x 4 (.mv (.c (.bool false))) .done) K12_4
@[simp] def WB_impl_AutomatonSame:=C.w B_impl_AutomatonSame.eq_1
def R_impl_AutomatonSame:FIR:=⟨B_impl_AutomatonSame,5,[(4,none)]⟩
theorem IR_impl_AutomatonSame:cfun Tryz.prog H_impl_AutomatonSame Tryz.f12=some R_impl_AutomatonSame:=by kernel_rfl
theorem EN_impl_AutomatonSame:ENT Tryz.prog B_impl_AutomatonSame [(4,none)] 2 5 fn_impl_AutomatonSame:=fun hargs hw=>enter Tryz.func12 rfl IR_impl_AutomatonSame hargs hw
def H_impl_Automaton_accepts:Hint:=⟨[(0,false),(1,false),(2,true),(3,true),(4,false),(5,false),(6,false),(7,false),(8,false),(9,false),(11,true),(12,false),(13,false),(14,false),(25,false),(26,false),(27,false),(33,false),(34,false),(35,false),(76,false),(77,false),(78,false)],[[0,1,4,5,8,9,10,11,12,13,17,18,19,20,21,22],[0,1,4,5,10,11,12,13,20,21,22],[0,1,3,4,5,7,8,9,10,12,13,14,15,16,17,18,19]]⟩
def K57_1:C:=.seq (.pl <| .e 23 0 <|
 .x 4 (.mv (.c (.bool false))) .done) (.ret)
@[simp] def W57_1:=C.w K57_1.eq_1
def K57_2:C:=.pl <| .e 23 1 <|
 .x 23 (.bin .add (.v 22) (.c (.int .i64 1))) <|
 .m 22 23 .done
@[simp] def W57_2:=C.w K57_2.eq_1
def K57_3:C:=.seq (.pl <| .e 23 0 <|
 .x 4 (.mv (.c (.bool true))) .done) (.ret)
@[simp] def W57_3:=C.w K57_3.eq_1
def K57_4:C:=.cond 23 (.v 38) K57_3 (.skip)
@[simp] def W57_4:=C.w K57_4.eq_1
def K57_5:C:=.seq (.pl <| .e 23 16 <|
 .m 23 13 <|
 .m 24 23 <|
 .y 24 (.px (some 25) (.mv (.v 11))) <|
 .y 24 (.px (some 26) (.mv (.v 12))) <|
 .y 24 (.px (some 27) (.ia 1 (.v 25) (.v 26))) <|
 .y 24 (.ld (some 28) (.v 27) none) <|
 .x 29 (.pick (.v 24) (.v 28) (.c (.bool false))) <|
 .m 30 29 <|
 .y 30 (.als 31 none 2) <|
 .y 30 (.pget (some 32) (some 31) 2 1 none) <|
 .y 30 (.px (some 33) (.mv (.v 12))) <|
 .y 30 (.px (some 34) (.mv (.v 6))) <|
 .y 30 (.px (some 35) (.bin .rem (.v 33) (.v 34))) <|
 .y 30 (.px (some 36) (.ia 1 (.v 32) (.v 35))) <|
 .y 30 (.ld (some 37) (.v 36) none) <|
 .x 38 (.pick (.v 30) (.v 37) (.c (.bool false))) .done) K57_4
@[simp] def W57_5:=C.w K57_5.eq_1
def K57_6:C:=.seq (.block 5 (.seq (.pl <| .e 23 3 <|
 .m 23 22 <|
 .x 24 (.ia 1 (.v 20) (.v 22)) <|
 .l 25 24 <|
 .m 12 23 <|
 .m 13 25 .done) K57_5)) K57_2
@[simp] def W57_6:=C.w K57_6.eq_1
def K57_7:C:=.seq (.cond 23 (.v 23) (.skip) (.exit 4)) K57_6
@[simp] def W57_7:=C.w K57_7.eq_1
def K57_8:C:=.seq (.pl <| .e 23 1 <|
 .x 23 (.bin .lss (.v 22) (.v 21)) .done) K57_7
@[simp] def W57_8:=C.w K57_8.eq_1
def K57_9:C:=.block 4 (.loop 23 [0,1,3,4,5,7,8,9,10,12,13,14,15,16,17,18,19] K57_8)
@[simp] def W57_9:=C.w K57_9.eq_1
def K57_10:Pl:=.x 21 (.lenV (.v 20)) <|
 .x 22 (.mv (.c (.int .i64 0))) .done
@[simp] def W57_10:=Pl.w K57_10.eq_1
def K57_11:C:=.seq (.seq (.pl <| .e 23 3 <|
 .m 23 7 <|
 .a 24 2 <|
 .g 25 24 2 0 <|
 .c 20 (.call fn_impl_reachable [.v 23,.v 25]) K57_10) K57_9) K57_1
@[simp] def W57_11:=C.w K57_11.eq_1
def K57_12:Pl:=.m 11 24 .done
@[simp] def W57_12:=Pl.w K57_12.eq_1
def K57_13:C:=.seq (.pl <| .e 23 2 <|
 .m 23 7 <|
 .c 24 (.call fn_impl_cyclic [.v 23]) K57_12) K57_11
@[simp] def W57_13:=C.w K57_13.eq_1
def K57_14:C:=.pl <| .e 23 1 <|
 .x 23 (.bin .add (.v 16) (.c (.int .i64 1))) <|
 .m 16 23 .done
@[simp] def W57_14:=C.w K57_14.eq_1
def K57_15:C:=.pl <| .e 23 1 <|
 .x 23 (.bin .add (.v 19) (.c (.int .i64 1))) <|
 .m 19 23 .done
@[simp] def W57_15:=C.w K57_15.eq_1
def K57_16:Pl:=.x 49 (.ia 1 (.v 23) (.v 29)) <|
 .o (.ex none (.store 1 (.v 49) (.v 48))) .done
@[simp] def W57_16:=Pl.w K57_16.eq_1
def K57_17:Pl:=.st (.re 38 (.v 37) none none) <|
 .x 43 (.bin .mul (.v 41) (.v 42)) <|
 .x 46 (.bin .add (.v 43) (.v 45)) <|
 .o (.psl 47 [.int .i64 0] [(0,1,.v 46)]) <|
 .c 48 (.app 8 1 [.int .i64 0] (.o (.v 38)) (.p 1 47)) K57_16
@[simp] def W57_17:=Pl.w K57_17.eq_1
def K57_18:C:=.pl <| .e 23 27 <|
 .m 23 7 <|
 .m 24 8 <|
 .m 25 6 <|
 .x 26 (.bin .mul (.v 24) (.v 25)) <|
 .a 27 10 <|
 .g 28 27 10 0 <|
 .x 29 (.bin .add (.v 26) (.v 28)) <|
 .m 30 7 <|
 .m 31 8 <|
 .m 32 6 <|
 .x 33 (.bin .mul (.v 31) (.v 32)) <|
 .a 34 10 <|
 .g 35 34 10 0 <|
 .x 36 (.bin .add (.v 33) (.v 35)) <|
 .x 37 (.ia 1 (.v 30) (.v 36)) <|
 .l 38 37 <|
 .o (.pget (some 39) none 3 0 (some 2)) <|
 .m 40 8 <|
 .m 42 6 <|
 .a 44 10 <|
 .g 45 44 10 3 <|
 .c 41 (.call fn_impl_Lasso_next [.v 39,.v 40]) K57_17
@[simp] def W57_18:=C.w K57_18.eq_1
def K57_19:C:=.cond 23 (.v 25) K57_18 (.skip)
@[simp] def W57_19:=C.w K57_19.eq_1
def K57_20:C:=.seq (.pl <| .e 23 3 <|
 .o (.pget (some 23) none 10 0 (some 4)) <|
 .m 24 9 <|
 .c 25 (.call fn_impl_Transition_takes [.v 23,.v 24]) .done) K57_19
@[simp] def W57_20:=C.w K57_20.eq_1
def K57_21:C:=.seq (.block 3 (.seq (.pl <| .e 23 2 <|
 .x 23 (.ia 4 (.v 17) (.v 19)) <|
 .o (.ld (some 24) (.v 23) (some 4)) <|
 .o (.pnew 10 (.c (.agg #[.int .i64 0,.int .i64 0,.int .i64 0,.int .i64 0])) []) <|
 .o (.pset none 10 0 4 (.v 24)) .done) K57_20)) K57_15
@[simp] def W57_21:=C.w K57_21.eq_1
def K57_22:C:=.seq (.cond 23 (.v 23) (.skip) (.exit 2)) K57_21
@[simp] def W57_22:=C.w K57_22.eq_1
def K57_23:C:=.seq (.pl <| .e 23 1 <|
 .x 23 (.bin .lss (.v 19) (.v 18)) .done) K57_22
@[simp] def W57_23:=C.w K57_23.eq_1
def K57_24:C:=.block 2 (.loop 23 [0,1,4,5,10,11,12,13,20,21,22] K57_23)
@[simp] def W57_24:=C.w K57_24.eq_1
def K57_25:C:=.seq (.pl <| .e 23 1 <|
 .a 23 2 <|
 .g 17 23 2 2 <|
 .x 18 (.lenV (.v 17)) <|
 .x 19 (.mv (.c (.int .i64 0))) .done) K57_24
@[simp] def W57_25:=C.w K57_25.eq_1
def K57_26:C:=.seq (.block 1 (.seq (.pl <| .e 23 3 <|
 .m 23 16 <|
 .x 24 (.ia 1 (.v 14) (.v 16)) <|
 .l 25 24 <|
 .m 8 23 <|
 .m 9 25 .done) K57_25)) K57_14
@[simp] def W57_26:=C.w K57_26.eq_1
def K57_27:C:=.seq (.cond 23 (.v 23) (.skip) (.exit 0)) K57_26
@[simp] def W57_27:=C.w K57_27.eq_1
def K57_28:C:=.seq (.pl <| .e 23 1 <|
 .x 23 (.bin .lss (.v 16) (.v 15)) .done) K57_27
@[simp] def W57_28:=C.w K57_28.eq_1
def K57_29:C:=.block 0 (.loop 23 [0,1,4,5,8,9,10,11,12,13,17,18,19,20,21,22] K57_28)
@[simp] def W57_29:=C.w K57_29.eq_1
def K57_30:C:=.seq (.seq (.pl <| .e 23 0 <|
 .m 14 5 <|
 .x 15 (.lenV (.v 14)) <|
 .x 16 (.mv (.c (.int .i64 0))) .done) K57_29) K57_13
@[simp] def W57_30:=C.w K57_30.eq_1
def K57_31:Pl:=.m 7 27 .done
@[simp] def W57_31:=Pl.w K57_31.eq_1
def K57_32:C:=.seq (.pl <| .e 23 5 <|
 .m 23 5 <|
 .x 24 (.lenV (.v 23)) <|
 .m 25 6 <|
 .x 26 (.bin .mul (.v 24) (.v 25)) <|
 .c 27 (.mks 24 1 [.slice none 0 0] (.v 26) (.v 26)) K57_31) K57_30
@[simp] def W57_32:=C.w K57_32.eq_1
def K57_33:Pl:=.m 5 24 <|
 .m 6 27 .done
@[simp] def W57_33:=Pl.w K57_33.eq_1
def K57_34:C:=.seq (.pl <| .e 23 5 <|
 .o (.pget (some 23) none 3 0 (some 2)) <|
 .a 25 2 <|
 .g 26 25 2 1 <|
 .x 27 (.lenV (.v 26)) <|
 .c 24 (.call fn_impl_Lasso_all [.v 23]) K57_33) K57_32
@[simp] def W57_34:=C.w K57_34.eq_1
def B_impl_Automaton_accepts:C:=.seq (.pl <| .e 23 0 <|
 .o (.pnew 2 (.v 0) []) <|
 .o (.pnew 3 (.v 1) []) <|
 .x 4 (.mv (.c (.bool false))) .done) K57_34
@[simp] def WB_impl_Automaton_accepts:=C.w B_impl_Automaton_accepts.eq_1
def R_impl_Automaton_accepts:FIR:=⟨B_impl_Automaton_accepts,23,[(4,none)]⟩
theorem IR_impl_Automaton_accepts:cfun Tryz.prog H_impl_Automaton_accepts Tryz.f57=some R_impl_Automaton_accepts:=by kernel_rfl
theorem EN_impl_Automaton_accepts:ENT Tryz.prog B_impl_Automaton_accepts [(4,none)] 2 23 fn_impl_Automaton_accepts:=fun hargs hw=>enter Tryz.func57 rfl IR_impl_Automaton_accepts hargs hw
def H_impl_Automaton_values:Hint:=⟨[(0,false),(1,false),(2,true),(3,false),(4,false),(5,false),(6,false),(7,false),(27,false)],[[0,1,4,7,8]]⟩
def K64_1:Pl:=.m 4 10 .done
@[simp] def W64_1:=Pl.w K64_1.eq_1
def K64_2:C:=.seq (.pl <| .e 9 2 <|
 .m 9 5 <|
 .c 10 (.call fn_slices_Clip_S_int_int [.v 9]) K64_1) (.ret)
@[simp] def W64_2:=C.w K64_2.eq_1
def K64_3:C:=.pl <| .e 9 2 <|
 .l 9 6 <|
 .x 10 (.bin .add (.v 9) (.c (.int .i64 1))) <|
 .o (.ex none (.store 1 (.v 6) (.v 10))) .done
@[simp] def W64_3:=C.w K64_3.eq_1
def K64_4:Pl:=.o (.ex none (.store 1 (.v 6) (.v 8))) .done
@[simp] def W64_4:=Pl.w K64_4.eq_1
def K64_5:C:=.pl <| .e 9 0 <|
 .c 6 (.alloc (.c (.int .i64 0))) K64_4
@[simp] def W64_5:=C.w K64_5.eq_1
def K64_6:C:=.seq (.seq (.pl <| .e 9 0 <|
 .l 8 6 .done) K64_5) K64_3
@[simp] def W64_6:=C.w K64_6.eq_1
def K64_7:Pl:=.m 5 17 .done
@[simp] def W64_7:=Pl.w K64_7.eq_1
def K64_8:C:=.pl <| .e 9 9 <|
 .m 9 5 <|
 .a 10 2 <|
 .g 11 10 2 2 <|
 .m 12 7 <|
 .x 13 (.ia 4 (.v 11) (.v 12)) <|
 .x 14 (.fa 2 (.v 13)) <|
 .l 15 14 <|
 .o (.psl 16 [.int .i64 0] [(0,1,.v 15)]) <|
 .c 17 (.app 8 1 [.int .i64 0] (.o (.v 9)) (.p 1 16)) K64_7
@[simp] def W64_8:=C.w K64_8.eq_1
def K64_9:Pl:=.m 7 12 .done
@[simp] def W64_9:=Pl.w K64_9.eq_1
def K64_10:C:=.seq (.block 1 (.seq (.pl <| .e 9 4 <|
 .a 9 2 <|
 .g 10 9 2 2 <|
 .x 11 (.mkf (.func fn_impl_Automaton_values_1) [] [.v 3,.v 6]) <|
 .c 12 (.call fn_slices_IndexFunc_S_impl_Transition_impl_Transition [.v 10,.v 11]) K64_9) K64_8)) K64_6
@[simp] def W64_10:=C.w K64_10.eq_1
def K64_11:C:=.cond 9 (.v 12) (.skip) (.exit 0)
@[simp] def W64_11:=C.w K64_11.eq_1
def K64_12:C:=.seq (.seq (.pl <| .e 9 4 <|
 .l 9 6 <|
 .l 10 3 <|
 .x 11 (.lenV (.v 10)) <|
 .x 12 (.bin .lss (.v 9) (.v 11)) .done) K64_11) K64_10
@[simp] def W64_12:=C.w K64_12.eq_1
def K64_13:C:=.block 0 (.loop 9 [0,1,4,7,8] K64_12)
@[simp] def W64_13:=C.w K64_13.eq_1
def K64_14:Pl:=.o (.ex none (.store 1 (.v 6) (.c (.int .i64 1)))) .done
@[simp] def W64_14:=Pl.w K64_14.eq_1
def K64_15:C:=.seq (.seq (.pl <| .e 9 0 <|
 .c 6 (.alloc (.c (.int .i64 0))) K64_14) K64_13) K64_2
@[simp] def W64_15:=C.w K64_15.eq_1
def K64_16:C:=.seq (.pl <| .e 9 0 <|
 .x 5 (.mv (.c (.slice none 0 0))) .done) K64_15
@[simp] def W64_16:=C.w K64_16.eq_1
def K64_17:Pl:=.x 4 (.mv (.c (.slice none 0 0))) .done
@[simp] def W64_17:=Pl.w K64_17.eq_1
def B_impl_Automaton_values:C:=.seq (.pl <| .e 9 0 <|
 .o (.pnew 2 (.v 0) []) <|
 .c 3 (.alloc (.v 1)) K64_17) K64_16
@[simp] def WB_impl_Automaton_values:=C.w B_impl_Automaton_values.eq_1
def R_impl_Automaton_values:FIR:=⟨B_impl_Automaton_values,9,[(4,none)]⟩
theorem IR_impl_Automaton_values:cfun Tryz.prog H_impl_Automaton_values Tryz.f64=some R_impl_Automaton_values:=by kernel_rfl
theorem EN_impl_Automaton_values:ENT Tryz.prog B_impl_Automaton_values [(4,none)] 2 9 fn_impl_Automaton_values:=fun hargs hw=>enter Tryz.func64 rfl IR_impl_Automaton_values hargs hw
def H_impl_Automaton_values_1:Hint:=⟨[(0,false),(1,false),(2,false),(3,true),(4,false)],[]⟩
def K120_1:C:=.seq (.pl <| .e 5 17 <|
 .a 5 3 <|
 .g 6 5 3 0 <|
 .l 7 1 <|
 .l 8 2 <|
 .x 9 (.bin .sub (.v 8) (.c (.int .i64 1))) <|
 .x 10 (.ia 1 (.v 7) (.v 9)) <|
 .l 11 10 <|
 .x 12 (.bin .eql (.v 6) (.v 11)) <|
 .m 13 12 <|
 .y 13 (.als 14 none 3) <|
 .y 13 (.pget (some 15) (some 14) 3 3 none) <|
 .y 13 (.ld (some 16) (.v 1) none) <|
 .y 13 (.ld (some 17) (.v 2) none) <|
 .y 13 (.px (some 18) (.ia 1 (.v 16) (.v 17))) <|
 .y 13 (.ld (some 19) (.v 18) none) <|
 .y 13 (.px (some 20) (.bin .eql (.v 15) (.v 19))) <|
 .x 21 (.pick (.v 13) (.v 20) (.c (.bool false))) <|
 .m 4 21 .done) (.ret)
@[simp] def W120_1:=C.w K120_1.eq_1
def B_impl_Automaton_values_1:C:=.seq (.pl <| .e 5 0 <|
 .o (.pnew 3 (.v 0) []) <|
 .x 4 (.mv (.c (.bool false))) .done) K120_1
@[simp] def WB_impl_Automaton_values_1:=C.w B_impl_Automaton_values_1.eq_1
def R_impl_Automaton_values_1:FIR:=⟨B_impl_Automaton_values_1,5,[(4,none)]⟩
theorem IR_impl_Automaton_values_1:cfun Tryz.prog H_impl_Automaton_values_1 Tryz.f120=some R_impl_Automaton_values_1:=by kernel_rfl
theorem EN_impl_Automaton_values_1:ENT Tryz.prog B_impl_Automaton_values_1 [(4,none)] 3 5 fn_impl_Automaton_values_1:=fun hargs hw=>enter Tryz.func120 rfl IR_impl_Automaton_values_1 hargs hw
def H_impl_FindWord:Hint:=⟨[(0,false),(1,false),(2,true),(3,false),(4,false),(5,false),(6,false)],[]⟩
def K15_1:Pl:=.x 25 (.build [.slice none 0 0,.slice none 0 0] [(0,1,.v 15),(1,1,.v 24)]) <|
 .o (.pset none 2 0 2 (.v 25)) <|
 .x 3 (.mv (.c (.bool true))) .done
@[simp] def W15_1:=Pl.w K15_1.eq_1
def K15_2:Pl:=.st (.re 16 (.v 1) (some 3) none) <|
 .c 24 (.call fn_impl_Automaton_values [.v 16,.v 23]) K15_1
@[simp] def W15_2:=Pl.w K15_2.eq_1
def K15_3:Pl:=.st (.re 16 (.v 1) (some 3) none) <|
 .st (.re 21 (.v 20) none none) <|
 .c 23 (.app 8 1 [.int .i64 0] (.o (.v 18)) (.p 1 22)) K15_2
@[simp] def W15_3:=Pl.w K15_3.eq_1
def K15_4:Pl:=.st (.re 16 (.v 1) (some 3) none) <|
 .st (.re 21 (.v 20) none none) <|
 .c 18 (.call fn_impl_clone_int [.v 17]) K15_3
@[simp] def W15_4:=Pl.w K15_4.eq_1
def K15_5:Pl:=.st (.re 7 (.v 1) (some 3) none) <|
 .st (.re 16 (.v 1) (some 3) none) <|
 .st (.re 21 (.v 20) none none) <|
 .c 15 (.call fn_impl_Automaton_values [.v 7,.v 14]) K15_4
@[simp] def W15_5:=Pl.w K15_5.eq_1
def K15_6:Pl:=.st (.re 7 (.v 1) (some 3) none) <|
 .st (.re 12 (.v 11) none none) <|
 .st (.re 16 (.v 1) (some 3) none) <|
 .st (.re 21 (.v 20) none none) <|
 .c 14 (.app 8 1 [.int .i64 0] (.o (.v 9)) (.p 1 13)) K15_5
@[simp] def W15_6:=Pl.w K15_6.eq_1
def K15_7:C:=.seq (.pl <| .e 7 19 <|
 .o (.ld (some 7) (.v 1) (some 3)) <|
 .m 8 4 <|
 .m 10 5 <|
 .x 11 (.ia 1 (.v 10) (.c (.int .i64 0))) <|
 .l 12 11 <|
 .o (.psl 13 [.int .i64 0] [(0,1,.v 12)]) <|
 .o (.ld (some 16) (.v 1) (some 3)) <|
 .m 17 5 <|
 .m 19 5 <|
 .x 20 (.ia 1 (.v 19) (.c (.int .i64 0))) <|
 .l 21 20 <|
 .o (.psl 22 [.int .i64 0] [(0,1,.v 21)]) <|
 .c 9 (.call fn_impl_clone_int [.v 8]) K15_6) (.ret)
@[simp] def W15_7:=C.w K15_7.eq_1
def K15_8:C:=.seq (.pl <| .e 7 1 <|
 .x 7 (.build [.slice none 0 0,.slice none 0 0] []) <|
 .o (.pset none 2 0 2 (.v 7)) <|
 .x 3 (.mv (.c (.bool false))) .done) (.ret)
@[simp] def W15_8:=C.w K15_8.eq_1
def K15_9:C:=.cond 7 (.v 8) K15_8 (.skip)
@[simp] def W15_9:=C.w K15_9.eq_1
def K15_10:C:=.seq (.seq (.pl <| .e 7 2 <|
 .m 7 6 <|
 .x 8 (.un .not (.v 7)) .done) K15_9) K15_7
@[simp] def W15_10:=C.w K15_10.eq_1
def K15_11:Pl:=.m 13 12 <|
 .x 14 (.extract 0 (.v 13)) <|
 .x 15 (.extract 1 (.v 13)) <|
 .x 16 (.extract 2 (.v 13)) <|
 .m 4 14 <|
 .m 5 15 <|
 .m 6 16 .done
@[simp] def W15_11:=Pl.w K15_11.eq_1
def K15_12:Pl:=.st (.re 10 (.v 9) none none) <|
 .c 12 (.call fn_impl_lasso [.v 8,.v 10,.v 11]) K15_11
@[simp] def W15_12:=Pl.w K15_12.eq_1
def K15_13:C:=.seq (.pl <| .e 7 10 <|
 .o (.ld (some 7) (.v 1) (some 3)) <|
 .x 9 (.fa 0 (.v 1)) <|
 .l 10 9 <|
 .x 11 (.mkf (.func fn_impl_FindWord_1) [] [.v 1]) <|
 .c 8 (.call fn_impl_Automaton_next [.v 7]) K15_12) K15_10
@[simp] def W15_13:=C.w K15_13.eq_1
def K15_14:C:=.seq (.pl <| .e 7 1 <|
 .x 7 (.build [.slice none 0 0,.slice none 0 0] []) <|
 .o (.pset none 2 0 2 (.v 7)) <|
 .x 3 (.mv (.c (.bool false))) .done) (.ret)
@[simp] def W15_14:=C.w K15_14.eq_1
def K15_15:C:=.cond 7 (.v 9) K15_14 (.skip)
@[simp] def W15_15:=C.w K15_15.eq_1
def K15_16:Pl:=.x 9 (.un .not (.v 8)) .done
@[simp] def W15_16:=Pl.w K15_16.eq_1
def K15_17:C:=.seq (.seq (.pl <| .e 7 3 <|
 .o (.ld (some 7) (.v 1) (some 3)) <|
 .c 8 (.call fn_impl_AutomatonValid [.v 7]) K15_16) K15_15) K15_13
@[simp] def W15_17:=C.w K15_17.eq_1
def K15_18:Pl:=.o (.pnew 2 (.c (.agg #[.slice none 0 0,.slice none 0 0])) []) <|
 .x 3 (.mv (.c (.bool false))) .done
@[simp] def W15_18:=Pl.w K15_18.eq_1
def B_impl_FindWord:C:=.seq (.pl <| .e 7 0 <|
 .c 1 (.alloc (.v 0)) K15_18) K15_17
@[simp] def WB_impl_FindWord:=C.w B_impl_FindWord.eq_1
def R_impl_FindWord:FIR:=⟨B_impl_FindWord,7,[(2,some (some 2)),(3,none)]⟩
theorem IR_impl_FindWord:cfun Tryz.prog H_impl_FindWord Tryz.f15=some R_impl_FindWord:=by kernel_rfl
theorem EN_impl_FindWord:ENT Tryz.prog B_impl_FindWord [(2,some (some 2)),(3,none)] 1 7 fn_impl_FindWord:=fun hargs hw=>enter Tryz.func15 rfl IR_impl_FindWord hargs hw
def H_impl_FindWord_1:Hint:=⟨[(0,false),(1,false),(3,false)],[]⟩
def K63_1:C:=.seq (.pl <| .e 3 5 <|
 .x 3 (.fa 1 (.v 1)) <|
 .l 4 3 <|
 .m 5 0 <|
 .x 6 (.ia 1 (.v 4) (.v 5)) <|
 .l 7 6 <|
 .m 2 7 .done) (.ret)
@[simp] def W63_1:=C.w K63_1.eq_1
def B_impl_FindWord_1:C:=.seq (.pl <| .e 3 0 <|
 .x 2 (.mv (.c (.bool false))) .done) K63_1
@[simp] def WB_impl_FindWord_1:=C.w B_impl_FindWord_1.eq_1
def R_impl_FindWord_1:FIR:=⟨B_impl_FindWord_1,3,[(2,none)]⟩
theorem IR_impl_FindWord_1:cfun Tryz.prog H_impl_FindWord_1 Tryz.f63=some R_impl_FindWord_1:=by kernel_rfl
theorem EN_impl_FindWord_1:ENT Tryz.prog B_impl_FindWord_1 [(2,none)] 2 3 fn_impl_FindWord_1:=fun hargs hw=>enter Tryz.func63 rfl IR_impl_FindWord_1 hargs hw
def H_impl_Formula_negation:Hint:=⟨[(0,false),(1,true),(2,true)],[]⟩
def K36_1:Pl:=.o (.pset none 2 0 3 (.v 6)) .done
@[simp] def W36_1:=Pl.w K36_1.eq_1
def K36_2:Pl:=.c 6 (.call fn_impl_formula [.c (.int .i64 3),.v 5]) K36_1
@[simp] def W36_2:=Pl.w K36_2.eq_1
def K36_3:Pl:=.c 5 (.bls 3 1 [.int .i64 0,.int .i64 0,.slice none 0 0] [(0,3,.v 4)]) K36_2
@[simp] def W36_3:=Pl.w K36_3.eq_1
def K36_4:C:=.seq (.pl <| .e 3 4 <|
 .o (.pget (some 3) none 1 0 (some 3)) <|
 .c 4 (.call fn_impl_Formula_copyOf [.v 3]) K36_3) (.ret)
@[simp] def W36_4:=C.w K36_4.eq_1
def K36_5:Pl:=.o (.pset none 2 0 3 (.v 7)) .done
@[simp] def W36_5:=Pl.w K36_5.eq_1
def K36_6:C:=.seq (.pl <| .e 3 5 <|
 .a 3 1 <|
 .g 4 3 1 2 <|
 .x 5 (.ia 3 (.v 4) (.c (.int .i64 0))) <|
 .o (.ld (some 6) (.v 5) (some 3)) <|
 .c 7 (.call fn_impl_Formula_copyOf [.v 6]) K36_5) (.ret)
@[simp] def W36_6:=C.w K36_6.eq_1
def K36_7:C:=.cond 3 (.v 5) K36_6 (.skip)
@[simp] def W36_7:=C.w K36_7.eq_1
def K36_8:C:=.seq (.seq (.pl <| .e 3 3 <|
 .a 3 1 <|
 .g 4 3 1 0 <|
 .x 5 (.bin .eql (.v 4) (.c (.int .i64 3))) .done) K36_7) K36_4
@[simp] def W36_8:=C.w K36_8.eq_1
def B_impl_Formula_negation:C:=.seq (.pl <| .e 3 0 <|
 .o (.pnew 1 (.v 0) []) <|
 .o (.pnew 2 (.c (.agg #[.int .i64 0,.int .i64 0,.slice none 0 0])) []) .done) K36_8
@[simp] def WB_impl_Formula_negation:=C.w B_impl_Formula_negation.eq_1
def R_impl_Formula_negation:FIR:=⟨B_impl_Formula_negation,3,[(2,some (some 3))]⟩
theorem IR_impl_Formula_negation:cfun Tryz.prog H_impl_Formula_negation Tryz.f36=some R_impl_Formula_negation:=by kernel_rfl
theorem EN_impl_Formula_negation:ENT Tryz.prog B_impl_Formula_negation [(2,some (some 3))] 1 3 fn_impl_Formula_negation:=fun hargs hw=>enter Tryz.func36 rfl IR_impl_Formula_negation hargs hw
def H_impl_IntersectAutomata:Hint:=⟨[(0,false),(1,false),(2,false),(3,false),(4,true),(5,false),(6,false),(8,false),(10,false),(11,false),(22,false),(23,false),(24,false),(29,false),(30,false),(31,false)],[[0,1,5,7,8,9,13,14,15],[0,1,5,8,9]]⟩
def K14_1:Pl:=.x 20 (.extract 0 (.v 19)) <|
 .x 21 (.extract 1 (.v 19)) <|
 .o (.pset none 4 0 3 (.v 20)) <|
 .m 5 21 .done
@[simp] def W14_1:=Pl.w K14_1.eq_1
def K14_2:C:=.seq (.pl <| .e 16 6 <|
 .m 16 6 <|
 .x 17 (.mkf (.func fn_impl_IntersectAutomata_2) [] [.v 3]) <|
 .m 18 9 <|
 .c 19 (.call fn_impl_explore_impl_triple [.v 16,.v 17,.v 18]) K14_1) (.ret)
@[simp] def W14_2:=C.w K14_2.eq_1
def K14_3:C:=.seq (.pl <| .e 16 1 <|
 .x 16 (.mkf (.func fn_impl_IntersectAutomata_1) [] [.v 2,.v 3]) <|
 .m 9 16 .done) K14_2
@[simp] def W14_3:=C.w K14_3.eq_1
def K14_4:C:=.pl <| .e 16 1 <|
 .x 16 (.bin .add (.v 12) (.c (.int .i64 1))) <|
 .m 12 16 .done
@[simp] def W14_4:=C.w K14_4.eq_1
def K14_5:C:=.pl <| .e 16 1 <|
 .x 16 (.bin .add (.v 15) (.c (.int .i64 1))) <|
 .m 15 16 .done
@[simp] def W14_5:=C.w K14_5.eq_1
def K14_6:Pl:=.m 6 21 .done
@[simp] def W14_6:=Pl.w K14_6.eq_1
def K14_7:C:=.pl <| .e 16 6 <|
 .m 16 6 <|
 .m 17 7 <|
 .m 18 8 <|
 .x 19 (.build [.int .i64 0,.int .i64 0,.int .i64 0] [(0,1,.v 17),(1,1,.v 18),(2,1,.c (.int .i64 0))]) <|
 .o (.psl 20 [.int .i64 0,.int .i64 0,.int .i64 0] [(0,3,.v 19)]) <|
 .c 21 (.app 24 3 [.int .i64 0,.int .i64 0,.int .i64 0] (.o (.v 16)) (.p 1 20)) K14_6
@[simp] def W14_7:=C.w K14_7.eq_1
def K14_8:C:=.seq (.block 3 (.seq (.pl <| .e 16 2 <|
 .x 16 (.ia 1 (.v 13) (.v 15)) <|
 .l 17 16 <|
 .m 8 17 .done) K14_7)) K14_5
@[simp] def W14_8:=C.w K14_8.eq_1
def K14_9:C:=.seq (.cond 16 (.v 16) (.skip) (.exit 2)) K14_8
@[simp] def W14_9:=C.w K14_9.eq_1
def K14_10:C:=.seq (.pl <| .e 16 1 <|
 .x 16 (.bin .lss (.v 15) (.v 14)) .done) K14_9
@[simp] def W14_10:=C.w K14_10.eq_1
def K14_11:C:=.block 2 (.loop 16 [0,1,5,8,9] K14_10)
@[simp] def W14_11:=C.w K14_11.eq_1
def K14_12:C:=.seq (.pl <| .e 16 1 <|
 .x 16 (.fa 0 (.v 3)) <|
 .l 13 16 <|
 .x 14 (.lenV (.v 13)) <|
 .x 15 (.mv (.c (.int .i64 0))) .done) K14_11
@[simp] def W14_12:=C.w K14_12.eq_1
def K14_13:C:=.seq (.block 1 (.seq (.pl <| .e 16 2 <|
 .x 16 (.ia 1 (.v 10) (.v 12)) <|
 .l 17 16 <|
 .m 7 17 .done) K14_12)) K14_4
@[simp] def W14_13:=C.w K14_13.eq_1
def K14_14:C:=.seq (.cond 16 (.v 16) (.skip) (.exit 0)) K14_13
@[simp] def W14_14:=C.w K14_14.eq_1
def K14_15:C:=.seq (.pl <| .e 16 1 <|
 .x 16 (.bin .lss (.v 12) (.v 11)) .done) K14_14
@[simp] def W14_15:=C.w K14_15.eq_1
def K14_16:C:=.block 0 (.loop 16 [0,1,5,7,8,9,13,14,15] K14_15)
@[simp] def W14_16:=C.w K14_16.eq_1
def K14_17:C:=.seq (.seq (.pl <| .e 16 1 <|
 .x 16 (.fa 0 (.v 2)) <|
 .l 10 16 <|
 .x 11 (.lenV (.v 10)) <|
 .x 12 (.mv (.c (.int .i64 0))) .done) K14_16) K14_3
@[simp] def W14_17:=C.w K14_17.eq_1
def K14_18:C:=.seq (.pl <| .e 16 0 <|
 .x 6 (.mv (.c (.slice none 0 0))) .done) K14_17
@[simp] def W14_18:=C.w K14_18.eq_1
def K14_19:C:=.seq (.pl <| .e 16 1 <|
 .x 16 (.build [.slice none 0 0,.slice none 0 0,.slice none 0 0] []) <|
 .o (.pset none 4 0 3 (.v 16)) <|
 .x 5 (.mv (.c (.bool false))) .done) (.ret)
@[simp] def W14_19:=C.w K14_19.eq_1
def K14_20:C:=.cond 16 (.v 23) K14_19 (.skip)
@[simp] def W14_20:=C.w K14_20.eq_1
def K14_21:Pl:=.n 19 (.px (some 22) (.un .not (.v 21))) <|
 .x 23 (.pick (.v 19) (.c (.bool true)) (.v 22)) .done
@[simp] def W14_21:=Pl.w K14_21.eq_1
def K14_22:Pl:=.x 18 (.un .not (.v 17)) <|
 .m 19 18 <|
 .n 19 (.ld (some 20) (.v 3) (some 3)) <|
 .st (.act (some (.v 19,false)) (.ex (some 21) (.call fn_impl_AutomatonValid [.v 20]))) K14_21
@[simp] def W14_22:=Pl.w K14_22.eq_1
def K14_23:C:=.seq (.seq (.pl <| .e 16 8 <|
 .o (.ld (some 16) (.v 2) (some 3)) <|
 .c 17 (.call fn_impl_AutomatonValid [.v 16]) K14_22) K14_20) K14_18
@[simp] def W14_23:=C.w K14_23.eq_1
def K14_24:Pl:=.o (.pnew 4 (.c (.agg #[.slice none 0 0,.slice none 0 0,.slice none 0 0])) []) <|
 .x 5 (.mv (.c (.bool false))) .done
@[simp] def W14_24:=Pl.w K14_24.eq_1
def K14_25:Pl:=.c 3 (.alloc (.v 1)) K14_24
@[simp] def W14_25:=Pl.w K14_25.eq_1
def B_impl_IntersectAutomata:C:=.seq (.pl <| .e 16 0 <|
 .c 2 (.alloc (.v 0)) K14_25) K14_23
@[simp] def WB_impl_IntersectAutomata:=C.w B_impl_IntersectAutomata.eq_1
def R_impl_IntersectAutomata:FIR:=⟨B_impl_IntersectAutomata,16,[(4,some (some 3)),(5,none)]⟩
theorem IR_impl_IntersectAutomata:cfun Tryz.prog H_impl_IntersectAutomata Tryz.f14=some R_impl_IntersectAutomata:=by kernel_rfl
theorem EN_impl_IntersectAutomata:ENT Tryz.prog B_impl_IntersectAutomata [(4,some (some 3)),(5,none)] 2 16 fn_impl_IntersectAutomata:=fun hargs hw=>enter Tryz.func14 rfl IR_impl_IntersectAutomata hargs hw
def H_impl_IntersectAutomata_1:Hint:=⟨[(0,false),(1,false),(2,false),(3,true),(4,false),(5,false),(6,false),(8,true),(10,true),(36,false),(37,false),(38,false),(43,false),(44,false),(45,false)],[[0,1,4,7,8,12,13,14],[0,1,4,8]]⟩
def K58_1:C:=.seq (.pl <| .e 15 1 <|
 .m 15 6 <|
 .m 4 15 .done) (.ret)
@[simp] def W58_1:=C.w K58_1.eq_1
def K58_2:C:=.pl <| .e 15 1 <|
 .x 15 (.bin .add (.v 11) (.c (.int .i64 1))) <|
 .m 11 15 .done
@[simp] def W58_2:=C.w K58_2.eq_1
def K58_3:C:=.pl <| .e 15 1 <|
 .x 15 (.bin .add (.v 14) (.c (.int .i64 1))) <|
 .m 14 15 .done
@[simp] def W58_3:=C.w K58_3.eq_1
def K58_4:Pl:=.m 6 34 .done
@[simp] def W58_4:=Pl.w K58_4.eq_1
def K58_5:C:=.pl <| .e 15 20 <|
 .m 15 6 <|
 .a 16 7 <|
 .g 17 16 7 1 <|
 .a 18 8 <|
 .g 19 18 8 1 <|
 .x 20 (.bin .or (.v 17) (.v 19)) <|
 .a 21 7 <|
 .g 22 21 7 2 <|
 .a 23 8 <|
 .g 24 23 8 2 <|
 .x 25 (.bin .or (.v 22) (.v 24)) <|
 .a 26 7 <|
 .g 27 26 7 3 <|
 .a 28 8 <|
 .g 29 28 8 3 <|
 .m 30 5 <|
 .x 31 (.build [.int .i64 0,.int .i64 0,.int .i64 0] [(0,1,.v 27),(1,1,.v 29),(2,1,.v 30)]) <|
 .x 32 (.build [.int .i64 0,.int .i64 0,.int .i64 0,.int .i64 0,.int .i64 0] [(0,1,.v 20),(1,1,.v 25),(2,3,.v 31)]) <|
 .o (.psl 33 [.int .i64 0,.int .i64 0,.int .i64 0,.int .i64 0,.int .i64 0] [(0,5,.v 32)]) <|
 .c 34 (.app 40 5 [.int .i64 0,.int .i64 0,.int .i64 0,.int .i64 0,.int .i64 0] (.o (.v 15)) (.p 1 33)) K58_4
@[simp] def W58_5:=C.w K58_5.eq_1
def K58_6:C:=.cond 15 (.v 40) K58_5 (.skip)
@[simp] def W58_6:=C.w K58_6.eq_1
def K58_7:C:=.seq (.pl <| .e 15 26 <|
 .a 15 7 <|
 .g 16 15 7 0 <|
 .a 17 3 <|
 .g 18 17 3 0 <|
 .x 19 (.bin .eql (.v 16) (.v 18)) <|
 .m 20 19 <|
 .y 20 (.als 21 none 8) <|
 .y 20 (.pget (some 22) (some 21) 8 0 none) <|
 .y 20 (.als 23 none 3) <|
 .y 20 (.pget (some 24) (some 23) 3 1 none) <|
 .y 20 (.px (some 25) (.bin .eql (.v 22) (.v 24))) <|
 .x 26 (.pick (.v 20) (.v 25) (.c (.bool false))) <|
 .m 27 26 <|
 .y 27 (.als 28 none 7) <|
 .y 27 (.pget (some 29) (some 28) 7 2 none) <|
 .y 27 (.als 30 none 8) <|
 .y 27 (.pget (some 31) (some 30) 8 2 none) <|
 .y 27 (.px (some 32) (.bin .xor (.v 29) (.v 31))) <|
 .y 27 (.als 33 none 7) <|
 .y 27 (.pget (some 34) (some 33) 7 1 none) <|
 .y 27 (.px (some 35) (.bin .and (.v 32) (.v 34))) <|
 .y 27 (.als 36 none 8) <|
 .y 27 (.pget (some 37) (some 36) 8 1 none) <|
 .y 27 (.px (some 38) (.bin .and (.v 35) (.v 37))) <|
 .y 27 (.px (some 39) (.bin .eql (.v 38) (.c (.int .i64 0)))) <|
 .x 40 (.pick (.v 27) (.v 39) (.c (.bool false))) .done) K58_6
@[simp] def W58_7:=C.w K58_7.eq_1
def K58_8:C:=.seq (.block 3 (.seq (.pl <| .e 15 2 <|
 .x 15 (.ia 4 (.v 12) (.v 14)) <|
 .o (.ld (some 16) (.v 15) (some 4)) <|
 .o (.pnew 8 (.c (.agg #[.int .i64 0,.int .i64 0,.int .i64 0,.int .i64 0])) []) <|
 .o (.pset none 8 0 4 (.v 16)) .done) K58_7)) K58_3
@[simp] def W58_8:=C.w K58_8.eq_1
def K58_9:C:=.seq (.cond 15 (.v 15) (.skip) (.exit 2)) K58_8
@[simp] def W58_9:=C.w K58_9.eq_1
def K58_10:C:=.seq (.pl <| .e 15 1 <|
 .x 15 (.bin .lss (.v 14) (.v 13)) .done) K58_9
@[simp] def W58_10:=C.w K58_10.eq_1
def K58_11:C:=.block 2 (.loop 15 [0,1,4,8] K58_10)
@[simp] def W58_11:=C.w K58_11.eq_1
def K58_12:C:=.seq (.pl <| .e 15 1 <|
 .x 15 (.fa 2 (.v 2)) <|
 .l 12 15 <|
 .x 13 (.lenV (.v 12)) <|
 .x 14 (.mv (.c (.int .i64 0))) .done) K58_11
@[simp] def W58_12:=C.w K58_12.eq_1
def K58_13:C:=.seq (.block 1 (.seq (.pl <| .e 15 2 <|
 .x 15 (.ia 4 (.v 9) (.v 11)) <|
 .o (.ld (some 16) (.v 15) (some 4)) <|
 .o (.pnew 7 (.c (.agg #[.int .i64 0,.int .i64 0,.int .i64 0,.int .i64 0])) []) <|
 .o (.pset none 7 0 4 (.v 16)) .done) K58_12)) K58_2
@[simp] def W58_13:=C.w K58_13.eq_1
def K58_14:C:=.seq (.cond 15 (.v 15) (.skip) (.exit 0)) K58_13
@[simp] def W58_14:=C.w K58_14.eq_1
def K58_15:C:=.seq (.pl <| .e 15 1 <|
 .x 15 (.bin .lss (.v 11) (.v 10)) .done) K58_14
@[simp] def W58_15:=C.w K58_15.eq_1
def K58_16:C:=.block 0 (.loop 15 [0,1,4,7,8,12,13,14] K58_15)
@[simp] def W58_16:=C.w K58_16.eq_1
def K58_17:C:=.seq (.seq (.pl <| .e 15 1 <|
 .x 15 (.fa 2 (.v 1)) <|
 .l 9 15 <|
 .x 10 (.lenV (.v 9)) <|
 .x 11 (.mv (.c (.int .i64 0))) .done) K58_16) K58_1
@[simp] def W58_17:=C.w K58_17.eq_1
def K58_18:C:=.seq (.pl <| .e 15 0 <|
 .x 6 (.mv (.c (.slice none 0 0))) .done) K58_17
@[simp] def W58_18:=C.w K58_18.eq_1
def K58_19:C:=.pl <| .e 15 0 <|
 .x 5 (.mv (.c (.int .i64 0))) .done
@[simp] def W58_19:=C.w K58_19.eq_1
def K58_20:C:=.cond 15 (.v 25) K58_19 (.skip)
@[simp] def W58_20:=C.w K58_20.eq_1
def K58_21:C:=.seq (.seq (.pl <| .e 15 11 <|
 .a 15 3 <|
 .g 16 15 3 2 <|
 .x 17 (.bin .eql (.v 16) (.c (.int .i64 1))) <|
 .m 18 17 <|
 .y 18 (.px (some 19) (.fa 1 (.v 2))) <|
 .y 18 (.ld (some 20) (.v 19) none) <|
 .y 18 (.als 21 none 3) <|
 .y 18 (.pget (some 22) (some 21) 3 1 none) <|
 .y 18 (.px (some 23) (.ia 1 (.v 20) (.v 22))) <|
 .y 18 (.ld (some 24) (.v 23) none) <|
 .x 25 (.pick (.v 18) (.v 24) (.c (.bool false))) .done) K58_20) K58_18
@[simp] def W58_21:=C.w K58_21.eq_1
def K58_22:C:=.pl <| .e 15 0 <|
 .x 5 (.mv (.c (.int .i64 1))) .done
@[simp] def W58_22:=C.w K58_22.eq_1
def K58_23:C:=.cond 15 (.v 25) K58_22 (.skip)
@[simp] def W58_23:=C.w K58_23.eq_1
def K58_24:C:=.seq (.seq (.pl <| .e 15 11 <|
 .a 15 3 <|
 .g 16 15 3 2 <|
 .x 17 (.bin .eql (.v 16) (.c (.int .i64 0))) <|
 .m 18 17 <|
 .y 18 (.px (some 19) (.fa 1 (.v 1))) <|
 .y 18 (.ld (some 20) (.v 19) none) <|
 .y 18 (.als 21 none 3) <|
 .y 18 (.pget (some 22) (some 21) 3 0 none) <|
 .y 18 (.px (some 23) (.ia 1 (.v 20) (.v 22))) <|
 .y 18 (.ld (some 24) (.v 23) none) <|
 .x 25 (.pick (.v 18) (.v 24) (.c (.bool false))) .done) K58_23) K58_21
@[simp] def W58_24:=C.w K58_24.eq_1
def K58_25:C:=.seq (.pl <| .e 15 2 <|
 .a 15 3 <|
 .g 16 15 3 2 <|
 .m 5 16 .done) K58_24
@[simp] def W58_25:=C.w K58_25.eq_1
def B_impl_IntersectAutomata_1:C:=.seq (.pl <| .e 15 0 <|
 .o (.pnew 3 (.v 0) []) <|
 .x 4 (.mv (.c (.slice none 0 0))) .done) K58_25
@[simp] def WB_impl_IntersectAutomata_1:=C.w B_impl_IntersectAutomata_1.eq_1
def R_impl_IntersectAutomata_1:FIR:=⟨B_impl_IntersectAutomata_1,15,[(4,none)]⟩
theorem IR_impl_IntersectAutomata_1:cfun Tryz.prog H_impl_IntersectAutomata_1 Tryz.f58=some R_impl_IntersectAutomata_1:=by kernel_rfl
theorem EN_impl_IntersectAutomata_1:ENT Tryz.prog B_impl_IntersectAutomata_1 [(4,none)] 3 15 fn_impl_IntersectAutomata_1:=fun hargs hw=>enter Tryz.func58 rfl IR_impl_IntersectAutomata_1 hargs hw
def H_impl_IntersectAutomata_2:Hint:=⟨[(0,false),(1,false),(2,true),(3,false)],[]⟩
def K60_1:C:=.seq (.pl <| .e 4 11 <|
 .a 4 2 <|
 .g 5 4 2 2 <|
 .x 6 (.bin .eql (.v 5) (.c (.int .i64 1))) <|
 .m 7 6 <|
 .y 7 (.px (some 8) (.fa 1 (.v 1))) <|
 .y 7 (.ld (some 9) (.v 8) none) <|
 .y 7 (.als 10 none 2) <|
 .y 7 (.pget (some 11) (some 10) 2 1 none) <|
 .y 7 (.px (some 12) (.ia 1 (.v 9) (.v 11))) <|
 .y 7 (.ld (some 13) (.v 12) none) <|
 .x 14 (.pick (.v 7) (.v 13) (.c (.bool false))) <|
 .m 3 14 .done) (.ret)
@[simp] def W60_1:=C.w K60_1.eq_1
def B_impl_IntersectAutomata_2:C:=.seq (.pl <| .e 4 0 <|
 .o (.pnew 2 (.v 0) []) <|
 .x 3 (.mv (.c (.bool false))) .done) K60_1
@[simp] def WB_impl_IntersectAutomata_2:=C.w B_impl_IntersectAutomata_2.eq_1
def R_impl_IntersectAutomata_2:FIR:=⟨B_impl_IntersectAutomata_2,4,[(3,none)]⟩
theorem IR_impl_IntersectAutomata_2:cfun Tryz.prog H_impl_IntersectAutomata_2 Tryz.f60=some R_impl_IntersectAutomata_2:=by kernel_rfl
theorem EN_impl_IntersectAutomata_2:ENT Tryz.prog B_impl_IntersectAutomata_2 [(3,none)] 2 4 fn_impl_IntersectAutomata_2:=fun hargs hw=>enter Tryz.func60 rfl IR_impl_IntersectAutomata_2 hargs hw
def H_impl_LassoValid:Hint:=⟨[(0,false),(1,true),(2,false)],[]⟩
def K56_1:Pl:=.x 22 (.pick (.v 17) (.v 21) (.c (.bool false))) <|
 .m 2 22 .done
@[simp] def W56_1:=Pl.w K56_1.eq_1
def K56_2:Pl:=.x 10 (.pick (.v 6) (.v 9) (.c (.bool false))) <|
 .m 11 10 <|
 .y 11 (.als 12 none 1) <|
 .y 11 (.pget (some 13) (some 12) 1 0 none) <|
 .y 11 (.px (some 14) (.lenV (.v 13))) <|
 .y 11 (.px (some 15) (.bin .leq (.v 14) (.c (.int .i64 80)))) <|
 .x 16 (.pick (.v 11) (.v 15) (.c (.bool false))) <|
 .m 17 16 <|
 .y 17 (.als 18 none 1) <|
 .y 17 (.pget (some 19) (some 18) 1 1 none) <|
 .y 17 (.px (some 20) (.lenV (.v 19))) <|
 .st (.act (some (.v 17,true)) (.ex (some 21) (.call fn_impl_in [.v 20,.c (.int .i64 1),.c (.int .i64 80)]))) K56_1
@[simp] def W56_2:=Pl.w K56_2.eq_1
def K56_3:Pl:=.m 6 5 <|
 .y 6 (.als 7 none 1) <|
 .y 6 (.pget (some 8) (some 7) 1 1 none) <|
 .st (.act (some (.v 6,true)) (.ex (some 9) (.call fn_impl_letters [.v 8]))) K56_2
@[simp] def W56_3:=Pl.w K56_3.eq_1
def K56_4:C:=.seq (.pl <| .e 3 20 <|
 .a 3 1 <|
 .g 4 3 1 0 <|
 .c 5 (.call fn_impl_letters [.v 4]) K56_3) (.ret)
@[simp] def W56_4:=C.w K56_4.eq_1
def B_impl_LassoValid:C:=.seq (.pl <| .e 3 0 <|
 .o (.pnew 1 (.v 0) []) <|
 .x 2 (.mv (.c (.bool false))) .done) K56_4
@[simp] def WB_impl_LassoValid:=C.w B_impl_LassoValid.eq_1
def R_impl_LassoValid:FIR:=⟨B_impl_LassoValid,3,[(2,none)]⟩
theorem IR_impl_LassoValid:cfun Tryz.prog H_impl_LassoValid Tryz.f56=some R_impl_LassoValid:=by kernel_rfl
theorem EN_impl_LassoValid:ENT Tryz.prog B_impl_LassoValid [(2,none)] 1 3 fn_impl_LassoValid:=fun hargs hw=>enter Tryz.func56 rfl IR_impl_LassoValid hargs hw
def H_impl_Lasso_all:Hint:=⟨[(0,false),(1,true),(2,false)],[]⟩
def K109_1:Pl:=.m 2 8 .done
@[simp] def W109_1:=Pl.w K109_1.eq_1
def K109_2:Pl:=.c 8 (.call fn_slices_Concat_S_int_int [.v 7]) K109_1
@[simp] def W109_2:=Pl.w K109_2.eq_1
def K109_3:C:=.seq (.pl <| .e 3 6 <|
 .a 3 1 <|
 .g 4 3 1 0 <|
 .a 5 1 <|
 .g 6 5 1 1 <|
 .c 7 (.bls 1 2 [.slice none 0 0] [(0,1,.v 4),(1,1,.v 6)]) K109_2) (.ret)
@[simp] def W109_3:=C.w K109_3.eq_1
def B_impl_Lasso_all:C:=.seq (.pl <| .e 3 0 <|
 .o (.pnew 1 (.v 0) []) <|
 .x 2 (.mv (.c (.slice none 0 0))) .done) K109_3
@[simp] def WB_impl_Lasso_all:=C.w B_impl_Lasso_all.eq_1
def R_impl_Lasso_all:FIR:=⟨B_impl_Lasso_all,3,[(2,none)]⟩
theorem IR_impl_Lasso_all:cfun Tryz.prog H_impl_Lasso_all Tryz.f109=some R_impl_Lasso_all:=by kernel_rfl
theorem EN_impl_Lasso_all:ENT Tryz.prog B_impl_Lasso_all [(2,none)] 1 3 fn_impl_Lasso_all:=fun hargs hw=>enter Tryz.func109 rfl IR_impl_Lasso_all hargs hw
def H_impl_Lasso_next:Hint:=⟨[(0,false),(1,false),(2,true),(4,false)],[]⟩
def K111_1:C:=.seq (.pl <| .e 4 2 <|
 .m 4 1 <|
 .x 5 (.bin .add (.v 4) (.c (.int .i64 1))) <|
 .m 3 5 .done) (.ret)
@[simp] def W111_1:=C.w K111_1.eq_1
def K111_2:C:=.seq (.pl <| .e 4 3 <|
 .a 4 2 <|
 .g 5 4 2 0 <|
 .x 6 (.lenV (.v 5)) <|
 .m 3 6 .done) (.ret)
@[simp] def W111_2:=C.w K111_2.eq_1
def K111_3:C:=.cond 4 (.v 13) K111_2 (.skip)
@[simp] def W111_3:=C.w K111_3.eq_1
def K111_4:C:=.seq (.seq (.pl <| .e 4 10 <|
 .m 4 1 <|
 .x 5 (.bin .add (.v 4) (.c (.int .i64 1))) <|
 .a 6 2 <|
 .g 7 6 2 0 <|
 .x 8 (.lenV (.v 7)) <|
 .a 9 2 <|
 .g 10 9 2 1 <|
 .x 11 (.lenV (.v 10)) <|
 .x 12 (.bin .add (.v 8) (.v 11)) <|
 .x 13 (.bin .eql (.v 5) (.v 12)) .done) K111_3) K111_1
@[simp] def W111_4:=C.w K111_4.eq_1
def B_impl_Lasso_next:C:=.seq (.pl <| .e 4 0 <|
 .o (.pnew 2 (.v 0) []) <|
 .x 3 (.mv (.c (.int .i64 0))) .done) K111_4
@[simp] def WB_impl_Lasso_next:=C.w B_impl_Lasso_next.eq_1
def R_impl_Lasso_next:FIR:=⟨B_impl_Lasso_next,4,[(3,none)]⟩
theorem IR_impl_Lasso_next:cfun Tryz.prog H_impl_Lasso_next Tryz.f111=some R_impl_Lasso_next:=by kernel_rfl
theorem EN_impl_Lasso_next:ENT Tryz.prog B_impl_Lasso_next [(3,none)] 2 4 fn_impl_Lasso_next:=fun hargs hw=>enter Tryz.func111 rfl IR_impl_Lasso_next hargs hw
def H_impl_NegateFormula:Hint:=⟨[(0,false),(1,true),(2,true),(3,false)],[]⟩
def K9_1:Pl:=.o (.pset none 2 0 3 (.v 5)) <|
 .x 3 (.mv (.c (.bool true))) .done
@[simp] def W9_1:=Pl.w K9_1.eq_1
def K9_2:C:=.seq (.pl <| .e 4 2 <|
 .o (.pget (some 4) none 1 0 (some 3)) <|
 .c 5 (.call fn_impl_Formula_negation [.v 4]) K9_1) (.ret)
@[simp] def W9_2:=C.w K9_2.eq_1
def K9_3:C:=.seq (.pl <| .e 4 1 <|
 .x 4 (.build [.int .i64 0,.int .i64 0,.slice none 0 0] []) <|
 .o (.pset none 2 0 3 (.v 4)) <|
 .x 3 (.mv (.c (.bool false))) .done) (.ret)
@[simp] def W9_3:=C.w K9_3.eq_1
def K9_4:C:=.cond 4 (.v 12) K9_3 (.skip)
@[simp] def W9_4:=C.w K9_4.eq_1
def K9_5:Pl:=.n 7 (.px (some 11) (.un .not (.v 10))) <|
 .x 12 (.pick (.v 7) (.c (.bool true)) (.v 11)) .done
@[simp] def W9_5:=Pl.w K9_5.eq_1
def K9_6:Pl:=.st (.act (some (.v 7,false)) (.ex (some 10) (.call fn_impl_FormulaValid [.v 9]))) K9_5
@[simp] def W9_6:=Pl.w K9_6.eq_1
def K9_7:Pl:=.x 6 (.un .not (.v 5)) <|
 .m 7 6 <|
 .n 7 (.pget (some 8) none 1 0 (some 3)) <|
 .st (.act (some (.v 7,false)) (.ex (some 9) (.call fn_impl_Formula_negation [.v 8]))) K9_6
@[simp] def W9_7:=Pl.w K9_7.eq_1
def K9_8:C:=.seq (.seq (.pl <| .e 4 9 <|
 .o (.pget (some 4) none 1 0 (some 3)) <|
 .c 5 (.call fn_impl_FormulaValid [.v 4]) K9_7) K9_4) K9_2
@[simp] def W9_8:=C.w K9_8.eq_1
def B_impl_NegateFormula:C:=.seq (.pl <| .e 4 0 <|
 .o (.pnew 1 (.v 0) []) <|
 .o (.pnew 2 (.c (.agg #[.int .i64 0,.int .i64 0,.slice none 0 0])) []) <|
 .x 3 (.mv (.c (.bool false))) .done) K9_8
@[simp] def WB_impl_NegateFormula:=C.w B_impl_NegateFormula.eq_1
def R_impl_NegateFormula:FIR:=⟨B_impl_NegateFormula,4,[(2,some (some 3)),(3,none)]⟩
theorem IR_impl_NegateFormula:cfun Tryz.prog H_impl_NegateFormula Tryz.f9=some R_impl_NegateFormula:=by kernel_rfl
theorem EN_impl_NegateFormula:ENT Tryz.prog B_impl_NegateFormula [(2,some (some 3)),(3,none)] 1 4 fn_impl_NegateFormula:=fun hargs hw=>enter Tryz.func9 rfl IR_impl_NegateFormula hargs hw
def H_impl_around:Hint:=⟨[(0,false),(1,false),(2,false),(3,false),(4,false)],[]⟩
def K118_1:Pl:=.m 4 9 .done
@[simp] def W118_1:=Pl.w K118_1.eq_1
def K118_2:Pl:=.x 8 (.mkf (.func fn_impl_around_1) [] [.v 3,.v 2]) <|
 .c 9 (.call fn_impl_shortest [.v 5,.v 7,.v 8]) K118_1
@[simp] def W118_2:=Pl.w K118_2.eq_1
def K118_3:C:=.seq (.pl <| .e 5 5 <|
 .l 5 2 <|
 .l 6 3 <|
 .c 7 (.bls 1 1 [.int .i64 0] [(0,1,.v 6)]) K118_2) (.ret)
@[simp] def W118_3:=C.w K118_3.eq_1
def K118_4:Pl:=.m 4 6 .done
@[simp] def W118_4:=Pl.w K118_4.eq_1
def K118_5:C:=.seq (.pl <| .e 5 2 <|
 .l 5 3 <|
 .c 6 (.bls 1 1 [.int .i64 0] [(0,1,.v 5)]) K118_4) (.ret)
@[simp] def W118_5:=C.w K118_5.eq_1
def K118_6:C:=.cond 5 (.v 10) K118_5 (.skip)
@[simp] def W118_6:=C.w K118_6.eq_1
def K118_7:C:=.seq (.seq (.pl <| .e 5 6 <|
 .l 5 2 <|
 .l 6 3 <|
 .x 7 (.ia 1 (.v 5) (.v 6)) <|
 .l 8 7 <|
 .l 9 3 <|
 .c 10 (.call fn_slices_Contains_S_int_int [.v 8,.v 9]) .done) K118_6) K118_3
@[simp] def W118_7:=C.w K118_7.eq_1
def K118_8:Pl:=.x 4 (.mv (.c (.slice none 0 0))) .done
@[simp] def W118_8:=Pl.w K118_8.eq_1
def K118_9:Pl:=.c 3 (.alloc (.v 1)) K118_8
@[simp] def W118_9:=Pl.w K118_9.eq_1
def B_impl_around:C:=.seq (.pl <| .e 5 0 <|
 .c 2 (.alloc (.v 0)) K118_9) K118_7
@[simp] def WB_impl_around:=C.w B_impl_around.eq_1
def R_impl_around:FIR:=⟨B_impl_around,5,[(4,none)]⟩
theorem IR_impl_around:cfun Tryz.prog H_impl_around Tryz.f118=some R_impl_around:=by kernel_rfl
theorem EN_impl_around:ENT Tryz.prog B_impl_around [(4,none)] 2 5 fn_impl_around:=fun hargs hw=>enter Tryz.func118 rfl IR_impl_around hargs hw
def H_impl_around_1:Hint:=⟨[(0,false),(1,false),(2,false),(4,false)],[]⟩
def K160_1:Pl:=.x 14 (.pick (.v 7) (.v 13) (.c (.bool false))) <|
 .m 3 14 .done
@[simp] def W160_1:=Pl.w K160_1.eq_1
def K160_2:C:=.seq (.pl <| .e 4 11 <|
 .m 4 0 <|
 .l 5 1 <|
 .x 6 (.bin .neq (.v 4) (.v 5)) <|
 .m 7 6 <|
 .y 7 (.ld (some 8) (.v 2) none) <|
 .y 7 (.px (some 9) (.mv (.v 0))) <|
 .y 7 (.px (some 10) (.ia 1 (.v 8) (.v 9))) <|
 .y 7 (.ld (some 11) (.v 10) none) <|
 .y 7 (.ld (some 12) (.v 1) none) <|
 .st (.act (some (.v 7,true)) (.ex (some 13) (.call fn_slices_Contains_S_int_int [.v 11,.v 12]))) K160_1) (.ret)
@[simp] def W160_2:=C.w K160_2.eq_1
def B_impl_around_1:C:=.seq (.pl <| .e 4 0 <|
 .x 3 (.mv (.c (.bool false))) .done) K160_2
@[simp] def WB_impl_around_1:=C.w B_impl_around_1.eq_1
def R_impl_around_1:FIR:=⟨B_impl_around_1,4,[(3,none)]⟩
theorem IR_impl_around_1:cfun Tryz.prog H_impl_around_1 Tryz.f160=some R_impl_around_1:=by kernel_rfl
theorem EN_impl_around_1:ENT Tryz.prog B_impl_around_1 [(3,none)] 3 4 fn_impl_around_1:=fun hargs hw=>enter Tryz.func160 rfl IR_impl_around_1 hargs hw
def H_impl_explore_impl_triple:Hint:=⟨[(0,false),(1,false),(2,false),(6,true),(7,false),(8,true),(9,false),(10,false),(11,false),(13,true),(14,false),(16,true),(24,false),(25,false),(26,false),(70,false),(71,false),(72,false)],[[0,4,6,9,10,11,15,16,17],[0,4,6,9,11,12,13,14,15,16,17],[0,4,6,9,11,12,13,14]]⟩
def K59_1:Pl:=.o (.pset none 3 0 3 (.v 19)) <|
 .x 4 (.mv (.c (.bool true))) .done
@[simp] def W59_1:=Pl.w K59_1.eq_1
def K59_2:C:=.seq (.pl <| .e 18 2 <|
 .o (.pget (some 18) none 5 0 (some 3)) <|
 .c 19 (.call fn_impl_Automaton_copyOf [.v 18]) K59_1) (.ret)
@[simp] def W59_2:=C.w K59_2.eq_1
def K59_3:C:=.seq (.pl <| .e 18 1 <|
 .x 18 (.build [.slice none 0 0,.slice none 0 0,.slice none 0 0] []) <|
 .o (.pset none 3 0 3 (.v 18)) <|
 .x 4 (.mv (.c (.bool false))) .done) (.ret)
@[simp] def W59_3:=C.w K59_3.eq_1
def K59_4:C:=.cond 18 (.v 20) K59_3 (.skip)
@[simp] def W59_4:=C.w K59_4.eq_1
def K59_5:Pl:=.x 20 (.un .not (.v 19)) .done
@[simp] def W59_5:=Pl.w K59_5.eq_1
def K59_6:C:=.seq (.seq (.pl <| .e 18 3 <|
 .o (.pget (some 18) none 5 0 (some 3)) <|
 .c 19 (.call fn_impl_AutomatonValid [.v 18]) K59_5) K59_4) K59_2
@[simp] def W59_6:=C.w K59_6.eq_1
def K59_7:C:=.pl <| .e 18 2 <|
 .m 18 10 <|
 .x 19 (.bin .add (.v 18) (.c (.int .i64 1))) <|
 .m 10 19 .done
@[simp] def W59_7:=C.w K59_7.eq_1
def K59_8:C:=.pl <| .e 18 1 <|
 .x 18 (.bin .add (.v 17) (.c (.int .i64 1))) <|
 .m 17 18 .done
@[simp] def W59_8:=C.w K59_8.eq_1
def K59_9:Pl:=.a 32 5 <|
 .o (.pset (some 32) 5 2 1 (.v 31)) .done
@[simp] def W59_9:=Pl.w K59_9.eq_1
def K59_10:Pl:=.x 29 (.build [.int .i64 0,.int .i64 0,.int .i64 0,.int .i64 0] [(0,1,.v 20),(1,1,.v 22),(2,1,.v 24),(3,1,.v 28)]) <|
 .o (.psl 30 [.int .i64 0,.int .i64 0,.int .i64 0,.int .i64 0] [(0,4,.v 29)]) <|
 .c 31 (.app 32 4 [.int .i64 0,.int .i64 0,.int .i64 0,.int .i64 0] (.o (.v 19)) (.p 1 30)) K59_9
@[simp] def W59_10:=Pl.w K59_10.eq_1
def K59_11:C:=.pl <| .e 18 15 <|
 .a 18 5 <|
 .g 19 18 5 2 <|
 .m 20 10 <|
 .a 21 11 <|
 .g 22 21 11 0 <|
 .a 23 11 <|
 .g 24 23 11 1 <|
 .m 25 8 <|
 .a 26 11 <|
 .o (.pget (some 27) (some 26) 11 2 (some 3)) <|
 .c 28 (.callv (.v 25) [.v 27]) K59_10
@[simp] def W59_11:=C.w K59_11.eq_1
def K59_12:C:=.seq (.block 5 (.seq (.pl <| .e 18 2 <|
 .x 18 (.ia 5 (.v 15) (.v 17)) <|
 .o (.ld (some 19) (.v 18) (some 5)) <|
 .o (.pnew 11 (.c (.agg #[.int .i64 0,.int .i64 0,.int .i64 0,.int .i64 0,.int .i64 0])) []) <|
 .o (.pset none 11 0 5 (.v 19)) .done) K59_11)) K59_8
@[simp] def W59_12:=C.w K59_12.eq_1
def K59_13:C:=.seq (.cond 18 (.v 18) (.skip) (.exit 4)) K59_12
@[simp] def W59_13:=C.w K59_13.eq_1
def K59_14:C:=.seq (.pl <| .e 18 1 <|
 .x 18 (.bin .lss (.v 17) (.v 16)) .done) K59_13
@[simp] def W59_14:=C.w K59_14.eq_1
def K59_15:C:=.block 4 (.loop 18 [0,4,6,9,11,12,13,14] K59_14)
@[simp] def W59_15:=C.w K59_15.eq_1
def K59_16:Pl:=.x 16 (.lenV (.v 15)) <|
 .x 17 (.mv (.c (.int .i64 0))) .done
@[simp] def W59_16:=Pl.w K59_16.eq_1
def K59_17:C:=.seq (.pl <| .e 18 5 <|
 .m 18 2 <|
 .l 19 7 <|
 .m 20 10 <|
 .x 21 (.ia 3 (.v 19) (.v 20)) <|
 .o (.ld (some 22) (.v 21) (some 3)) <|
 .c 15 (.callv (.v 18) [.v 22]) K59_16) K59_15
@[simp] def W59_17:=C.w K59_17.eq_1
def K59_18:Pl:=.a 28 5 <|
 .o (.pset (some 28) 5 1 1 (.v 27)) .done
@[simp] def W59_18:=Pl.w K59_18.eq_1
def K59_19:Pl:=.o (.psl 26 [.bool false] [(0,1,.v 25)]) <|
 .c 27 (.app 1 1 [.bool false] (.o (.v 19)) (.p 1 26)) K59_18
@[simp] def W59_19:=Pl.w K59_19.eq_1
def K59_20:C:=.seq (.pl <| .e 18 11 <|
 .a 18 5 <|
 .g 19 18 5 1 <|
 .m 20 1 <|
 .l 21 7 <|
 .m 22 10 <|
 .x 23 (.ia 3 (.v 21) (.v 22)) <|
 .o (.ld (some 24) (.v 23) (some 3)) <|
 .c 25 (.callv (.v 20) [.v 24]) K59_19) K59_17
@[simp] def W59_20:=C.w K59_20.eq_1
def K59_21:C:=.seq (.pl <| .e 18 1 <|
 .x 18 (.build [.slice none 0 0,.slice none 0 0,.slice none 0 0] []) <|
 .o (.pset none 3 0 3 (.v 18)) <|
 .x 4 (.mv (.c (.bool false))) .done) (.ret)
@[simp] def W59_21:=C.w K59_21.eq_1
def K59_22:C:=.cond 18 (.v 25) K59_21 (.skip)
@[simp] def W59_22:=C.w K59_22.eq_1
def K59_23:C:=.seq (.block 3 (.seq (.seq (.pl <| .e 18 8 <|
 .m 18 10 <|
 .x 19 (.bin .eql (.v 18) (.c (.int .i64 64))) <|
 .m 20 19 <|
 .n 20 (.als 21 none 5) <|
 .n 20 (.pget (some 22) (some 21) 5 2 none) <|
 .n 20 (.px (some 23) (.lenV (.v 22))) <|
 .n 20 (.px (some 24) (.bin .gtr (.v 23) (.c (.int .i64 2048)))) <|
 .x 25 (.pick (.v 20) (.c (.bool true)) (.v 24)) .done) K59_22) K59_20)) K59_7
@[simp] def W59_23:=C.w K59_23.eq_1
def K59_24:C:=.cond 18 (.v 21) (.skip) (.exit 2)
@[simp] def W59_24:=C.w K59_24.eq_1
def K59_25:C:=.seq (.seq (.pl <| .e 18 4 <|
 .m 18 10 <|
 .l 19 7 <|
 .x 20 (.lenV (.v 19)) <|
 .x 21 (.bin .lss (.v 18) (.v 20)) .done) K59_24) K59_23
@[simp] def W59_25:=C.w K59_25.eq_1
def K59_26:C:=.block 2 (.loop 18 [0,4,6,9,11,12,13,14,15,16,17] K59_25)
@[simp] def W59_26:=C.w K59_26.eq_1
def K59_27:C:=.seq (.seq (.pl <| .e 18 0 <|
 .x 10 (.mv (.c (.int .i64 0))) .done) K59_26) K59_6
@[simp] def W59_27:=C.w K59_27.eq_1
def K59_28:C:=.pl <| .e 18 1 <|
 .x 18 (.bin .add (.v 14) (.c (.int .i64 1))) <|
 .m 14 18 .done
@[simp] def W59_28:=C.w K59_28.eq_1
def K59_29:Pl:=.a 25 5 <|
 .o (.pset (some 25) 5 0 1 (.v 24)) .done
@[simp] def W59_29:=Pl.w K59_29.eq_1
def K59_30:Pl:=.o (.psl 23 [.int .i64 0] [(0,1,.v 22)]) <|
 .c 24 (.app 8 1 [.int .i64 0] (.o (.v 19)) (.p 1 23)) K59_29
@[simp] def W59_30:=Pl.w K59_30.eq_1
def K59_31:C:=.pl <| .e 18 8 <|
 .a 18 5 <|
 .g 19 18 5 0 <|
 .m 20 8 <|
 .o (.pget (some 21) none 9 0 (some 3)) <|
 .c 22 (.callv (.v 20) [.v 21]) K59_30
@[simp] def W59_31:=C.w K59_31.eq_1
def K59_32:C:=.seq (.block 1 (.seq (.pl <| .e 18 2 <|
 .x 18 (.ia 3 (.v 12) (.v 14)) <|
 .o (.ld (some 19) (.v 18) (some 3)) <|
 .o (.pnew 9 (.c (.agg #[.int .i64 0,.int .i64 0,.int .i64 0])) []) <|
 .o (.pset none 9 0 3 (.v 19)) .done) K59_31)) K59_28
@[simp] def W59_32:=C.w K59_32.eq_1
def K59_33:C:=.seq (.cond 18 (.v 18) (.skip) (.exit 0)) K59_32
@[simp] def W59_33:=C.w K59_33.eq_1
def K59_34:C:=.seq (.pl <| .e 18 1 <|
 .x 18 (.bin .lss (.v 14) (.v 13)) .done) K59_33
@[simp] def W59_34:=C.w K59_34.eq_1
def K59_35:C:=.block 0 (.loop 18 [0,4,6,9,10,11,15,16,17] K59_34)
@[simp] def W59_35:=C.w K59_35.eq_1
def K59_36:C:=.seq (.seq (.pl <| .e 18 0 <|
 .m 12 0 <|
 .x 13 (.lenV (.v 12)) <|
 .x 14 (.mv (.c (.int .i64 0))) .done) K59_35) K59_27
@[simp] def W59_36:=C.w K59_36.eq_1
def K59_37:C:=.seq (.pl <| .e 18 1 <|
 .x 18 (.mkf (.func fn_impl_explore_impl_triple_1) [] [.v 6,.v 7]) <|
 .m 8 18 .done) K59_36
@[simp] def W59_37:=C.w K59_37.eq_1
def K59_38:C:=.seq (.pl <| .e 18 0 <|
 .c 7 (.alloc (.c (.slice none 0 0))) .done) K59_37
@[simp] def W59_38:=C.w K59_38.eq_1
def K59_39:Pl:=.o (.ex none (.store 1 (.v 6) (.v 18))) .done
@[simp] def W59_39:=Pl.w K59_39.eq_1
def K59_40:Pl:=.c 6 (.alloc (.c (.map none))) K59_39
@[simp] def W59_40:=Pl.w K59_40.eq_1
def K59_41:C:=.seq (.pl <| .e 18 1 <|
 .c 18 (.mkm) K59_40) K59_38
@[simp] def W59_41:=C.w K59_41.eq_1
def K59_42:C:=.seq (.pl <| .e 18 0 <|
 .o (.pnew 5 (.c (.agg #[.slice none 0 0,.slice none 0 0,.slice none 0 0])) []) .done) K59_41
@[simp] def W59_42:=C.w K59_42.eq_1
def K59_43:Pl:=.x 19 (.build [.slice none 0 0,.slice none 0 0,.slice none 0 0] [(1,1,.v 18)]) <|
 .o (.pset none 3 0 3 (.v 19)) <|
 .x 4 (.mv (.c (.bool true))) .done
@[simp] def W59_43:=Pl.w K59_43.eq_1
def K59_44:C:=.seq (.pl <| .e 18 2 <|
 .c 18 (.mks 1 1 [.bool false] (.c (.int .i64 1)) (.c (.int .i64 1))) K59_43) (.ret)
@[simp] def W59_44:=C.w K59_44.eq_1
def K59_45:C:=.cond 18 (.v 20) K59_44 (.skip)
@[simp] def W59_45:=C.w K59_45.eq_1
def K59_46:C:=.seq (.seq (.pl <| .e 18 3 <|
 .m 18 0 <|
 .x 19 (.lenV (.v 18)) <|
 .x 20 (.bin .eql (.v 19) (.c (.int .i64 0))) .done) K59_45) K59_42
@[simp] def W59_46:=C.w K59_46.eq_1
def B_impl_explore_impl_triple:C:=.seq (.pl <| .e 18 0 <|
 .o (.pnew 3 (.c (.agg #[.slice none 0 0,.slice none 0 0,.slice none 0 0])) []) <|
 .x 4 (.mv (.c (.bool false))) .done) K59_46
@[simp] def WB_impl_explore_impl_triple:=C.w B_impl_explore_impl_triple.eq_1
def R_impl_explore_impl_triple:FIR:=⟨B_impl_explore_impl_triple,18,[(3,some (some 3)),(4,none)]⟩
theorem IR_impl_explore_impl_triple:cfun Tryz.prog H_impl_explore_impl_triple Tryz.f59=some R_impl_explore_impl_triple:=by kernel_rfl
theorem EN_impl_explore_impl_triple:ENT Tryz.prog B_impl_explore_impl_triple [(3,some (some 3)),(4,none)] 3 18 fn_impl_explore_impl_triple:=fun hargs hw=>enter Tryz.func59 rfl IR_impl_explore_impl_triple hargs hw
def H_impl_explore_impl_triple_1:Hint:=⟨[(0,false),(1,false),(2,false),(3,true),(4,false),(5,false),(6,false)],[]⟩
def K114_1:C:=.seq (.pl <| .e 7 1 <|
 .m 7 5 <|
 .m 4 7 .done) (.ret)
@[simp] def W114_1:=C.w K114_1.eq_1
def K114_2:Pl:=.o (.ex none (.store 1 (.v 2) (.v 10))) .done
@[simp] def W114_2:=Pl.w K114_2.eq_1
def K114_3:C:=.pl <| .e 7 4 <|
 .l 7 2 <|
 .o (.pget (some 8) none 3 0 (some 3)) <|
 .o (.psl 9 [.int .i64 0,.int .i64 0,.int .i64 0] [(0,3,.v 8)]) <|
 .c 10 (.app 24 3 [.int .i64 0,.int .i64 0,.int .i64 0] (.o (.v 7)) (.p 1 9)) K114_2
@[simp] def W114_3:=C.w K114_3.eq_1
def K114_4:C:=.seq (.pl <| .e 7 3 <|
 .l 7 1 <|
 .o (.pget (some 8) none 3 0 (some 3)) <|
 .m 9 5 <|
 .o (.ex none (.mput (.many [.i,.i,.i]) (.v 7) (.v 8) (.v 9))) .done) K114_3
@[simp] def W114_4:=C.w K114_4.eq_1
def K114_5:C:=.seq (.pl <| .e 7 2 <|
 .l 7 2 <|
 .x 8 (.lenV (.v 7)) <|
 .m 5 8 .done) K114_4
@[simp] def W114_5:=C.w K114_5.eq_1
def K114_6:C:=.cond 7 (.v 8) K114_5 (.skip)
@[simp] def W114_6:=C.w K114_6.eq_1
def K114_7:C:=.seq (.seq (.pl <| .e 7 2 <|
 .m 7 6 <|
 .x 8 (.un .not (.v 7)) .done) K114_6) K114_1
@[simp] def W114_7:=C.w K114_7.eq_1
def K114_8:Pl:=.m 10 9 <|
 .x 11 (.extract 0 (.v 10)) <|
 .x 12 (.extract 1 (.v 10)) <|
 .m 5 11 <|
 .m 6 12 .done
@[simp] def W114_8:=Pl.w K114_8.eq_1
def K114_9:C:=.seq (.pl <| .e 7 6 <|
 .l 7 1 <|
 .o (.pget (some 8) none 3 0 (some 3)) <|
 .c 9 (.mget (.many [.i,.i,.i]) (.int .i64 0) true (.v 7) (.v 8)) K114_8) K114_7
@[simp] def W114_9:=C.w K114_9.eq_1
def B_impl_explore_impl_triple_1:C:=.seq (.pl <| .e 7 0 <|
 .o (.pnew 3 (.v 0) []) <|
 .x 4 (.mv (.c (.int .i64 0))) .done) K114_9
@[simp] def WB_impl_explore_impl_triple_1:=C.w B_impl_explore_impl_triple_1.eq_1
def R_impl_explore_impl_triple_1:FIR:=⟨B_impl_explore_impl_triple_1,7,[(4,none)]⟩
theorem IR_impl_explore_impl_triple_1:cfun Tryz.prog H_impl_explore_impl_triple_1 Tryz.f114=some R_impl_explore_impl_triple_1:=by kernel_rfl
theorem EN_impl_explore_impl_triple_1:ENT Tryz.prog B_impl_explore_impl_triple_1 [(4,none)] 3 7 fn_impl_explore_impl_triple_1:=fun hargs hw=>enter Tryz.func114 rfl IR_impl_explore_impl_triple_1 hargs hw
def H_impl_lasso:Hint:=⟨[(0,false),(1,false),(2,false),(6,false),(7,false),(8,false),(9,false),(11,false),(12,false),(17,false),(18,false),(19,false)],[[3,4,5,7,8]]⟩
def K61_1:C:=.seq (.pl <| .e 12 0 <|
 .x 3 (.mv (.c (.slice none 0 0))) <|
 .x 4 (.mv (.c (.slice none 0 0))) <|
 .x 5 (.mv (.c (.bool false))) .done) (.ret)
@[simp] def W61_1:=C.w K61_1.eq_1
def K61_2:C:=.pl <| .e 12 1 <|
 .x 12 (.bin .add (.v 11) (.c (.int .i64 1))) <|
 .m 11 12 .done
@[simp] def W61_2:=C.w K61_2.eq_1
def K61_3:Pl:=.m 3 16 <|
 .m 4 19 <|
 .x 5 (.mv (.c (.bool true))) .done
@[simp] def W61_3:=Pl.w K61_3.eq_1
def K61_4:C:=.seq (.pl <| .e 12 8 <|
 .m 12 8 <|
 .m 13 8 <|
 .x 14 (.lenV (.v 13)) <|
 .x 15 (.bin .sub (.v 14) (.c (.int .i64 1))) <|
 .x 16 (.sliceV 1 (.v 12) none (some (.v 15)) none) <|
 .m 17 0 <|
 .l 18 7 <|
 .c 19 (.call fn_impl_around [.v 17,.v 18]) K61_3) (.ret)
@[simp] def W61_4:=C.w K61_4.eq_1
def K61_5:Pl:=.m 8 15 .done
@[simp] def W61_5:=Pl.w K61_5.eq_1
def K61_6:C:=.seq (.pl <| .e 12 4 <|
 .m 12 0 <|
 .m 13 1 <|
 .x 14 (.mkf (.func fn_impl_lasso_1) [] [.v 7]) <|
 .c 15 (.call fn_impl_shortest [.v 12,.v 13,.v 14]) K61_5) K61_4
@[simp] def W61_6:=C.w K61_6.eq_1
def K61_7:C:=.cond 12 (.v 20) K61_6 (.skip)
@[simp] def W61_7:=C.w K61_7.eq_1
def K61_8:Pl:=.m 15 14 <|
 .y 15 (.px (some 16) (.mv (.v 6))) <|
 .y 15 (.ld (some 17) (.v 7) none) <|
 .y 15 (.px (some 18) (.ia 1 (.v 16) (.v 17))) <|
 .y 15 (.ld (some 19) (.v 18) none) <|
 .x 20 (.pick (.v 15) (.v 19) (.c (.bool false))) .done
@[simp] def W61_8:=Pl.w K61_8.eq_1
def K61_9:C:=.seq (.pl <| .e 12 9 <|
 .m 12 2 <|
 .l 13 7 <|
 .c 14 (.callv (.v 12) [.v 13]) K61_8) K61_7
@[simp] def W61_9:=C.w K61_9.eq_1
def K61_10:Pl:=.o (.ex none (.store 1 (.v 7) (.v 13))) .done
@[simp] def W61_10:=Pl.w K61_10.eq_1
def K61_11:C:=.seq (.block 1 (.seq (.pl <| .e 12 2 <|
 .x 12 (.ia 1 (.v 9) (.v 11)) <|
 .l 13 12 <|
 .c 7 (.alloc (.c (.int .i64 0))) K61_10) K61_9)) K61_2
@[simp] def W61_11:=C.w K61_11.eq_1
def K61_12:C:=.seq (.cond 12 (.v 12) (.skip) (.exit 0)) K61_11
@[simp] def W61_12:=C.w K61_12.eq_1
def K61_13:C:=.seq (.pl <| .e 12 1 <|
 .x 12 (.bin .lss (.v 11) (.v 10)) .done) K61_12
@[simp] def W61_13:=C.w K61_13.eq_1
def K61_14:C:=.block 0 (.loop 12 [3,4,5,7,8] K61_13)
@[simp] def W61_14:=C.w K61_14.eq_1
def K61_15:Pl:=.x 10 (.lenV (.v 9)) <|
 .x 11 (.mv (.c (.int .i64 0))) .done
@[simp] def W61_15:=Pl.w K61_15.eq_1
def K61_16:C:=.seq (.seq (.pl <| .e 12 2 <|
 .m 12 0 <|
 .m 13 1 <|
 .c 9 (.call fn_impl_order [.v 12,.v 13]) K61_15) K61_14) K61_1
@[simp] def W61_16:=C.w K61_16.eq_1
def K61_17:Pl:=.m 6 13 .done
@[simp] def W61_17:=Pl.w K61_17.eq_1
def K61_18:C:=.seq (.pl <| .e 12 2 <|
 .m 12 0 <|
 .c 13 (.call fn_impl_cyclic [.v 12]) K61_17) K61_16
@[simp] def W61_18:=C.w K61_18.eq_1
def B_impl_lasso:C:=.seq (.pl <| .e 12 0 <|
 .x 3 (.mv (.c (.slice none 0 0))) <|
 .x 4 (.mv (.c (.slice none 0 0))) <|
 .x 5 (.mv (.c (.bool false))) .done) K61_18
@[simp] def WB_impl_lasso:=C.w B_impl_lasso.eq_1
def R_impl_lasso:FIR:=⟨B_impl_lasso,12,[(3,none),(4,none),(5,none)]⟩
theorem IR_impl_lasso:cfun Tryz.prog H_impl_lasso Tryz.f61=some R_impl_lasso:=by kernel_rfl
theorem EN_impl_lasso:ENT Tryz.prog B_impl_lasso [(3,none),(4,none),(5,none)] 3 12 fn_impl_lasso:=fun hargs hw=>enter Tryz.func61 rfl IR_impl_lasso hargs hw
def H_impl_lasso_1:Hint:=⟨[(0,false),(1,false),(3,false)],[]⟩
def K117_1:C:=.seq (.pl <| .e 3 3 <|
 .m 3 0 <|
 .l 4 1 <|
 .x 5 (.bin .eql (.v 3) (.v 4)) <|
 .m 2 5 .done) (.ret)
@[simp] def W117_1:=C.w K117_1.eq_1
def B_impl_lasso_1:C:=.seq (.pl <| .e 3 0 <|
 .x 2 (.mv (.c (.bool false))) .done) K117_1
@[simp] def WB_impl_lasso_1:=C.w B_impl_lasso_1.eq_1
def R_impl_lasso_1:FIR:=⟨B_impl_lasso_1,3,[(2,none)]⟩
theorem IR_impl_lasso_1:cfun Tryz.prog H_impl_lasso_1 Tryz.f117=some R_impl_lasso_1:=by kernel_rfl
theorem EN_impl_lasso_1:ENT Tryz.prog B_impl_lasso_1 [(2,none)] 2 3 fn_impl_lasso_1:=fun hargs hw=>enter Tryz.func117 rfl IR_impl_lasso_1 hargs hw
def H_impl_order:Hint:=⟨[(0,false),(1,false),(4,false),(5,false),(6,false),(7,false),(9,false),(10,false),(12,false),(17,false),(18,false),(19,false),(39,false),(40,false),(41,false)],[[1,2,3,6,7,8,12,13,14],[1,2,3,6,8,9,10,11,12,13,14],[1,2,3,6,8,9,10,11]]⟩
def K115_1:C:=.seq (.pl <| .e 15 1 <|
 .l 15 4 <|
 .m 2 15 .done) (.ret)
@[simp] def W115_1:=C.w K115_1.eq_1
def K115_2:C:=.pl <| .e 15 2 <|
 .m 15 7 <|
 .x 16 (.bin .add (.v 15) (.c (.int .i64 1))) <|
 .m 7 16 .done
@[simp] def W115_2:=C.w K115_2.eq_1
def K115_3:C:=.pl <| .e 15 1 <|
 .x 15 (.bin .add (.v 14) (.c (.int .i64 1))) <|
 .m 14 15 .done
@[simp] def W115_3:=C.w K115_3.eq_1
def K115_4:C:=.pl <| .e 15 3 <|
 .m 15 5 <|
 .m 16 8 <|
 .c 17 (.callv (.v 15) [.v 16]) .done
@[simp] def W115_4:=C.w K115_4.eq_1
def K115_5:C:=.seq (.block 5 (.seq (.pl <| .e 15 2 <|
 .x 15 (.ia 1 (.v 12) (.v 14)) <|
 .l 16 15 <|
 .m 8 16 .done) K115_4)) K115_3
@[simp] def W115_5:=C.w K115_5.eq_1
def K115_6:C:=.seq (.cond 15 (.v 15) (.skip) (.exit 4)) K115_5
@[simp] def W115_6:=C.w K115_6.eq_1
def K115_7:C:=.seq (.pl <| .e 15 1 <|
 .x 15 (.bin .lss (.v 14) (.v 13)) .done) K115_6
@[simp] def W115_7:=C.w K115_7.eq_1
def K115_8:C:=.block 4 (.loop 15 [1,2,3,6,8,9,10,11] K115_7)
@[simp] def W115_8:=C.w K115_8.eq_1
def K115_9:C:=.seq (.block 3 (.seq (.pl <| .e 15 6 <|
 .m 15 0 <|
 .l 16 4 <|
 .m 17 7 <|
 .x 18 (.ia 1 (.v 16) (.v 17)) <|
 .l 19 18 <|
 .x 20 (.ia 1 (.v 15) (.v 19)) <|
 .l 12 20 <|
 .x 13 (.lenV (.v 12)) <|
 .x 14 (.mv (.c (.int .i64 0))) .done) K115_8)) K115_2
@[simp] def W115_9:=C.w K115_9.eq_1
def K115_10:C:=.cond 15 (.v 18) (.skip) (.exit 2)
@[simp] def W115_10:=C.w K115_10.eq_1
def K115_11:C:=.seq (.seq (.pl <| .e 15 4 <|
 .m 15 7 <|
 .l 16 4 <|
 .x 17 (.lenV (.v 16)) <|
 .x 18 (.bin .lss (.v 15) (.v 17)) .done) K115_10) K115_9
@[simp] def W115_11:=C.w K115_11.eq_1
def K115_12:C:=.block 2 (.loop 15 [1,2,3,6,8,9,10,11,12,13,14] K115_11)
@[simp] def W115_12:=C.w K115_12.eq_1
def K115_13:C:=.seq (.seq (.pl <| .e 15 0 <|
 .x 7 (.mv (.c (.int .i64 0))) .done) K115_12) K115_1
@[simp] def W115_13:=C.w K115_13.eq_1
def K115_14:C:=.pl <| .e 15 1 <|
 .x 15 (.bin .add (.v 11) (.c (.int .i64 1))) <|
 .m 11 15 .done
@[simp] def W115_14:=C.w K115_14.eq_1
def K115_15:C:=.pl <| .e 15 3 <|
 .m 15 5 <|
 .m 16 6 <|
 .c 17 (.callv (.v 15) [.v 16]) .done
@[simp] def W115_15:=C.w K115_15.eq_1
def K115_16:C:=.seq (.block 1 (.seq (.pl <| .e 15 2 <|
 .x 15 (.ia 1 (.v 9) (.v 11)) <|
 .l 16 15 <|
 .m 6 16 .done) K115_15)) K115_14
@[simp] def W115_16:=C.w K115_16.eq_1
def K115_17:C:=.seq (.cond 15 (.v 15) (.skip) (.exit 0)) K115_16
@[simp] def W115_17:=C.w K115_17.eq_1
def K115_18:C:=.seq (.pl <| .e 15 1 <|
 .x 15 (.bin .lss (.v 11) (.v 10)) .done) K115_17
@[simp] def W115_18:=C.w K115_18.eq_1
def K115_19:C:=.block 0 (.loop 15 [1,2,3,6,7,8,12,13,14] K115_18)
@[simp] def W115_19:=C.w K115_19.eq_1
def K115_20:C:=.seq (.seq (.pl <| .e 15 0 <|
 .m 9 1 <|
 .x 10 (.lenV (.v 9)) <|
 .x 11 (.mv (.c (.int .i64 0))) .done) K115_19) K115_13
@[simp] def W115_20:=C.w K115_20.eq_1
def K115_21:C:=.seq (.pl <| .e 15 1 <|
 .x 15 (.mkf (.func fn_impl_order_1) [] [.v 3,.v 4]) <|
 .m 5 15 .done) K115_20
@[simp] def W115_21:=C.w K115_21.eq_1
def K115_22:C:=.seq (.pl <| .e 15 0 <|
 .c 4 (.alloc (.c (.slice none 0 0))) .done) K115_21
@[simp] def W115_22:=C.w K115_22.eq_1
def K115_23:Pl:=.o (.ex none (.store 1 (.v 3) (.v 17))) .done
@[simp] def W115_23:=Pl.w K115_23.eq_1
def K115_24:Pl:=.c 3 (.alloc (.c (.slice none 0 0))) K115_23
@[simp] def W115_24:=Pl.w K115_24.eq_1
def K115_25:C:=.seq (.pl <| .e 15 3 <|
 .m 15 0 <|
 .x 16 (.lenV (.v 15)) <|
 .c 17 (.mks 1 1 [.bool false] (.v 16) (.v 16)) K115_24) K115_22
@[simp] def W115_25:=C.w K115_25.eq_1
def B_impl_order:C:=.seq (.pl <| .e 15 0 <|
 .x 2 (.mv (.c (.slice none 0 0))) .done) K115_25
@[simp] def WB_impl_order:=C.w B_impl_order.eq_1
def R_impl_order:FIR:=⟨B_impl_order,15,[(2,none)]⟩
theorem IR_impl_order:cfun Tryz.prog H_impl_order Tryz.f115=some R_impl_order:=by kernel_rfl
theorem EN_impl_order:ENT Tryz.prog B_impl_order [(2,none)] 2 15 fn_impl_order:=fun hargs hw=>enter Tryz.func115 rfl IR_impl_order hargs hw
def H_impl_order_1:Hint:=⟨[(0,false),(1,false),(2,false)],[]⟩
def K158_1:Pl:=.o (.ex none (.store 1 (.v 2) (.v 6))) .done
@[simp] def W158_1:=Pl.w K158_1.eq_1
def K158_2:C:=.pl <| .e 3 4 <|
 .l 3 2 <|
 .m 4 0 <|
 .o (.psl 5 [.int .i64 0] [(0,1,.v 4)]) <|
 .c 6 (.app 8 1 [.int .i64 0] (.o (.v 3)) (.p 1 5)) K158_1
@[simp] def W158_2:=C.w K158_2.eq_1
def K158_3:C:=.seq (.pl <| .e 3 3 <|
 .l 3 1 <|
 .m 4 0 <|
 .x 5 (.ia 1 (.v 3) (.v 4)) <|
 .o (.ex none (.store 1 (.v 5) (.c (.bool true)))) .done) K158_2
@[simp] def W158_3:=C.w K158_3.eq_1
def K158_4:C:=.cond 3 (.v 7) K158_3 (.skip)
@[simp] def W158_4:=C.w K158_4.eq_1
def B_impl_order_1:C:=.seq (.pl <| .e 3 5 <|
 .l 3 1 <|
 .m 4 0 <|
 .x 5 (.ia 1 (.v 3) (.v 4)) <|
 .l 6 5 <|
 .x 7 (.un .not (.v 6)) .done) K158_4
@[simp] def WB_impl_order_1:=C.w B_impl_order_1.eq_1
def R_impl_order_1:FIR:=⟨B_impl_order_1,3,[]⟩
theorem IR_impl_order_1:cfun Tryz.prog H_impl_order_1 Tryz.f158=some R_impl_order_1:=by kernel_rfl
theorem EN_impl_order_1:ENT Tryz.prog B_impl_order_1 [] 3 3 fn_impl_order_1:=fun hargs hw=>enter Tryz.func158 rfl IR_impl_order_1 hargs hw
def H_spec_l6Word:Hint:=⟨[(0,false),(1,false),(4,false),(5,false),(6,false)],[[2]]⟩
def K86_1:C:=.seq (.pl <| .e 5 1 <|
 .m 5 3 <|
 .m 2 5 .done) (.ret)
@[simp] def W86_1:=C.w K86_1.eq_1
def K86_2:C:=.pl <| .e 5 2 <|
 .m 5 4 <|
 .x 6 (.bin .add (.v 5) (.c (.int .i64 1))) <|
 .m 4 6 .done
@[simp] def W86_2:=C.w K86_2.eq_1
def K86_3:Pl:=.m 3 10 .done
@[simp] def W86_3:=Pl.w K86_3.eq_1
def K86_4:Pl:=.o (.psl 9 [.int .i64 0] [(0,1,.v 8)]) <|
 .c 10 (.app 8 1 [.int .i64 0] (.o (.v 5)) (.p 1 9)) K86_3
@[simp] def W86_4:=Pl.w K86_4.eq_1
def K86_5:Pl:=.c 8 (.call fn_spec_l16Rd_num [.v 6,.v 7]) K86_4
@[simp] def W86_5:=Pl.w K86_5.eq_1
def K86_6:C:=.seq (.block 1 (.pl <| .e 5 6 <|
 .m 5 3 <|
 .m 6 0 <|
 .c 7 (.bls 1 9 [.int .i64 0] [(0,1,.c (.int .i64 0)),(1,1,.c (.int .i64 1)),(2,1,.c (.int .i64 2)),(3,1,.c (.int .i64 3)),(4,1,.c (.int .i64 1)),(5,1,.c (.int .i64 0)),(6,1,.c (.int .i64 5)),(7,1,.c (.int .i64 4)),(8,1,.c (.int .i64 7))]) K86_5)) K86_2
@[simp] def W86_6:=C.w K86_6.eq_1
def K86_7:C:=.cond 5 (.v 7) (.skip) (.exit 0)
@[simp] def W86_7:=C.w K86_7.eq_1
def K86_8:C:=.seq (.seq (.pl <| .e 5 3 <|
 .m 5 4 <|
 .m 6 1 <|
 .x 7 (.bin .lss (.v 5) (.v 6)) .done) K86_7) K86_6
@[simp] def W86_8:=C.w K86_8.eq_1
def K86_9:C:=.block 0 (.loop 5 [2] K86_8)
@[simp] def W86_9:=C.w K86_9.eq_1
def K86_10:C:=.seq (.seq (.pl <| .e 5 0 <|
 .x 4 (.mv (.c (.int .i64 0))) .done) K86_9) K86_1
@[simp] def W86_10:=C.w K86_10.eq_1
def K86_11:Pl:=.m 3 5 .done
@[simp] def W86_11:=Pl.w K86_11.eq_1
def K86_12:C:=.seq (.pl <| .e 5 1 <|
 .c 5 (.bls 1 0 [.int .i64 0] []) K86_11) K86_10
@[simp] def W86_12:=C.w K86_12.eq_1
def B_spec_l6Word:C:=.seq (.pl <| .e 5 0 <|
 .x 2 (.mv (.c (.slice none 0 0))) .done) K86_12
@[simp] def WB_spec_l6Word:=C.w B_spec_l6Word.eq_1
def R_spec_l6Word:FIR:=⟨B_spec_l6Word,5,[(2,none)]⟩
theorem IR_spec_l6Word:cfun Tryz.prog H_spec_l6Word Tryz.f86=some R_spec_l6Word:=by kernel_rfl
theorem EN_spec_l6Word:ENT Tryz.prog B_spec_l6Word [(2,none)] 2 5 fn_spec_l6Word:=fun hargs hw=>enter Tryz.func86 rfl IR_spec_l6Word hargs hw
def H_slices_EqualFunc_S_impl_Formula_S_impl_Formula_impl_Formula_impl_Formula:Hint:=⟨[(0,false),(1,false),(2,false),(6,false),(7,false),(8,true),(9,true),(15,false),(16,false),(17,false)],[[0,3,4,5,6]]⟩
def K168_1:C:=.seq (.pl <| .e 10 0 <|
 .x 3 (.mv (.c (.bool true))) .done) (.ret)
@[simp] def W168_1:=C.w K168_1.eq_1
def K168_2:C:=.pl <| .e 10 1 <|
 .x 10 (.bin .add (.v 9) (.c (.int .i64 1))) <|
 .m 9 10 .done
@[simp] def W168_2:=C.w K168_2.eq_1
def K168_3:C:=.seq (.pl <| .e 10 0 <|
 .x 3 (.mv (.c (.bool false))) .done) (.ret)
@[simp] def W168_3:=C.w K168_3.eq_1
def K168_4:C:=.cond 10 (.v 14) K168_3 (.skip)
@[simp] def W168_4:=C.w K168_4.eq_1
def K168_5:Pl:=.x 14 (.un .not (.v 13)) .done
@[simp] def W168_5:=Pl.w K168_5.eq_1
def K168_6:C:=.seq (.pl <| .e 10 5 <|
 .m 10 2 <|
 .o (.pget (some 11) none 5 0 (some 3)) <|
 .o (.pget (some 12) none 6 0 (some 3)) <|
 .c 13 (.callv (.v 10) [.v 11,.v 12]) K168_5) K168_4
@[simp] def W168_6:=C.w K168_6.eq_1
def K168_7:C:=.seq (.pl <| .e 10 4 <|
 .m 10 1 <|
 .m 11 4 <|
 .x 12 (.ia 3 (.v 10) (.v 11)) <|
 .o (.ld (some 13) (.v 12) (some 3)) <|
 .o (.pnew 6 (.c (.agg #[.int .i64 0,.int .i64 0,.slice none 0 0])) []) <|
 .o (.pset none 6 0 3 (.v 13)) .done) K168_6
@[simp] def W168_7:=C.w K168_7.eq_1
def K168_8:C:=.seq (.block 1 (.seq (.pl <| .e 10 3 <|
 .m 10 9 <|
 .x 11 (.ia 3 (.v 7) (.v 9)) <|
 .o (.ld (some 12) (.v 11) (some 3)) <|
 .o (.pnew 5 (.c (.agg #[.int .i64 0,.int .i64 0,.slice none 0 0])) []) <|
 .m 4 10 <|
 .o (.pset none 5 0 3 (.v 12)) .done) K168_7)) K168_2
@[simp] def W168_8:=C.w K168_8.eq_1
def K168_9:C:=.seq (.cond 10 (.v 10) (.skip) (.exit 0)) K168_8
@[simp] def W168_9:=C.w K168_9.eq_1
def K168_10:C:=.seq (.pl <| .e 10 1 <|
 .x 10 (.bin .lss (.v 9) (.v 8)) .done) K168_9
@[simp] def W168_10:=C.w K168_10.eq_1
def K168_11:C:=.block 0 (.loop 10 [0,3,4,5,6] K168_10)
@[simp] def W168_11:=C.w K168_11.eq_1
def K168_12:C:=.seq (.seq (.pl <| .e 10 0 <|
 .m 7 0 <|
 .x 8 (.lenV (.v 7)) <|
 .x 9 (.mv (.c (.int .i64 0))) .done) K168_11) K168_1
@[simp] def W168_12:=C.w K168_12.eq_1
def K168_13:C:=.seq (.pl <| .e 10 0 <|
 .x 3 (.mv (.c (.bool false))) .done) (.ret)
@[simp] def W168_13:=C.w K168_13.eq_1
def K168_14:C:=.cond 10 (.v 14) K168_13 (.skip)
@[simp] def W168_14:=C.w K168_14.eq_1
def K168_15:C:=.seq (.seq (.pl <| .e 10 5 <|
 .m 10 0 <|
 .x 11 (.lenV (.v 10)) <|
 .m 12 1 <|
 .x 13 (.lenV (.v 12)) <|
 .x 14 (.bin .neq (.v 11) (.v 13)) .done) K168_14) K168_12
@[simp] def W168_15:=C.w K168_15.eq_1
def B_slices_EqualFunc_S_impl_Formula_S_impl_Formula_impl_Formula_impl_Formula:C:=.seq (.pl <| .e 10 0 <|
 .x 3 (.mv (.c (.bool false))) .done) K168_15
@[simp] def WB_slices_EqualFunc_S_impl_Formula_S_impl_Formula_impl_Formula_impl_Formula:=C.w B_slices_EqualFunc_S_impl_Formula_S_impl_Formula_impl_Formula_impl_Formula.eq_1
def R_slices_EqualFunc_S_impl_Formula_S_impl_Formula_impl_Formula_impl_Formula:FIR:=⟨B_slices_EqualFunc_S_impl_Formula_S_impl_Formula_impl_Formula_impl_Formula,10,[(3,none)]⟩
theorem IR_slices_EqualFunc_S_impl_Formula_S_impl_Formula_impl_Formula_impl_Formula:cfun Tryz.prog H_slices_EqualFunc_S_impl_Formula_S_impl_Formula_impl_Formula_impl_Formula Tryz.f168=some R_slices_EqualFunc_S_impl_Formula_S_impl_Formula_impl_Formula_impl_Formula:=by kernel_rfl
theorem EN_slices_EqualFunc_S_impl_Formula_S_impl_Formula_impl_Formula_impl_Formula:ENT Tryz.prog B_slices_EqualFunc_S_impl_Formula_S_impl_Formula_impl_Formula_impl_Formula [(3,none)] 3 10 fn_slices_EqualFunc_S_impl_Formula_S_impl_Formula_impl_Formula_impl_Formula:=fun hargs hw=>enter Tryz.func168 rfl IR_slices_EqualFunc_S_impl_Formula_S_impl_Formula_impl_Formula_impl_Formula hargs hw
def H_slices_Equal_S_bool_bool:Hint:=⟨[(0,false),(1,false),(4,false),(5,false),(12,false),(13,false)],[[2,3]]⟩
def K53_1:C:=.seq (.pl <| .e 6 0 <|
 .x 2 (.mv (.c (.bool true))) .done) (.ret)
@[simp] def W53_1:=C.w K53_1.eq_1
def K53_2:C:=.pl <| .e 6 1 <|
 .x 6 (.bin .add (.v 5) (.c (.int .i64 1))) <|
 .m 5 6 .done
@[simp] def W53_2:=C.w K53_2.eq_1
def K53_3:C:=.seq (.pl <| .e 6 0 <|
 .x 2 (.mv (.c (.bool false))) .done) (.ret)
@[simp] def W53_3:=C.w K53_3.eq_1
def K53_4:C:=.cond 6 (.v 14) K53_3 (.skip)
@[simp] def W53_4:=C.w K53_4.eq_1
def K53_5:C:=.seq (.pl <| .e 6 9 <|
 .m 6 0 <|
 .m 7 3 <|
 .x 8 (.ia 1 (.v 6) (.v 7)) <|
 .l 9 8 <|
 .m 10 1 <|
 .m 11 3 <|
 .x 12 (.ia 1 (.v 10) (.v 11)) <|
 .l 13 12 <|
 .x 14 (.eqb true (.v 9) (.v 13)) .done) K53_4
@[simp] def W53_5:=C.w K53_5.eq_1
def K53_6:C:=.seq (.block 1 (.seq (.pl <| .e 6 1 <|
 .m 6 5 <|
 .m 3 6 .done) K53_5)) K53_2
@[simp] def W53_6:=C.w K53_6.eq_1
def K53_7:C:=.seq (.cond 6 (.v 6) (.skip) (.exit 0)) K53_6
@[simp] def W53_7:=C.w K53_7.eq_1
def K53_8:C:=.seq (.pl <| .e 6 1 <|
 .x 6 (.bin .lss (.v 5) (.v 4)) .done) K53_7
@[simp] def W53_8:=C.w K53_8.eq_1
def K53_9:C:=.block 0 (.loop 6 [2,3] K53_8)
@[simp] def W53_9:=C.w K53_9.eq_1
def K53_10:C:=.seq (.seq (.pl <| .e 6 1 <|
 .m 6 0 <|
 .x 4 (.lenV (.v 6)) <|
 .x 5 (.mv (.c (.int .i64 0))) .done) K53_9) K53_1
@[simp] def W53_10:=C.w K53_10.eq_1
def K53_11:C:=.seq (.pl <| .e 6 0 <|
 .x 2 (.mv (.c (.bool false))) .done) (.ret)
@[simp] def W53_11:=C.w K53_11.eq_1
def K53_12:C:=.cond 6 (.v 10) K53_11 (.skip)
@[simp] def W53_12:=C.w K53_12.eq_1
def K53_13:C:=.seq (.seq (.pl <| .e 6 5 <|
 .m 6 0 <|
 .x 7 (.lenV (.v 6)) <|
 .m 8 1 <|
 .x 9 (.lenV (.v 8)) <|
 .x 10 (.bin .neq (.v 7) (.v 9)) .done) K53_12) K53_10
@[simp] def W53_13:=C.w K53_13.eq_1
def B_slices_Equal_S_bool_bool:C:=.seq (.pl <| .e 6 0 <|
 .x 2 (.mv (.c (.bool false))) .done) K53_13
@[simp] def WB_slices_Equal_S_bool_bool:=C.w B_slices_Equal_S_bool_bool.eq_1
def R_slices_Equal_S_bool_bool:FIR:=⟨B_slices_Equal_S_bool_bool,6,[(2,none)]⟩
theorem IR_slices_Equal_S_bool_bool:cfun Tryz.prog H_slices_Equal_S_bool_bool Tryz.f53=some R_slices_Equal_S_bool_bool:=by kernel_rfl
theorem EN_slices_Equal_S_bool_bool:ENT Tryz.prog B_slices_Equal_S_bool_bool [(2,none)] 2 6 fn_slices_Equal_S_bool_bool:=fun hargs hw=>enter Tryz.func53 rfl IR_slices_Equal_S_bool_bool hargs hw
def H_slices_IndexFunc_S_impl_Formula_impl_Formula:Hint:=⟨[(0,false),(1,false),(4,false),(5,false),(7,false),(8,false)],[[2,3]]⟩
def K143_1:C:=.seq (.pl <| .e 6 0 <|
 .x 2 (.mv (.c (.int .i64 (-1)))) .done) (.ret)
@[simp] def W143_1:=C.w K143_1.eq_1
def K143_2:C:=.pl <| .e 6 1 <|
 .x 6 (.bin .add (.v 5) (.c (.int .i64 1))) <|
 .m 5 6 .done
@[simp] def W143_2:=C.w K143_2.eq_1
def K143_3:C:=.seq (.pl <| .e 6 1 <|
 .m 6 3 <|
 .m 2 6 .done) (.ret)
@[simp] def W143_3:=C.w K143_3.eq_1
def K143_4:C:=.cond 6 (.v 11) K143_3 (.skip)
@[simp] def W143_4:=C.w K143_4.eq_1
def K143_5:C:=.seq (.pl <| .e 6 6 <|
 .m 6 1 <|
 .m 7 0 <|
 .m 8 3 <|
 .x 9 (.ia 3 (.v 7) (.v 8)) <|
 .o (.ld (some 10) (.v 9) (some 3)) <|
 .c 11 (.callv (.v 6) [.v 10]) .done) K143_4
@[simp] def W143_5:=C.w K143_5.eq_1
def K143_6:C:=.seq (.block 1 (.seq (.pl <| .e 6 1 <|
 .m 6 5 <|
 .m 3 6 .done) K143_5)) K143_2
@[simp] def W143_6:=C.w K143_6.eq_1
def K143_7:C:=.seq (.cond 6 (.v 6) (.skip) (.exit 0)) K143_6
@[simp] def W143_7:=C.w K143_7.eq_1
def K143_8:C:=.seq (.pl <| .e 6 1 <|
 .x 6 (.bin .lss (.v 5) (.v 4)) .done) K143_7
@[simp] def W143_8:=C.w K143_8.eq_1
def K143_9:C:=.block 0 (.loop 6 [2,3] K143_8)
@[simp] def W143_9:=C.w K143_9.eq_1
def K143_10:C:=.seq (.seq (.pl <| .e 6 1 <|
 .m 6 0 <|
 .x 4 (.lenV (.v 6)) <|
 .x 5 (.mv (.c (.int .i64 0))) .done) K143_9) K143_1
@[simp] def W143_10:=C.w K143_10.eq_1
def B_slices_IndexFunc_S_impl_Formula_impl_Formula:C:=.seq (.pl <| .e 6 0 <|
 .x 2 (.mv (.c (.int .i64 0))) .done) K143_10
@[simp] def WB_slices_IndexFunc_S_impl_Formula_impl_Formula:=C.w B_slices_IndexFunc_S_impl_Formula_impl_Formula.eq_1
def R_slices_IndexFunc_S_impl_Formula_impl_Formula:FIR:=⟨B_slices_IndexFunc_S_impl_Formula_impl_Formula,6,[(2,none)]⟩
theorem IR_slices_IndexFunc_S_impl_Formula_impl_Formula:cfun Tryz.prog H_slices_IndexFunc_S_impl_Formula_impl_Formula Tryz.f143=some R_slices_IndexFunc_S_impl_Formula_impl_Formula:=by kernel_rfl
theorem EN_slices_IndexFunc_S_impl_Formula_impl_Formula:ENT Tryz.prog B_slices_IndexFunc_S_impl_Formula_impl_Formula [(2,none)] 2 6 fn_slices_IndexFunc_S_impl_Formula_impl_Formula:=fun hargs hw=>enter Tryz.func143 rfl IR_slices_IndexFunc_S_impl_Formula_impl_Formula hargs hw
def H_slices_IndexFunc_S_impl_Transition_impl_Transition:Hint:=⟨[(0,false),(1,false),(4,false),(5,false),(7,false),(8,false)],[[2,3]]⟩
def K119_1:C:=.seq (.pl <| .e 6 0 <|
 .x 2 (.mv (.c (.int .i64 (-1)))) .done) (.ret)
@[simp] def W119_1:=C.w K119_1.eq_1
def K119_2:C:=.pl <| .e 6 1 <|
 .x 6 (.bin .add (.v 5) (.c (.int .i64 1))) <|
 .m 5 6 .done
@[simp] def W119_2:=C.w K119_2.eq_1
def K119_3:C:=.seq (.pl <| .e 6 1 <|
 .m 6 3 <|
 .m 2 6 .done) (.ret)
@[simp] def W119_3:=C.w K119_3.eq_1
def K119_4:C:=.cond 6 (.v 11) K119_3 (.skip)
@[simp] def W119_4:=C.w K119_4.eq_1
def K119_5:C:=.seq (.pl <| .e 6 6 <|
 .m 6 1 <|
 .m 7 0 <|
 .m 8 3 <|
 .x 9 (.ia 4 (.v 7) (.v 8)) <|
 .o (.ld (some 10) (.v 9) (some 4)) <|
 .c 11 (.callv (.v 6) [.v 10]) .done) K119_4
@[simp] def W119_5:=C.w K119_5.eq_1
def K119_6:C:=.seq (.block 1 (.seq (.pl <| .e 6 1 <|
 .m 6 5 <|
 .m 3 6 .done) K119_5)) K119_2
@[simp] def W119_6:=C.w K119_6.eq_1
def K119_7:C:=.seq (.cond 6 (.v 6) (.skip) (.exit 0)) K119_6
@[simp] def W119_7:=C.w K119_7.eq_1
def K119_8:C:=.seq (.pl <| .e 6 1 <|
 .x 6 (.bin .lss (.v 5) (.v 4)) .done) K119_7
@[simp] def W119_8:=C.w K119_8.eq_1
def K119_9:C:=.block 0 (.loop 6 [2,3] K119_8)
@[simp] def W119_9:=C.w K119_9.eq_1
def K119_10:C:=.seq (.seq (.pl <| .e 6 1 <|
 .m 6 0 <|
 .x 4 (.lenV (.v 6)) <|
 .x 5 (.mv (.c (.int .i64 0))) .done) K119_9) K119_1
@[simp] def W119_10:=C.w K119_10.eq_1
def B_slices_IndexFunc_S_impl_Transition_impl_Transition:C:=.seq (.pl <| .e 6 0 <|
 .x 2 (.mv (.c (.int .i64 0))) .done) K119_10
@[simp] def WB_slices_IndexFunc_S_impl_Transition_impl_Transition:=C.w B_slices_IndexFunc_S_impl_Transition_impl_Transition.eq_1
def R_slices_IndexFunc_S_impl_Transition_impl_Transition:FIR:=⟨B_slices_IndexFunc_S_impl_Transition_impl_Transition,6,[(2,none)]⟩
theorem IR_slices_IndexFunc_S_impl_Transition_impl_Transition:cfun Tryz.prog H_slices_IndexFunc_S_impl_Transition_impl_Transition Tryz.f119=some R_slices_IndexFunc_S_impl_Transition_impl_Transition:=by kernel_rfl
theorem EN_slices_IndexFunc_S_impl_Transition_impl_Transition:ENT Tryz.prog B_slices_IndexFunc_S_impl_Transition_impl_Transition [(2,none)] 2 6 fn_slices_IndexFunc_S_impl_Transition_impl_Transition:=fun hargs hw=>enter Tryz.func119 rfl IR_slices_IndexFunc_S_impl_Transition_impl_Transition hargs hw
def H_slices_Index_S_int_int:Hint:=⟨[(0,false),(1,false),(4,false),(5,false),(7,false),(8,false)],[[2,3]]⟩
def K176_1:C:=.seq (.pl <| .e 6 0 <|
 .x 2 (.mv (.c (.int .i64 (-1)))) .done) (.ret)
@[simp] def W176_1:=C.w K176_1.eq_1
def K176_2:C:=.pl <| .e 6 1 <|
 .x 6 (.bin .add (.v 5) (.c (.int .i64 1))) <|
 .m 5 6 .done
@[simp] def W176_2:=C.w K176_2.eq_1
def K176_3:C:=.seq (.pl <| .e 6 1 <|
 .m 6 3 <|
 .m 2 6 .done) (.ret)
@[simp] def W176_3:=C.w K176_3.eq_1
def K176_4:C:=.cond 6 (.v 11) K176_3 (.skip)
@[simp] def W176_4:=C.w K176_4.eq_1
def K176_5:C:=.seq (.pl <| .e 6 6 <|
 .m 6 1 <|
 .m 7 0 <|
 .m 8 3 <|
 .x 9 (.ia 1 (.v 7) (.v 8)) <|
 .l 10 9 <|
 .x 11 (.bin .eql (.v 6) (.v 10)) .done) K176_4
@[simp] def W176_5:=C.w K176_5.eq_1
def K176_6:C:=.seq (.block 1 (.seq (.pl <| .e 6 1 <|
 .m 6 5 <|
 .m 3 6 .done) K176_5)) K176_2
@[simp] def W176_6:=C.w K176_6.eq_1
def K176_7:C:=.seq (.cond 6 (.v 6) (.skip) (.exit 0)) K176_6
@[simp] def W176_7:=C.w K176_7.eq_1
def K176_8:C:=.seq (.pl <| .e 6 1 <|
 .x 6 (.bin .lss (.v 5) (.v 4)) .done) K176_7
@[simp] def W176_8:=C.w K176_8.eq_1
def K176_9:C:=.block 0 (.loop 6 [2,3] K176_8)
@[simp] def W176_9:=C.w K176_9.eq_1
def K176_10:C:=.seq (.seq (.pl <| .e 6 1 <|
 .m 6 0 <|
 .x 4 (.lenV (.v 6)) <|
 .x 5 (.mv (.c (.int .i64 0))) .done) K176_9) K176_1
@[simp] def W176_10:=C.w K176_10.eq_1
def B_slices_Index_S_int_int:C:=.seq (.pl <| .e 6 0 <|
 .x 2 (.mv (.c (.int .i64 0))) .done) K176_10
@[simp] def WB_slices_Index_S_int_int:=C.w B_slices_Index_S_int_int.eq_1
def R_slices_Index_S_int_int:FIR:=⟨B_slices_Index_S_int_int,6,[(2,none)]⟩
theorem IR_slices_Index_S_int_int:cfun Tryz.prog H_slices_Index_S_int_int Tryz.f176=some R_slices_Index_S_int_int:=by kernel_rfl
theorem EN_slices_Index_S_int_int:ENT Tryz.prog B_slices_Index_S_int_int [(2,none)] 2 6 fn_slices_Index_S_int_int:=fun hargs hw=>enter Tryz.func176 rfl IR_slices_Index_S_int_int hargs hw
def H_spec_BasicFormulas:Hint:=⟨[(0,false),(1,true),(2,false),(3,false),(4,true),(5,false),(6,false),(7,false),(8,false)],[[0,1,2,3,4,5]]⟩
def K44_1:C:=.seq (.pl <| .e 9 1 <|
 .m 9 6 <|
 .m 2 9 <|
 .x 3 (.mv (.c (.bool true))) .done) (.ret)
@[simp] def W44_1:=C.w K44_1.eq_1
def K44_2:Pl:=.m 2 9 <|
 .x 3 (.mv (.c (.bool false))) .done
@[simp] def W44_2:=Pl.w K44_2.eq_1
def K44_3:C:=.seq (.pl <| .e 9 1 <|
 .c 9 (.bls 3 0 [.int .i64 0,.int .i64 0,.slice none 0 0] []) K44_2) (.ret)
@[simp] def W44_3:=C.w K44_3.eq_1
def K44_4:C:=.cond 9 (.v 11) K44_3 (.skip)
@[simp] def W44_4:=C.w K44_4.eq_1
def K44_5:C:=.seq (.seq (.pl <| .e 9 3 <|
 .m 9 6 <|
 .x 10 (.lenV (.v 9)) <|
 .x 11 (.bin .gtr (.v 10) (.c (.int .i64 5))) .done) K44_4) K44_1
@[simp] def W44_5:=C.w K44_5.eq_1
def K44_6:C:=.pl <| .e 9 2 <|
 .m 9 8 <|
 .x 10 (.bin .add (.v 9) (.c (.int .i64 1))) <|
 .m 8 10 .done
@[simp] def W44_6:=C.w K44_6.eq_1
def K44_7:Pl:=.m 6 15 .done
@[simp] def W44_7:=Pl.w K44_7.eq_1
def K44_8:C:=.pl <| .e 9 7 <|
 .m 9 6 <|
 .m 10 7 <|
 .m 11 8 <|
 .x 12 (.ia 3 (.v 10) (.v 11)) <|
 .o (.ld (some 13) (.v 12) (some 3)) <|
 .o (.psl 14 [.int .i64 0,.int .i64 0,.slice none 0 0] [(0,3,.v 13)]) <|
 .c 15 (.app 40 3 [.int .i64 0,.int .i64 0,.slice none 0 0] (.o (.v 9)) (.p 1 14)) K44_7
@[simp] def W44_8:=C.w K44_8.eq_1
def K44_9:C:=.cond 9 (.v 13) K44_8 (.skip)
@[simp] def W44_9:=C.w K44_9.eq_1
def K44_10:C:=.seq (.block 1 (.seq (.pl <| .e 9 5 <|
 .m 9 7 <|
 .m 10 8 <|
 .x 11 (.ia 3 (.v 9) (.v 10)) <|
 .o (.ld (some 12) (.v 11) (some 3)) <|
 .c 13 (.call fn_spec_l7Basic [.v 12]) .done) K44_9)) K44_6
@[simp] def W44_10:=C.w K44_10.eq_1
def K44_11:C:=.cond 9 (.v 12) (.skip) (.exit 0)
@[simp] def W44_11:=C.w K44_11.eq_1
def K44_12:C:=.seq (.seq (.pl <| .e 9 4 <|
 .m 9 8 <|
 .m 10 7 <|
 .x 11 (.lenV (.v 10)) <|
 .x 12 (.bin .lss (.v 9) (.v 11)) .done) K44_11) K44_10
@[simp] def W44_12:=C.w K44_12.eq_1
def K44_13:C:=.block 0 (.loop 9 [0,1,2,3,4,5] K44_12)
@[simp] def W44_13:=C.w K44_13.eq_1
def K44_14:C:=.seq (.seq (.pl <| .e 9 0 <|
 .x 8 (.mv (.c (.int .i64 0))) .done) K44_13) K44_5
@[simp] def W44_14:=C.w K44_14.eq_1
def K44_15:Pl:=.m 7 10 .done
@[simp] def W44_15:=Pl.w K44_15.eq_1
def K44_16:C:=.seq (.pl <| .e 9 2 <|
 .o (.pget (some 9) none 4 0 (some 3)) <|
 .c 10 (.call fn_spec_l5Subs [.c (.slice none 0 0),.v 9]) K44_15) K44_14
@[simp] def W44_16:=C.w K44_16.eq_1
def K44_17:Pl:=.m 6 9 .done
@[simp] def W44_17:=Pl.w K44_17.eq_1
def K44_18:C:=.seq (.pl <| .e 9 1 <|
 .c 9 (.bls 3 0 [.int .i64 0,.int .i64 0,.slice none 0 0] []) K44_17) K44_16
@[simp] def W44_18:=C.w K44_18.eq_1
def K44_19:Pl:=.m 2 9 <|
 .x 3 (.mv (.c (.bool false))) .done
@[simp] def W44_19:=Pl.w K44_19.eq_1
def K44_20:C:=.seq (.pl <| .e 9 1 <|
 .c 9 (.bls 3 0 [.int .i64 0,.int .i64 0,.slice none 0 0] []) K44_19) (.ret)
@[simp] def W44_20:=C.w K44_20.eq_1
def K44_21:C:=.cond 9 (.v 10) K44_20 (.skip)
@[simp] def W44_21:=C.w K44_21.eq_1
def K44_22:C:=.seq (.seq (.pl <| .e 9 2 <|
 .m 9 5 <|
 .x 10 (.un .not (.v 9)) .done) K44_21) K44_18
@[simp] def W44_22:=C.w K44_22.eq_1
def K44_23:Pl:=.m 11 10 <|
 .x 12 (.extract 0 (.v 11)) <|
 .x 13 (.extract 1 (.v 11)) <|
 .o (.pnew 4 (.c (.agg #[.int .i64 0,.int .i64 0,.slice none 0 0])) []) <|
 .o (.pset none 4 0 3 (.v 12)) <|
 .m 5 13 .done
@[simp] def W44_23:=Pl.w K44_23.eq_1
def K44_24:C:=.seq (.pl <| .e 9 5 <|
 .o (.pget (some 9) none 1 0 (some 3)) <|
 .c 10 (.call fn_spec_NormalForm [.v 9]) K44_23) K44_22
@[simp] def W44_24:=C.w K44_24.eq_1
def B_spec_BasicFormulas:C:=.seq (.pl <| .e 9 0 <|
 .o (.pnew 1 (.v 0) []) <|
 .x 2 (.mv (.c (.slice none 0 0))) <|
 .x 3 (.mv (.c (.bool false))) .done) K44_24
@[simp] def WB_spec_BasicFormulas:=C.w B_spec_BasicFormulas.eq_1
def R_spec_BasicFormulas:FIR:=⟨B_spec_BasicFormulas,9,[(2,none),(3,none)]⟩
theorem IR_spec_BasicFormulas:cfun Tryz.prog H_spec_BasicFormulas Tryz.f44=some R_spec_BasicFormulas:=by kernel_rfl
theorem EN_spec_BasicFormulas:ENT Tryz.prog B_spec_BasicFormulas [(2,none),(3,none)] 1 9 fn_spec_BasicFormulas:=fun hargs hw=>enter Tryz.func44 rfl IR_spec_BasicFormulas hargs hw
def H_spec_FormulaSame:Hint:=⟨[(0,false),(1,false),(2,true),(3,true),(4,false),(5,false)],[[0,1,4]]⟩
def K152_1:C:=.seq (.pl <| .e 6 0 <|
 .x 4 (.mv (.c (.bool true))) .done) (.ret)
@[simp] def W152_1:=C.w K152_1.eq_1
def K152_2:C:=.pl <| .e 6 2 <|
 .m 6 5 <|
 .x 7 (.bin .add (.v 6) (.c (.int .i64 1))) <|
 .m 5 7 .done
@[simp] def W152_2:=C.w K152_2.eq_1
def K152_3:C:=.seq (.pl <| .e 6 0 <|
 .x 4 (.mv (.c (.bool false))) .done) (.ret)
@[simp] def W152_3:=C.w K152_3.eq_1
def K152_4:C:=.cond 6 (.v 17) K152_3 (.skip)
@[simp] def W152_4:=C.w K152_4.eq_1
def K152_5:Pl:=.x 17 (.un .not (.v 16)) .done
@[simp] def W152_5:=Pl.w K152_5.eq_1
def K152_6:C:=.seq (.block 1 (.seq (.pl <| .e 6 12 <|
 .a 6 2 <|
 .g 7 6 2 2 <|
 .m 8 5 <|
 .x 9 (.ia 3 (.v 7) (.v 8)) <|
 .o (.ld (some 10) (.v 9) (some 3)) <|
 .a 11 3 <|
 .g 12 11 3 2 <|
 .m 13 5 <|
 .x 14 (.ia 3 (.v 12) (.v 13)) <|
 .o (.ld (some 15) (.v 14) (some 3)) <|
 .c 16 (.call fn_spec_FormulaSame [.v 10,.v 15]) K152_5) K152_4)) K152_2
@[simp] def W152_6:=C.w K152_6.eq_1
def K152_7:C:=.cond 6 (.v 10) (.skip) (.exit 0)
@[simp] def W152_7:=C.w K152_7.eq_1
def K152_8:C:=.seq (.seq (.pl <| .e 6 5 <|
 .m 6 5 <|
 .a 7 2 <|
 .g 8 7 2 2 <|
 .x 9 (.lenV (.v 8)) <|
 .x 10 (.bin .lss (.v 6) (.v 9)) .done) K152_7) K152_6
@[simp] def W152_8:=C.w K152_8.eq_1
def K152_9:C:=.block 0 (.loop 6 [0,1,4] K152_8)
@[simp] def W152_9:=C.w K152_9.eq_1
def K152_10:C:=.seq (.seq (.pl <| .e 6 0 <|
 .x 5 (.mv (.c (.int .i64 0))) .done) K152_9) K152_1
@[simp] def W152_10:=C.w K152_10.eq_1
def K152_11:C:=.seq (.pl <| .e 6 0 <|
 .x 4 (.mv (.c (.bool false))) .done) (.ret)
@[simp] def W152_11:=C.w K152_11.eq_1
def K152_12:C:=.cond 6 (.v 26) K152_11 (.skip)
@[simp] def W152_12:=C.w K152_12.eq_1
def K152_13:C:=.seq (.seq (.pl <| .e 6 21 <|
 .a 6 2 <|
 .g 7 6 2 0 <|
 .a 8 3 <|
 .g 9 8 3 0 <|
 .x 10 (.bin .neq (.v 7) (.v 9)) <|
 .m 11 10 <|
 .n 11 (.als 12 none 2) <|
 .n 11 (.pget (some 13) (some 12) 2 1 none) <|
 .n 11 (.als 14 none 3) <|
 .n 11 (.pget (some 15) (some 14) 3 1 none) <|
 .n 11 (.px (some 16) (.bin .neq (.v 13) (.v 15))) <|
 .x 17 (.pick (.v 11) (.c (.bool true)) (.v 16)) <|
 .m 18 17 <|
 .n 18 (.als 19 none 2) <|
 .n 18 (.pget (some 20) (some 19) 2 2 none) <|
 .n 18 (.px (some 21) (.lenV (.v 20))) <|
 .n 18 (.als 22 none 3) <|
 .n 18 (.pget (some 23) (some 22) 3 2 none) <|
 .n 18 (.px (some 24) (.lenV (.v 23))) <|
 .n 18 (.px (some 25) (.bin .neq (.v 21) (.v 24))) <|
 .x 26 (.pick (.v 18) (.c (.bool true)) (.v 25)) .done) K152_12) K152_10
@[simp] def W152_13:=C.w K152_13.eq_1
def B_spec_FormulaSame:C:=.seq (.pl <| .e 6 0 <|
 .o (.pnew 2 (.v 0) []) <|
 .o (.pnew 3 (.v 1) []) <|
 .x 4 (.mv (.c (.bool false))) .done) K152_13
@[simp] def WB_spec_FormulaSame:=C.w B_spec_FormulaSame.eq_1
def R_spec_FormulaSame:FIR:=⟨B_spec_FormulaSame,6,[(4,none)]⟩
theorem IR_spec_FormulaSame:cfun Tryz.prog H_spec_FormulaSame Tryz.f152=some R_spec_FormulaSame:=by kernel_rfl
theorem EN_spec_FormulaSame:ENT Tryz.prog B_spec_FormulaSame [(4,none)] 2 6 fn_spec_FormulaSame:=fun hargs hw=>enter Tryz.func152 rfl IR_spec_FormulaSame hargs hw
def H_spec_FormulaValid:Hint:=⟨[(0,false),(1,true),(2,false)],[]⟩
def K99_1:Pl:=.y 5 (.px (some 8) (.bin .leq (.v 7) (.c (.int .i64 12)))) <|
 .x 9 (.pick (.v 5) (.v 8) (.c (.bool false))) <|
 .m 2 9 .done
@[simp] def W99_1:=Pl.w K99_1.eq_1
def K99_2:Pl:=.m 5 4 <|
 .y 5 (.pget (some 6) none 1 0 (some 3)) <|
 .st (.act (some (.v 5,true)) (.ex (some 7) (.call fn_spec_l5Count [.v 6,.c (.int .i64 6)]))) K99_1
@[simp] def W99_2:=Pl.w K99_2.eq_1
def K99_3:C:=.seq (.pl <| .e 3 7 <|
 .o (.pget (some 3) none 1 0 (some 3)) <|
 .c 4 (.call fn_spec_l5Shape [.v 3,.c (.int .i64 6)]) K99_2) (.ret)
@[simp] def W99_3:=C.w K99_3.eq_1
def B_spec_FormulaValid:C:=.seq (.pl <| .e 3 0 <|
 .o (.pnew 1 (.v 0) []) <|
 .x 2 (.mv (.c (.bool false))) .done) K99_3
@[simp] def WB_spec_FormulaValid:=C.w B_spec_FormulaValid.eq_1
def R_spec_FormulaValid:FIR:=⟨B_spec_FormulaValid,3,[(2,none)]⟩
theorem IR_spec_FormulaValid:cfun Tryz.prog H_spec_FormulaValid Tryz.f99=some R_spec_FormulaValid:=by kernel_rfl
theorem EN_spec_FormulaValid:ENT Tryz.prog B_spec_FormulaValid [(2,none)] 1 3 fn_spec_FormulaValid:=fun hargs hw=>enter Tryz.func99 rfl IR_spec_FormulaValid hargs hw
def H_spec_NormalForm:Hint:=⟨[(0,false),(1,true),(2,true),(3,false),(4,true)],[]⟩
def K45_1:C:=.seq (.pl <| .e 5 1 <|
 .o (.pget (some 5) none 4 0 (some 3)) <|
 .o (.pset none 2 0 3 (.v 5)) <|
 .x 3 (.mv (.c (.bool true))) .done) (.ret)
@[simp] def W45_1:=C.w K45_1.eq_1
def K45_2:C:=.seq (.pl <| .e 5 1 <|
 .x 5 (.build [.int .i64 0,.int .i64 0,.slice none 0 0] []) <|
 .o (.pset none 2 0 3 (.v 5)) <|
 .x 3 (.mv (.c (.bool false))) .done) (.ret)
@[simp] def W45_2:=C.w K45_2.eq_1
def K45_3:C:=.cond 5 (.v 7) K45_2 (.skip)
@[simp] def W45_3:=C.w K45_3.eq_1
def K45_4:Pl:=.x 7 (.un .not (.v 6)) .done
@[simp] def W45_4:=Pl.w K45_4.eq_1
def K45_5:C:=.seq (.seq (.pl <| .e 5 3 <|
 .o (.pget (some 5) none 4 0 (some 3)) <|
 .c 6 (.call fn_spec_FormulaValid [.v 5]) K45_4) K45_3) K45_1
@[simp] def W45_5:=C.w K45_5.eq_1
def K45_6:Pl:=.o (.pnew 4 (.c (.agg #[.int .i64 0,.int .i64 0,.slice none 0 0])) []) <|
 .o (.pset none 4 0 3 (.v 6)) .done
@[simp] def W45_6:=Pl.w K45_6.eq_1
def K45_7:C:=.seq (.pl <| .e 5 2 <|
 .o (.pget (some 5) none 1 0 (some 3)) <|
 .c 6 (.call fn_spec_l5Push [.v 5,.c (.bool false)]) K45_6) K45_5
@[simp] def W45_7:=C.w K45_7.eq_1
def K45_8:C:=.seq (.pl <| .e 5 1 <|
 .x 5 (.build [.int .i64 0,.int .i64 0,.slice none 0 0] []) <|
 .o (.pset none 2 0 3 (.v 5)) <|
 .x 3 (.mv (.c (.bool false))) .done) (.ret)
@[simp] def W45_8:=C.w K45_8.eq_1
def K45_9:C:=.cond 5 (.v 7) K45_8 (.skip)
@[simp] def W45_9:=C.w K45_9.eq_1
def K45_10:Pl:=.x 7 (.un .not (.v 6)) .done
@[simp] def W45_10:=Pl.w K45_10.eq_1
def K45_11:C:=.seq (.seq (.pl <| .e 5 3 <|
 .o (.pget (some 5) none 1 0 (some 3)) <|
 .c 6 (.call fn_spec_FormulaValid [.v 5]) K45_10) K45_9) K45_7
@[simp] def W45_11:=C.w K45_11.eq_1
def B_spec_NormalForm:C:=.seq (.pl <| .e 5 0 <|
 .o (.pnew 1 (.v 0) []) <|
 .o (.pnew 2 (.c (.agg #[.int .i64 0,.int .i64 0,.slice none 0 0])) []) <|
 .x 3 (.mv (.c (.bool false))) .done) K45_11
@[simp] def WB_spec_NormalForm:=C.w B_spec_NormalForm.eq_1
def R_spec_NormalForm:FIR:=⟨B_spec_NormalForm,5,[(2,some (some 3)),(3,none)]⟩
theorem IR_spec_NormalForm:cfun Tryz.prog H_spec_NormalForm Tryz.f45=some R_spec_NormalForm:=by kernel_rfl
theorem EN_spec_NormalForm:ENT Tryz.prog B_spec_NormalForm [(2,some (some 3)),(3,none)] 1 5 fn_spec_NormalForm:=fun hargs hw=>enter Tryz.func45 rfl IR_spec_NormalForm hargs hw
def H_spec_TranslateFormula:Hint:=⟨[(0,false),(1,true),(2,true),(3,false),(4,false),(5,false),(6,true),(8,false),(9,false),(10,true),(11,false),(12,false),(13,false),(14,false),(15,false),(16,false),(17,false),(18,false),(19,false),(20,false)],[[0,1,3,5,12,13,14,15,16,17,18,19],[0,1,3,5,6,11,13,14,15,16,17,18,19],[0,1,3,5,6,11,15,19]]⟩
def K11_1:C:=.seq (.pl <| .e 20 1 <|
 .o (.pget (some 20) none 9 0 (some 3)) <|
 .o (.pset none 2 0 3 (.v 20)) <|
 .x 3 (.mv (.c (.bool true))) .done) (.ret)
@[simp] def W11_1:=C.w K11_1.eq_1
def K11_2:Pl:=.a 21 9 <|
 .o (.pset (some 21) 9 1 1 (.v 20)) .done
@[simp] def W11_2:=Pl.w K11_2.eq_1
def K11_3:C:=.pl <| .e 20 2 <|
 .c 20 (.bls 1 1 [.bool false] [(0,1,.c (.bool false))]) K11_2
@[simp] def W11_3:=C.w K11_3.eq_1
def K11_4:C:=.cond 20 (.v 22) K11_3 (.skip)
@[simp] def W11_4:=C.w K11_4.eq_1
def K11_5:C:=.seq (.seq (.pl <| .e 20 3 <|
 .m 20 10 <|
 .x 21 (.lenV (.v 20)) <|
 .x 22 (.bin .eql (.v 21) (.c (.int .i64 0))) .done) K11_4) K11_1
@[simp] def W11_5:=C.w K11_5.eq_1
def K11_6:C:=.pl <| .e 20 2 <|
 .m 20 12 <|
 .x 21 (.bin .add (.v 20) (.c (.int .i64 1))) <|
 .m 12 21 .done
@[simp] def W11_6:=C.w K11_6.eq_1
def K11_7:C:=.pl <| .e 20 2 <|
 .m 20 18 <|
 .x 21 (.bin .add (.v 20) (.c (.int .i64 1))) <|
 .m 18 21 .done
@[simp] def W11_7:=C.w K11_7.eq_1
def K11_8:Pl:=.a 29 9 <|
 .o (.pset (some 29) 9 2 1 (.v 28)) .done
@[simp] def W11_8:=Pl.w K11_8.eq_1
def K11_9:C:=.pl <| .e 20 10 <|
 .a 20 9 <|
 .g 21 20 9 2 <|
 .m 22 12 <|
 .m 23 16 <|
 .m 24 17 <|
 .m 25 19 <|
 .x 26 (.build [.int .i64 0,.int .i64 0,.int .i64 0,.int .i64 0] [(0,1,.v 22),(1,1,.v 23),(2,1,.v 24),(3,1,.v 25)]) <|
 .o (.psl 27 [.int .i64 0,.int .i64 0,.int .i64 0,.int .i64 0] [(0,4,.v 26)]) <|
 .c 28 (.app 32 4 [.int .i64 0,.int .i64 0,.int .i64 0,.int .i64 0] (.o (.v 21)) (.p 1 27)) K11_8
@[simp] def W11_9:=C.w K11_9.eq_1
def K11_10:Pl:=.m 25 24 <|
 .x 26 (.extract 0 (.v 25)) <|
 .x 27 (.extract 1 (.v 25)) <|
 .m 10 26 <|
 .m 19 27 .done
@[simp] def W11_10:=Pl.w K11_10.eq_1
def K11_11:Pl:=.c 24 (.call fn_spec_l7Pair [.v 20,.v 23]) K11_10
@[simp] def W11_11:=Pl.w K11_11.eq_1
def K11_12:C:=.seq (.pl <| .e 20 8 <|
 .m 20 10 <|
 .m 21 18 <|
 .m 22 14 <|
 .c 23 (.bls 1 2 [.int .i64 0] [(0,1,.v 21),(1,1,.v 22)]) K11_11) K11_9
@[simp] def W11_12:=C.w K11_12.eq_1
def K11_13:C:=.seq (.pl <| .e 20 0 <|
 .x 19 (.mv (.c (.int .i64 0))) .done) K11_12
@[simp] def W11_13:=C.w K11_13.eq_1
def K11_14:C:=.cond 20 (.v 23) K11_13 (.skip)
@[simp] def W11_14:=C.w K11_14.eq_1
def K11_15:C:=.seq (.block 5 (.seq (.pl <| .e 20 4 <|
 .m 20 4 <|
 .m 21 13 <|
 .m 22 18 <|
 .c 23 (.call fn_spec_l7Follows [.v 20,.v 21,.v 22]) .done) K11_14)) K11_7
@[simp] def W11_15:=C.w K11_15.eq_1
def K11_16:C:=.cond 20 (.v 22) (.skip) (.exit 4)
@[simp] def W11_16:=C.w K11_16.eq_1
def K11_17:C:=.seq (.seq (.pl <| .e 20 3 <|
 .m 20 18 <|
 .m 21 7 <|
 .x 22 (.bin .lss (.v 20) (.v 21)) .done) K11_16) K11_15
@[simp] def W11_17:=C.w K11_17.eq_1
def K11_18:C:=.block 4 (.loop 20 [0,1,3,5,6,11,15,19] K11_17)
@[simp] def W11_18:=C.w K11_18.eq_1
def K11_19:C:=.seq (.pl <| .e 20 0 <|
 .x 18 (.mv (.c (.int .i64 0))) .done) K11_18
@[simp] def W11_19:=C.w K11_19.eq_1
def K11_20:Pl:=.m 23 22 <|
 .x 24 (.extract 0 (.v 23)) <|
 .x 25 (.extract 1 (.v 23)) <|
 .m 16 24 <|
 .m 17 25 .done
@[simp] def W11_20:=Pl.w K11_20.eq_1
def K11_21:C:=.seq (.pl <| .e 20 6 <|
 .m 20 4 <|
 .m 21 13 <|
 .c 22 (.call fn_spec_l7Letter [.v 20,.v 21]) K11_20) K11_19
@[simp] def W11_21:=C.w K11_21.eq_1
def K11_22:Pl:=.a 25 9 <|
 .o (.pset (some 25) 9 1 1 (.v 24)) .done
@[simp] def W11_22:=Pl.w K11_22.eq_1
def K11_23:C:=.seq (.pl <| .e 20 6 <|
 .a 20 9 <|
 .g 21 20 9 1 <|
 .m 22 15 <|
 .o (.psl 23 [.bool false] [(0,1,.v 22)]) <|
 .c 24 (.app 1 1 [.bool false] (.o (.v 21)) (.p 1 23)) K11_22) K11_21
@[simp] def W11_23:=C.w K11_23.eq_1
def K11_24:Pl:=.m 30 29 <|
 .x 31 (.extract 0 (.v 30)) <|
 .x 32 (.extract 1 (.v 30)) <|
 .m 14 31 <|
 .m 15 32 .done
@[simp] def W11_24:=Pl.w K11_24.eq_1
def K11_25:C:=.seq (.pl <| .e 20 13 <|
 .m 20 4 <|
 .m 21 8 <|
 .m 22 13 <|
 .m 23 10 <|
 .m 24 12 <|
 .x 25 (.ia 1 (.v 23) (.v 24)) <|
 .l 26 25 <|
 .x 27 (.ia 1 (.v 26) (.c (.int .i64 1))) <|
 .l 28 27 <|
 .c 29 (.call fn_spec_l7Phase [.v 20,.v 21,.v 22,.v 28]) K11_24) K11_23
@[simp] def W11_25:=C.w K11_25.eq_1
def K11_26:C:=.seq (.pl <| .e 20 6 <|
 .m 20 10 <|
 .m 21 12 <|
 .x 22 (.ia 1 (.v 20) (.v 21)) <|
 .l 23 22 <|
 .x 24 (.ia 1 (.v 23) (.c (.int .i64 0))) <|
 .l 25 24 <|
 .m 13 25 .done) K11_25
@[simp] def W11_26:=C.w K11_26.eq_1
def K11_27:C:=.seq (.pl <| .e 20 1 <|
 .x 20 (.build [.slice none 0 0,.slice none 0 0,.slice none 0 0] []) <|
 .o (.pset none 2 0 3 (.v 20)) <|
 .x 3 (.mv (.c (.bool false))) .done) (.ret)
@[simp] def W11_27:=C.w K11_27.eq_1
def K11_28:C:=.cond 20 (.v 22) K11_27 (.skip)
@[simp] def W11_28:=C.w K11_28.eq_1
def K11_29:C:=.seq (.block 3 (.seq (.seq (.pl <| .e 20 3 <|
 .m 20 10 <|
 .x 21 (.lenV (.v 20)) <|
 .x 22 (.bin .gtr (.v 21) (.c (.int .i64 64))) .done) K11_28) K11_26)) K11_6
@[simp] def W11_29:=C.w K11_29.eq_1
def K11_30:C:=.cond 20 (.v 23) (.skip) (.exit 2)
@[simp] def W11_30:=C.w K11_30.eq_1
def K11_31:C:=.seq (.seq (.pl <| .e 20 4 <|
 .m 20 12 <|
 .m 21 10 <|
 .x 22 (.lenV (.v 21)) <|
 .x 23 (.bin .lss (.v 20) (.v 22)) .done) K11_30) K11_29
@[simp] def W11_31:=C.w K11_31.eq_1
def K11_32:C:=.block 2 (.loop 20 [0,1,3,5,6,11,13,14,15,16,17,18,19] K11_31)
@[simp] def W11_32:=C.w K11_32.eq_1
def K11_33:C:=.seq (.seq (.pl <| .e 20 0 <|
 .x 12 (.mv (.c (.int .i64 0))) .done) K11_32) K11_5
@[simp] def W11_33:=C.w K11_33.eq_1
def K11_34:C:=.pl <| .e 20 2 <|
 .m 20 11 <|
 .x 21 (.bin .add (.v 20) (.c (.int .i64 1))) <|
 .m 11 21 .done
@[simp] def W11_34:=C.w K11_34.eq_1
def K11_35:Pl:=.m 10 24 .done
@[simp] def W11_35:=Pl.w K11_35.eq_1
def K11_36:Pl:=.o (.psl 23 [.slice none 0 0] [(0,1,.v 22)]) <|
 .c 24 (.app 24 1 [.slice none 0 0] (.o (.v 20)) (.p 1 23)) K11_35
@[simp] def W11_36:=Pl.w K11_36.eq_1
def K11_37:C:=.pl <| .e 20 5 <|
 .m 20 10 <|
 .m 21 11 <|
 .c 22 (.bls 1 2 [.int .i64 0] [(0,1,.v 21),(1,1,.c (.int .i64 0))]) K11_36
@[simp] def W11_37:=C.w K11_37.eq_1
def K11_38:Pl:=.a 26 9 <|
 .o (.pset (some 26) 9 0 1 (.v 25)) .done
@[simp] def W11_38:=Pl.w K11_38.eq_1
def K11_39:C:=.seq (.pl <| .e 20 7 <|
 .a 20 9 <|
 .g 21 20 9 0 <|
 .m 22 10 <|
 .x 23 (.lenV (.v 22)) <|
 .o (.psl 24 [.int .i64 0] [(0,1,.v 23)]) <|
 .c 25 (.app 8 1 [.int .i64 0] (.o (.v 21)) (.p 1 24)) K11_38) K11_37
@[simp] def W11_39:=C.w K11_39.eq_1
def K11_40:C:=.cond 20 (.v 23) K11_39 (.skip)
@[simp] def W11_40:=C.w K11_40.eq_1
def K11_41:C:=.seq (.block 1 (.seq (.pl <| .e 20 4 <|
 .m 20 4 <|
 .m 21 11 <|
 .o (.pget (some 22) none 6 0 (some 3)) <|
 .c 23 (.call fn_spec_l7Value [.v 20,.v 21,.v 22]) .done) K11_40)) K11_34
@[simp] def W11_41:=C.w K11_41.eq_1
def K11_42:C:=.cond 20 (.v 22) (.skip) (.exit 0)
@[simp] def W11_42:=C.w K11_42.eq_1
def K11_43:C:=.seq (.seq (.pl <| .e 20 3 <|
 .m 20 11 <|
 .m 21 7 <|
 .x 22 (.bin .lss (.v 20) (.v 21)) .done) K11_42) K11_41
@[simp] def W11_43:=C.w K11_43.eq_1
def K11_44:C:=.block 0 (.loop 20 [0,1,3,5,12,13,14,15,16,17,18,19] K11_43)
@[simp] def W11_44:=C.w K11_44.eq_1
def K11_45:C:=.seq (.seq (.pl <| .e 20 0 <|
 .x 11 (.mv (.c (.int .i64 0))) .done) K11_44) K11_33
@[simp] def W11_45:=C.w K11_45.eq_1
def K11_46:Pl:=.m 10 20 .done
@[simp] def W11_46:=Pl.w K11_46.eq_1
def K11_47:C:=.seq (.pl <| .e 20 1 <|
 .c 20 (.bls 1 0 [.slice none 0 0] []) K11_46) K11_45
@[simp] def W11_47:=C.w K11_47.eq_1
def K11_48:C:=.seq (.pl <| .e 20 1 <|
 .x 20 (.build [.slice none 0 0,.slice none 0 0,.slice none 0 0] []) <|
 .o (.pnew 9 (.c (.agg #[.slice none 0 0,.slice none 0 0,.slice none 0 0])) []) <|
 .o (.pset none 9 0 3 (.v 20)) .done) K11_47
@[simp] def W11_48:=C.w K11_48.eq_1
def K11_49:Pl:=.m 8 21 .done
@[simp] def W11_49:=Pl.w K11_49.eq_1
def K11_50:C:=.seq (.pl <| .e 20 2 <|
 .m 20 4 <|
 .c 21 (.call fn_spec_l7Untils [.v 20]) K11_49) K11_48
@[simp] def W11_50:=C.w K11_50.eq_1
def K11_51:C:=.seq (.pl <| .e 20 4 <|
 .m 20 4 <|
 .x 21 (.lenV (.v 20)) <|
 .x 22 (.conv .u64 (.v 21)) <|
 .x 23 (.bin .shl (.c (.int .i64 1)) (.v 22)) <|
 .m 7 23 .done) K11_50
@[simp] def W11_51:=C.w K11_51.eq_1
def K11_52:Pl:=.m 22 21 <|
 .x 23 (.extract 0 (.v 22)) <|
 .x 24 (.extract 1 (.v 22)) <|
 .o (.pnew 6 (.c (.agg #[.int .i64 0,.int .i64 0,.slice none 0 0])) []) <|
 .o (.pset none 6 0 3 (.v 23)) <|
 .m 25 24 .done
@[simp] def W11_52:=Pl.w K11_52.eq_1
def K11_53:C:=.seq (.pl <| .e 20 6 <|
 .o (.pget (some 20) none 1 0 (some 3)) <|
 .c 21 (.call fn_spec_NormalForm [.v 20]) K11_52) K11_51
@[simp] def W11_53:=C.w K11_53.eq_1
def K11_54:C:=.seq (.pl <| .e 20 1 <|
 .x 20 (.build [.slice none 0 0,.slice none 0 0,.slice none 0 0] []) <|
 .o (.pset none 2 0 3 (.v 20)) <|
 .x 3 (.mv (.c (.bool false))) .done) (.ret)
@[simp] def W11_54:=C.w K11_54.eq_1
def K11_55:C:=.cond 20 (.v 21) K11_54 (.skip)
@[simp] def W11_55:=C.w K11_55.eq_1
def K11_56:C:=.seq (.seq (.pl <| .e 20 2 <|
 .m 20 5 <|
 .x 21 (.un .not (.v 20)) .done) K11_55) K11_53
@[simp] def W11_56:=C.w K11_56.eq_1
def K11_57:Pl:=.m 22 21 <|
 .x 23 (.extract 0 (.v 22)) <|
 .x 24 (.extract 1 (.v 22)) <|
 .m 4 23 <|
 .m 5 24 .done
@[simp] def W11_57:=Pl.w K11_57.eq_1
def K11_58:C:=.seq (.pl <| .e 20 5 <|
 .o (.pget (some 20) none 1 0 (some 3)) <|
 .c 21 (.call fn_spec_BasicFormulas [.v 20]) K11_57) K11_56
@[simp] def W11_58:=C.w K11_58.eq_1
def B_spec_TranslateFormula:C:=.seq (.pl <| .e 20 0 <|
 .o (.pnew 1 (.v 0) []) <|
 .o (.pnew 2 (.c (.agg #[.slice none 0 0,.slice none 0 0,.slice none 0 0])) []) <|
 .x 3 (.mv (.c (.bool false))) .done) K11_58
@[simp] def WB_spec_TranslateFormula:=C.w B_spec_TranslateFormula.eq_1
def R_spec_TranslateFormula:FIR:=⟨B_spec_TranslateFormula,20,[(2,some (some 3)),(3,none)]⟩
theorem IR_spec_TranslateFormula:cfun Tryz.prog H_spec_TranslateFormula Tryz.f11=some R_spec_TranslateFormula:=by kernel_rfl
theorem EN_spec_TranslateFormula:ENT Tryz.prog B_spec_TranslateFormula [(2,some (some 3)),(3,none)] 1 20 fn_spec_TranslateFormula:=fun hargs hw=>enter Tryz.func11 rfl IR_spec_TranslateFormula hargs hw
def H_spec_l2Ints:Hint:=⟨[(0,false),(1,false),(4,false),(5,false)],[[2]]⟩
def K104_1:C:=.seq (.pl <| .e 4 0 <|
 .x 2 (.mv (.c (.bool true))) .done) (.ret)
@[simp] def W104_1:=C.w K104_1.eq_1
def K104_2:C:=.pl <| .e 4 2 <|
 .m 4 3 <|
 .x 5 (.bin .add (.v 4) (.c (.int .i64 1))) <|
 .m 3 5 .done
@[simp] def W104_2:=C.w K104_2.eq_1
def K104_3:C:=.seq (.pl <| .e 4 0 <|
 .x 2 (.mv (.c (.bool false))) .done) (.ret)
@[simp] def W104_3:=C.w K104_3.eq_1
def K104_4:C:=.cond 4 (.v 12) K104_3 (.skip)
@[simp] def W104_4:=C.w K104_4.eq_1
def K104_5:C:=.seq (.block 1 (.seq (.pl <| .e 4 9 <|
 .m 4 0 <|
 .m 5 3 <|
 .x 6 (.ia 1 (.v 4) (.v 5)) <|
 .l 7 6 <|
 .m 8 1 <|
 .m 9 3 <|
 .x 10 (.ia 1 (.v 8) (.v 9)) <|
 .l 11 10 <|
 .x 12 (.bin .neq (.v 7) (.v 11)) .done) K104_4)) K104_2
@[simp] def W104_5:=C.w K104_5.eq_1
def K104_6:C:=.cond 4 (.v 7) (.skip) (.exit 0)
@[simp] def W104_6:=C.w K104_6.eq_1
def K104_7:C:=.seq (.seq (.pl <| .e 4 4 <|
 .m 4 3 <|
 .m 5 0 <|
 .x 6 (.lenV (.v 5)) <|
 .x 7 (.bin .lss (.v 4) (.v 6)) .done) K104_6) K104_5
@[simp] def W104_7:=C.w K104_7.eq_1
def K104_8:C:=.block 0 (.loop 4 [2] K104_7)
@[simp] def W104_8:=C.w K104_8.eq_1
def K104_9:C:=.seq (.seq (.pl <| .e 4 0 <|
 .x 3 (.mv (.c (.int .i64 0))) .done) K104_8) K104_1
@[simp] def W104_9:=C.w K104_9.eq_1
def K104_10:C:=.seq (.pl <| .e 4 0 <|
 .x 2 (.mv (.c (.bool false))) .done) (.ret)
@[simp] def W104_10:=C.w K104_10.eq_1
def K104_11:C:=.cond 4 (.v 8) K104_10 (.skip)
@[simp] def W104_11:=C.w K104_11.eq_1
def K104_12:C:=.seq (.seq (.pl <| .e 4 5 <|
 .m 4 0 <|
 .x 5 (.lenV (.v 4)) <|
 .m 6 1 <|
 .x 7 (.lenV (.v 6)) <|
 .x 8 (.bin .neq (.v 5) (.v 7)) .done) K104_11) K104_9
@[simp] def W104_12:=C.w K104_12.eq_1
def B_spec_l2Ints:C:=.seq (.pl <| .e 4 0 <|
 .x 2 (.mv (.c (.bool false))) .done) K104_12
@[simp] def WB_spec_l2Ints:=C.w B_spec_l2Ints.eq_1
def R_spec_l2Ints:FIR:=⟨B_spec_l2Ints,4,[(2,none)]⟩
theorem IR_spec_l2Ints:cfun Tryz.prog H_spec_l2Ints Tryz.f104=some R_spec_l2Ints:=by kernel_rfl
theorem EN_spec_l2Ints:ENT Tryz.prog B_spec_l2Ints [(2,none)] 2 4 fn_spec_l2Ints:=fun hargs hw=>enter Tryz.func104 rfl IR_spec_l2Ints hargs hw
def H_spec_l5Arity:Hint:=⟨[(0,false),(2,false),(3,false),(4,false),(7,false),(12,false)],[]⟩
def K162_1:C:=.seq (.pl <| .e 6 0 <|
 .x 1 (.mv (.c (.int .i64 (-1)))) .done) (.ret)
@[simp] def W162_1:=C.w K162_1.eq_1
def K162_2:C:=.seq (.pl <| .e 6 0 <|
 .x 1 (.mv (.c (.int .i64 0))) .done) (.ret)
@[simp] def W162_2:=C.w K162_2.eq_1
def K162_3:C:=.seq (.pl <| .e 6 0 <|
 .x 1 (.mv (.c (.int .i64 1))) .done) (.ret)
@[simp] def W162_3:=C.w K162_3.eq_1
def K162_4:C:=.seq (.pl <| .e 6 0 <|
 .x 1 (.mv (.c (.int .i64 2))) .done) (.ret)
@[simp] def W162_4:=C.w K162_4.eq_1
def K162_5:C:=.cond 6 (.v 5) K162_4 (.skip)
@[simp] def W162_5:=C.w K162_5.eq_1
def K162_6:C:=.pl <| .e 6 1 <|
 .x 6 (.bin .eql (.v 2) (.c (.int .i64 8))) <|
 .m 5 6 .done
@[simp] def W162_6:=C.w K162_6.eq_1
def K162_7:C:=.cond 6 (.v 5) (.skip) K162_6
@[simp] def W162_7:=C.w K162_7.eq_1
def K162_8:C:=.seq (.pl <| .e 6 1 <|
 .x 6 (.bin .eql (.v 2) (.c (.int .i64 7))) <|
 .m 5 6 .done) K162_7
@[simp] def W162_8:=C.w K162_8.eq_1
def K162_9:C:=.cond 6 (.v 5) (.skip) K162_8
@[simp] def W162_9:=C.w K162_9.eq_1
def K162_10:C:=.seq (.pl <| .e 6 1 <|
 .x 6 (.bin .eql (.v 2) (.c (.int .i64 5))) <|
 .m 5 6 .done) K162_9
@[simp] def W162_10:=C.w K162_10.eq_1
def K162_11:C:=.cond 6 (.v 5) (.skip) K162_10
@[simp] def W162_11:=C.w K162_11.eq_1
def K162_12:C:=.seq (.seq (.pl <| .e 6 1 <|
 .x 6 (.bin .eql (.v 2) (.c (.int .i64 4))) <|
 .m 5 6 .done) K162_11) K162_5
@[simp] def W162_12:=C.w K162_12.eq_1
def K162_13:C:=.cond 6 (.v 4) K162_3 K162_12
@[simp] def W162_13:=C.w K162_13.eq_1
def K162_14:C:=.pl <| .e 6 1 <|
 .x 6 (.bin .eql (.v 2) (.c (.int .i64 10))) <|
 .m 4 6 .done
@[simp] def W162_14:=C.w K162_14.eq_1
def K162_15:C:=.cond 6 (.v 4) (.skip) K162_14
@[simp] def W162_15:=C.w K162_15.eq_1
def K162_16:C:=.seq (.pl <| .e 6 1 <|
 .x 6 (.bin .eql (.v 2) (.c (.int .i64 9))) <|
 .m 4 6 .done) K162_15
@[simp] def W162_16:=C.w K162_16.eq_1
def K162_17:C:=.cond 6 (.v 4) (.skip) K162_16
@[simp] def W162_17:=C.w K162_17.eq_1
def K162_18:C:=.seq (.pl <| .e 6 1 <|
 .x 6 (.bin .eql (.v 2) (.c (.int .i64 6))) <|
 .m 4 6 .done) K162_17
@[simp] def W162_18:=C.w K162_18.eq_1
def K162_19:C:=.cond 6 (.v 4) (.skip) K162_18
@[simp] def W162_19:=C.w K162_19.eq_1
def K162_20:C:=.seq (.seq (.pl <| .e 6 1 <|
 .x 6 (.bin .eql (.v 2) (.c (.int .i64 3))) <|
 .m 4 6 .done) K162_19) K162_13
@[simp] def W162_20:=C.w K162_20.eq_1
def K162_21:C:=.cond 6 (.v 3) K162_2 K162_20
@[simp] def W162_21:=C.w K162_21.eq_1
def K162_22:C:=.pl <| .e 6 1 <|
 .x 6 (.bin .eql (.v 2) (.c (.int .i64 2))) <|
 .m 3 6 .done
@[simp] def W162_22:=C.w K162_22.eq_1
def K162_23:C:=.cond 6 (.v 3) (.skip) K162_22
@[simp] def W162_23:=C.w K162_23.eq_1
def K162_24:C:=.block 0 (.seq (.seq (.pl <| .e 6 1 <|
 .x 6 (.bin .eql (.v 2) (.c (.int .i64 1))) <|
 .m 3 6 .done) K162_23) K162_21)
@[simp] def W162_24:=C.w K162_24.eq_1
def K162_25:C:=.seq (.seq (.pl <| .e 6 0 <|
 .m 2 0 .done) K162_24) K162_1
@[simp] def W162_25:=C.w K162_25.eq_1
def B_spec_l5Arity:C:=.seq (.pl <| .e 6 0 <|
 .x 1 (.mv (.c (.int .i64 0))) .done) K162_25
@[simp] def WB_spec_l5Arity:=C.w B_spec_l5Arity.eq_1
def R_spec_l5Arity:FIR:=⟨B_spec_l5Arity,6,[(1,none)]⟩
theorem IR_spec_l5Arity:cfun Tryz.prog H_spec_l5Arity Tryz.f162=some R_spec_l5Arity:=by kernel_rfl
theorem EN_spec_l5Arity:ENT Tryz.prog B_spec_l5Arity [(1,none)] 1 6 fn_spec_l5Arity:=fun hargs hw=>enter Tryz.func162 rfl IR_spec_l5Arity hargs hw
def H_spec_l5Copy:Hint:=⟨[(0,false),(1,true),(2,true),(3,true),(4,false)],[[0]]⟩
def K132_1:C:=.seq (.pl <| .e 5 1 <|
 .o (.pget (some 5) none 3 0 (some 3)) <|
 .o (.pset none 2 0 3 (.v 5)) .done) (.ret)
@[simp] def W132_1:=C.w K132_1.eq_1
def K132_2:C:=.pl <| .e 5 2 <|
 .m 5 4 <|
 .x 6 (.bin .add (.v 5) (.c (.int .i64 1))) <|
 .m 4 6 .done
@[simp] def W132_2:=C.w K132_2.eq_1
def K132_3:Pl:=.a 15 3 <|
 .o (.pset (some 15) 3 2 1 (.v 14)) .done
@[simp] def W132_3:=Pl.w K132_3.eq_1
def K132_4:Pl:=.o (.psl 13 [.int .i64 0,.int .i64 0,.slice none 0 0] [(0,3,.v 12)]) <|
 .c 14 (.app 40 3 [.int .i64 0,.int .i64 0,.slice none 0 0] (.o (.v 6)) (.p 1 13)) K132_3
@[simp] def W132_4:=Pl.w K132_4.eq_1
def K132_5:C:=.seq (.block 1 (.pl <| .e 5 11 <|
 .a 5 3 <|
 .g 6 5 3 2 <|
 .a 7 1 <|
 .g 8 7 1 2 <|
 .m 9 4 <|
 .x 10 (.ia 3 (.v 8) (.v 9)) <|
 .o (.ld (some 11) (.v 10) (some 3)) <|
 .c 12 (.call fn_spec_l5Copy [.v 11]) K132_4)) K132_2
@[simp] def W132_5:=C.w K132_5.eq_1
def K132_6:C:=.cond 5 (.v 9) (.skip) (.exit 0)
@[simp] def W132_6:=C.w K132_6.eq_1
def K132_7:C:=.seq (.seq (.pl <| .e 5 5 <|
 .m 5 4 <|
 .a 6 1 <|
 .g 7 6 1 2 <|
 .x 8 (.lenV (.v 7)) <|
 .x 9 (.bin .lss (.v 5) (.v 8)) .done) K132_6) K132_5
@[simp] def W132_7:=C.w K132_7.eq_1
def K132_8:C:=.block 0 (.loop 5 [0] K132_7)
@[simp] def W132_8:=C.w K132_8.eq_1
def K132_9:C:=.seq (.seq (.pl <| .e 5 0 <|
 .x 4 (.mv (.c (.int .i64 0))) .done) K132_8) K132_1
@[simp] def W132_9:=C.w K132_9.eq_1
def K132_10:C:=.seq (.pl <| .e 5 5 <|
 .a 5 1 <|
 .g 6 5 1 0 <|
 .a 7 1 <|
 .g 8 7 1 1 <|
 .x 9 (.build [.int .i64 0,.int .i64 0,.slice none 0 0] [(0,1,.v 6),(1,1,.v 8)]) <|
 .o (.pnew 3 (.c (.agg #[.int .i64 0,.int .i64 0,.slice none 0 0])) []) <|
 .o (.pset none 3 0 3 (.v 9)) .done) K132_9
@[simp] def W132_10:=C.w K132_10.eq_1
def B_spec_l5Copy:C:=.seq (.pl <| .e 5 0 <|
 .o (.pnew 1 (.v 0) []) <|
 .o (.pnew 2 (.c (.agg #[.int .i64 0,.int .i64 0,.slice none 0 0])) []) .done) K132_10
@[simp] def WB_spec_l5Copy:=C.w B_spec_l5Copy.eq_1
def R_spec_l5Copy:FIR:=⟨B_spec_l5Copy,5,[(2,some (some 3))]⟩
theorem IR_spec_l5Copy:cfun Tryz.prog H_spec_l5Copy Tryz.f132=some R_spec_l5Copy:=by kernel_rfl
theorem EN_spec_l5Copy:ENT Tryz.prog B_spec_l5Copy [(2,some (some 3))] 1 5 fn_spec_l5Copy:=fun hargs hw=>enter Tryz.func132 rfl IR_spec_l5Copy hargs hw
def H_spec_l5Count:Hint:=⟨[(0,false),(1,false),(2,true),(4,false),(5,false),(6,false)],[[0,3]]⟩
def K149_1:C:=.seq (.pl <| .e 6 1 <|
 .m 6 4 <|
 .m 3 6 .done) (.ret)
@[simp] def W149_1:=C.w K149_1.eq_1
def K149_2:C:=.pl <| .e 6 2 <|
 .m 6 5 <|
 .x 7 (.bin .add (.v 6) (.c (.int .i64 1))) <|
 .m 5 7 .done
@[simp] def W149_2:=C.w K149_2.eq_1
def K149_3:Pl:=.x 15 (.bin .add (.v 6) (.v 14)) <|
 .m 4 15 .done
@[simp] def W149_3:=Pl.w K149_3.eq_1
def K149_4:C:=.seq (.block 1 (.pl <| .e 6 10 <|
 .m 6 4 <|
 .a 7 2 <|
 .g 8 7 2 2 <|
 .m 9 5 <|
 .x 10 (.ia 3 (.v 8) (.v 9)) <|
 .o (.ld (some 11) (.v 10) (some 3)) <|
 .m 12 1 <|
 .x 13 (.bin .sub (.v 12) (.c (.int .i64 1))) <|
 .c 14 (.call fn_spec_l5Count [.v 11,.v 13]) K149_3)) K149_2
@[simp] def W149_4:=C.w K149_4.eq_1
def K149_5:C:=.cond 6 (.v 14) (.skip) (.exit 0)
@[simp] def W149_5:=C.w K149_5.eq_1
def K149_6:C:=.seq (.seq (.pl <| .e 6 9 <|
 .m 6 5 <|
 .a 7 2 <|
 .g 8 7 2 2 <|
 .x 9 (.lenV (.v 8)) <|
 .x 10 (.bin .lss (.v 6) (.v 9)) <|
 .m 11 10 <|
 .y 11 (.px (some 12) (.mv (.v 1))) <|
 .y 11 (.px (some 13) (.bin .gtr (.v 12) (.c (.int .i64 0)))) <|
 .x 14 (.pick (.v 11) (.v 13) (.c (.bool false))) .done) K149_5) K149_4
@[simp] def W149_6:=C.w K149_6.eq_1
def K149_7:C:=.block 0 (.loop 6 [0,3] K149_6)
@[simp] def W149_7:=C.w K149_7.eq_1
def K149_8:C:=.seq (.seq (.pl <| .e 6 0 <|
 .x 5 (.mv (.c (.int .i64 0))) .done) K149_7) K149_1
@[simp] def W149_8:=C.w K149_8.eq_1
def K149_9:C:=.seq (.pl <| .e 6 0 <|
 .x 4 (.mv (.c (.int .i64 1))) .done) K149_8
@[simp] def W149_9:=C.w K149_9.eq_1
def B_spec_l5Count:C:=.seq (.pl <| .e 6 0 <|
 .o (.pnew 2 (.v 0) []) <|
 .x 3 (.mv (.c (.int .i64 0))) .done) K149_9
@[simp] def WB_spec_l5Count:=C.w B_spec_l5Count.eq_1
def R_spec_l5Count:FIR:=⟨B_spec_l5Count,6,[(3,none)]⟩
theorem IR_spec_l5Count:cfun Tryz.prog H_spec_l5Count Tryz.f149=some R_spec_l5Count:=by kernel_rfl
theorem EN_spec_l5Count:ENT Tryz.prog B_spec_l5Count [(3,none)] 2 6 fn_spec_l5Count:=fun hargs hw=>enter Tryz.func149 rfl IR_spec_l5Count hargs hw
def H_spec_l5Dual:Hint:=⟨[(0,false),(2,false),(3,false)],[]⟩
def K151_1:C:=.seq (.pl <| .e 3 0 <|
 .x 1 (.mv (.c (.int .i64 7))) .done) (.ret)
@[simp] def W151_1:=C.w K151_1.eq_1
def K151_2:C:=.seq (.pl <| .e 3 0 <|
 .x 1 (.mv (.c (.int .i64 5))) .done) (.ret)
@[simp] def W151_2:=C.w K151_2.eq_1
def K151_3:C:=.seq (.pl <| .e 3 0 <|
 .x 1 (.mv (.c (.int .i64 4))) .done) (.ret)
@[simp] def W151_3:=C.w K151_3.eq_1
def K151_4:C:=.seq (.pl <| .e 3 0 <|
 .x 1 (.mv (.c (.int .i64 8))) .done) (.ret)
@[simp] def W151_4:=C.w K151_4.eq_1
def K151_5:C:=.cond 3 (.v 4) K151_4 (.skip)
@[simp] def W151_5:=C.w K151_5.eq_1
def K151_6:C:=.seq (.pl <| .e 3 2 <|
 .x 3 (.bin .eql (.v 2) (.c (.int .i64 7))) <|
 .m 4 3 .done) K151_5
@[simp] def W151_6:=C.w K151_6.eq_1
def K151_7:C:=.cond 3 (.v 4) K151_3 K151_6
@[simp] def W151_7:=C.w K151_7.eq_1
def K151_8:C:=.seq (.pl <| .e 3 2 <|
 .x 3 (.bin .eql (.v 2) (.c (.int .i64 5))) <|
 .m 4 3 .done) K151_7
@[simp] def W151_8:=C.w K151_8.eq_1
def K151_9:C:=.cond 3 (.v 4) K151_2 K151_8
@[simp] def W151_9:=C.w K151_9.eq_1
def K151_10:C:=.block 0 (.seq (.pl <| .e 3 2 <|
 .x 3 (.bin .eql (.v 2) (.c (.int .i64 4))) <|
 .m 4 3 .done) K151_9)
@[simp] def W151_10:=C.w K151_10.eq_1
def K151_11:C:=.seq (.seq (.pl <| .e 3 0 <|
 .m 2 0 .done) K151_10) K151_1
@[simp] def W151_11:=C.w K151_11.eq_1
def B_spec_l5Dual:C:=.seq (.pl <| .e 3 0 <|
 .x 1 (.mv (.c (.int .i64 0))) .done) K151_11
@[simp] def WB_spec_l5Dual:=C.w B_spec_l5Dual.eq_1
def R_spec_l5Dual:FIR:=⟨B_spec_l5Dual,3,[(1,none)]⟩
theorem IR_spec_l5Dual:cfun Tryz.prog H_spec_l5Dual Tryz.f151=some R_spec_l5Dual:=by kernel_rfl
theorem EN_spec_l5Dual:ENT Tryz.prog B_spec_l5Dual [(1,none)] 1 3 fn_spec_l5Dual:=fun hargs hw=>enter Tryz.func151 rfl IR_spec_l5Dual hargs hw
def H_spec_l5Find:Hint:=⟨[(0,false),(1,false),(3,true),(4,false),(5,false)],[[1,3]]⟩
def K102_1:C:=.seq (.pl <| .e 5 0 <|
 .x 3 (.mv (.c (.int .i64 (-1)))) .done) (.ret)
@[simp] def W102_1:=C.w K102_1.eq_1
def K102_2:C:=.pl <| .e 5 2 <|
 .m 5 4 <|
 .x 6 (.bin .add (.v 5) (.c (.int .i64 1))) <|
 .m 4 6 .done
@[simp] def W102_2:=C.w K102_2.eq_1
def K102_3:C:=.seq (.pl <| .e 5 1 <|
 .m 5 4 <|
 .m 3 5 .done) (.ret)
@[simp] def W102_3:=C.w K102_3.eq_1
def K102_4:C:=.cond 5 (.v 10) K102_3 (.skip)
@[simp] def W102_4:=C.w K102_4.eq_1
def K102_5:C:=.seq (.block 1 (.seq (.pl <| .e 5 6 <|
 .m 5 0 <|
 .m 6 4 <|
 .x 7 (.ia 3 (.v 5) (.v 6)) <|
 .o (.ld (some 8) (.v 7) (some 3)) <|
 .o (.pget (some 9) none 2 0 (some 3)) <|
 .c 10 (.call fn_spec_FormulaSame [.v 8,.v 9]) .done) K102_4)) K102_2
@[simp] def W102_5:=C.w K102_5.eq_1
def K102_6:C:=.cond 5 (.v 8) (.skip) (.exit 0)
@[simp] def W102_6:=C.w K102_6.eq_1
def K102_7:C:=.seq (.seq (.pl <| .e 5 4 <|
 .m 5 4 <|
 .m 6 0 <|
 .x 7 (.lenV (.v 6)) <|
 .x 8 (.bin .lss (.v 5) (.v 7)) .done) K102_6) K102_5
@[simp] def W102_7:=C.w K102_7.eq_1
def K102_8:C:=.block 0 (.loop 5 [1,3] K102_7)
@[simp] def W102_8:=C.w K102_8.eq_1
def K102_9:C:=.seq (.seq (.pl <| .e 5 0 <|
 .x 4 (.mv (.c (.int .i64 0))) .done) K102_8) K102_1
@[simp] def W102_9:=C.w K102_9.eq_1
def B_spec_l5Find:C:=.seq (.pl <| .e 5 0 <|
 .o (.pnew 2 (.v 1) []) <|
 .x 3 (.mv (.c (.int .i64 0))) .done) K102_9
@[simp] def WB_spec_l5Find:=C.w B_spec_l5Find.eq_1
def R_spec_l5Find:FIR:=⟨B_spec_l5Find,5,[(3,none)]⟩
theorem IR_spec_l5Find:cfun Tryz.prog H_spec_l5Find Tryz.f102=some R_spec_l5Find:=by kernel_rfl
theorem EN_spec_l5Find:ENT Tryz.prog B_spec_l5Find [(3,none)] 2 5 fn_spec_l5Find:=fun hargs hw=>enter Tryz.func102 rfl IR_spec_l5Find hargs hw
def H_spec_l5Not:Hint:=⟨[(0,false),(1,true),(2,true)],[]⟩
def K150_1:Pl:=.x 5 (.build [.int .i64 0,.int .i64 0,.slice none 0 0] [(0,1,.c (.int .i64 3)),(2,1,.v 4)]) <|
 .o (.pset none 2 0 3 (.v 5)) .done
@[simp] def W150_1:=Pl.w K150_1.eq_1
def K150_2:C:=.seq (.pl <| .e 3 3 <|
 .o (.pget (some 3) none 1 0 (some 3)) <|
 .c 4 (.bls 3 1 [.int .i64 0,.int .i64 0,.slice none 0 0] [(0,3,.v 3)]) K150_1) (.ret)
@[simp] def W150_2:=C.w K150_2.eq_1
def B_spec_l5Not:C:=.seq (.pl <| .e 3 0 <|
 .o (.pnew 1 (.v 0) []) <|
 .o (.pnew 2 (.c (.agg #[.int .i64 0,.int .i64 0,.slice none 0 0])) []) .done) K150_2
@[simp] def WB_spec_l5Not:=C.w B_spec_l5Not.eq_1
def R_spec_l5Not:FIR:=⟨B_spec_l5Not,3,[(2,some (some 3))]⟩
theorem IR_spec_l5Not:cfun Tryz.prog H_spec_l5Not Tryz.f150=some R_spec_l5Not:=by kernel_rfl
theorem EN_spec_l5Not:ENT Tryz.prog B_spec_l5Not [(2,some (some 3))] 1 3 fn_spec_l5Not:=fun hargs hw=>enter Tryz.func150 rfl IR_spec_l5Not hargs hw
def H_spec_l5Push:Hint:=⟨[(0,false),(1,false),(2,true),(4,true),(5,true),(6,false),(8,false),(9,false),(43,false)],[]⟩
def K100_1:Pl:=.x 23 (.build [.int .i64 0,.int .i64 0,.slice none 0 0] [(0,1,.v 9),(2,1,.v 22)]) <|
 .o (.pset none 3 0 3 (.v 23)) .done
@[simp] def W100_1:=Pl.w K100_1.eq_1
def K100_2:Pl:=.c 22 (.bls 3 2 [.int .i64 0,.int .i64 0,.slice none 0 0] [(0,3,.v 15),(3,3,.v 21)]) K100_1
@[simp] def W100_2:=Pl.w K100_2.eq_1
def K100_3:Pl:=.st (.re 19 (.v 18) (some 3) none) <|
 .c 21 (.call fn_spec_l5Push [.v 19,.v 20]) K100_2
@[simp] def W100_3:=Pl.w K100_3.eq_1
def K100_4:C:=.seq (.pl <| .e 9 15 <|
 .m 9 5 <|
 .a 10 2 <|
 .g 11 10 2 2 <|
 .x 12 (.ia 3 (.v 11) (.c (.int .i64 0))) <|
 .o (.ld (some 13) (.v 12) (some 3)) <|
 .m 14 1 <|
 .a 16 2 <|
 .g 17 16 2 2 <|
 .x 18 (.ia 3 (.v 17) (.c (.int .i64 1))) <|
 .o (.ld (some 19) (.v 18) (some 3)) <|
 .m 20 1 <|
 .c 15 (.call fn_spec_l5Push [.v 13,.v 14]) K100_3) (.ret)
@[simp] def W100_4:=C.w K100_4.eq_1
def K100_5:Pl:=.m 5 10 .done
@[simp] def W100_5:=Pl.w K100_5.eq_1
def K100_6:C:=.pl <| .e 9 2 <|
 .m 9 5 <|
 .c 10 (.call fn_spec_l5Dual [.v 9]) K100_5
@[simp] def W100_6:=C.w K100_6.eq_1
def K100_7:C:=.cond 9 (.v 9) K100_6 (.skip)
@[simp] def W100_7:=C.w K100_7.eq_1
def K100_8:C:=.seq (.seq (.pl <| .e 9 1 <|
 .m 9 1 .done) K100_7) K100_4
@[simp] def W100_8:=C.w K100_8.eq_1
def K100_9:C:=.seq (.pl <| .e 9 2 <|
 .a 9 2 <|
 .g 10 9 2 0 <|
 .m 5 10 .done) K100_8
@[simp] def W100_9:=C.w K100_9.eq_1
def K100_10:C:=.seq (.pl <| .e 9 5 <|
 .a 9 2 <|
 .g 10 9 2 0 <|
 .a 11 2 <|
 .g 12 11 2 1 <|
 .x 13 (.build [.int .i64 0,.int .i64 0,.slice none 0 0] [(0,1,.v 10),(1,1,.v 12)]) <|
 .o (.pset none 3 0 3 (.v 13)) .done) (.ret)
@[simp] def W100_10:=C.w K100_10.eq_1
def K100_11:Pl:=.o (.pset none 3 0 3 (.v 14)) .done
@[simp] def W100_11:=Pl.w K100_11.eq_1
def K100_12:C:=.seq (.pl <| .e 9 6 <|
 .a 9 2 <|
 .g 10 9 2 0 <|
 .a 11 2 <|
 .g 12 11 2 1 <|
 .x 13 (.build [.int .i64 0,.int .i64 0,.slice none 0 0] [(0,1,.v 10),(1,1,.v 12)]) <|
 .c 14 (.call fn_spec_l5Not [.v 13]) K100_11) (.ret)
@[simp] def W100_12:=C.w K100_12.eq_1
def K100_13:C:=.cond 9 (.v 9) K100_12 (.skip)
@[simp] def W100_13:=C.w K100_13.eq_1
def K100_14:C:=.seq (.seq (.pl <| .e 9 1 <|
 .m 9 1 .done) K100_13) K100_10
@[simp] def W100_14:=C.w K100_14.eq_1
def K100_15:Pl:=.o (.pset none 3 0 3 (.v 15)) .done
@[simp] def W100_15:=Pl.w K100_15.eq_1
def K100_16:C:=.seq (.pl <| .e 9 7 <|
 .a 9 2 <|
 .g 10 9 2 2 <|
 .x 11 (.ia 3 (.v 10) (.c (.int .i64 0))) <|
 .o (.ld (some 12) (.v 11) (some 3)) <|
 .m 13 1 <|
 .x 14 (.un .not (.v 13)) <|
 .c 15 (.call fn_spec_l5Push [.v 12,.v 14]) K100_15) (.ret)
@[simp] def W100_16:=C.w K100_16.eq_1
def K100_17:Pl:=.x 16 (.build [.int .i64 0,.int .i64 0,.slice none 0 0] [(0,1,.c (.int .i64 6)),(2,1,.v 15)]) <|
 .o (.pset none 3 0 3 (.v 16)) .done
@[simp] def W100_17:=Pl.w K100_17.eq_1
def K100_18:Pl:=.c 15 (.bls 3 1 [.int .i64 0,.int .i64 0,.slice none 0 0] [(0,3,.v 14)]) K100_17
@[simp] def W100_18:=Pl.w K100_18.eq_1
def K100_19:C:=.seq (.pl <| .e 9 8 <|
 .a 9 2 <|
 .g 10 9 2 2 <|
 .x 11 (.ia 3 (.v 10) (.c (.int .i64 0))) <|
 .o (.ld (some 12) (.v 11) (some 3)) <|
 .m 13 1 <|
 .c 14 (.call fn_spec_l5Push [.v 12,.v 13]) K100_18) (.ret)
@[simp] def W100_19:=C.w K100_19.eq_1
def K100_20:Pl:=.x 13 (.build [.int .i64 0,.int .i64 0,.slice none 0 0] [(0,1,.c (.int .i64 8)),(2,1,.v 12)]) <|
 .o (.pset none 3 0 3 (.v 13)) .done
@[simp] def W100_20:=Pl.w K100_20.eq_1
def K100_21:Pl:=.c 12 (.bls 3 2 [.int .i64 0,.int .i64 0,.slice none 0 0] [(0,3,.v 10),(3,3,.v 11)]) K100_20
@[simp] def W100_21:=Pl.w K100_21.eq_1
def K100_22:Pl:=.c 10 (.call fn_spec_l5Not [.v 9]) K100_21
@[simp] def W100_22:=Pl.w K100_22.eq_1
def K100_23:C:=.seq (.pl <| .e 9 5 <|
 .o (.pget (some 11) none 4 0 (some 3)) <|
 .c 9 (.call fn_spec_l5True []) K100_22) (.ret)
@[simp] def W100_23:=C.w K100_23.eq_1
def K100_24:Pl:=.x 12 (.build [.int .i64 0,.int .i64 0,.slice none 0 0] [(0,1,.c (.int .i64 7)),(2,1,.v 11)]) <|
 .o (.pset none 3 0 3 (.v 12)) .done
@[simp] def W100_24:=Pl.w K100_24.eq_1
def K100_25:Pl:=.c 11 (.bls 3 2 [.int .i64 0,.int .i64 0,.slice none 0 0] [(0,3,.v 9),(3,3,.v 10)]) K100_24
@[simp] def W100_25:=Pl.w K100_25.eq_1
def K100_26:C:=.seq (.pl <| .e 9 4 <|
 .o (.pget (some 10) none 4 0 (some 3)) <|
 .c 9 (.call fn_spec_l5True []) K100_25) (.ret)
@[simp] def W100_26:=C.w K100_26.eq_1
def K100_27:C:=.cond 9 (.v 13) K100_26 (.skip)
@[simp] def W100_27:=C.w K100_27.eq_1
def K100_28:C:=.seq (.seq (.pl <| .e 9 5 <|
 .a 9 2 <|
 .g 10 9 2 0 <|
 .x 11 (.bin .eql (.v 10) (.c (.int .i64 9))) <|
 .m 12 1 <|
 .x 13 (.eqb true (.v 11) (.v 12)) .done) K100_27) K100_23
@[simp] def W100_28:=C.w K100_28.eq_1
def K100_29:Pl:=.o (.pnew 4 (.c (.agg #[.int .i64 0,.int .i64 0,.slice none 0 0])) []) <|
 .o (.pset none 4 0 3 (.v 14)) .done
@[simp] def W100_29:=Pl.w K100_29.eq_1
def K100_30:C:=.seq (.pl <| .e 9 6 <|
 .a 9 2 <|
 .g 10 9 2 2 <|
 .x 11 (.ia 3 (.v 10) (.c (.int .i64 0))) <|
 .o (.ld (some 12) (.v 11) (some 3)) <|
 .m 13 1 <|
 .c 14 (.call fn_spec_l5Push [.v 12,.v 13]) K100_29) K100_28
@[simp] def W100_30:=C.w K100_30.eq_1
def K100_31:C:=.cond 9 (.v 8) K100_30 (.skip)
@[simp] def W100_31:=C.w K100_31.eq_1
def K100_32:C:=.pl <| .e 9 1 <|
 .x 9 (.bin .eql (.v 6) (.c (.int .i64 10))) <|
 .m 8 9 .done
@[simp] def W100_32:=C.w K100_32.eq_1
def K100_33:C:=.cond 9 (.v 8) (.skip) K100_32
@[simp] def W100_33:=C.w K100_33.eq_1
def K100_34:C:=.seq (.seq (.pl <| .e 9 1 <|
 .x 9 (.bin .eql (.v 6) (.c (.int .i64 9))) <|
 .m 8 9 .done) K100_33) K100_31
@[simp] def W100_34:=C.w K100_34.eq_1
def K100_35:C:=.cond 9 (.v 10) K100_19 K100_34
@[simp] def W100_35:=C.w K100_35.eq_1
def K100_36:C:=.seq (.pl <| .e 9 2 <|
 .x 9 (.bin .eql (.v 6) (.c (.int .i64 6))) <|
 .m 10 9 .done) K100_35
@[simp] def W100_36:=C.w K100_36.eq_1
def K100_37:C:=.cond 9 (.v 10) K100_16 K100_36
@[simp] def W100_37:=C.w K100_37.eq_1
def K100_38:C:=.seq (.pl <| .e 9 2 <|
 .x 9 (.bin .eql (.v 6) (.c (.int .i64 3))) <|
 .m 10 9 .done) K100_37
@[simp] def W100_38:=C.w K100_38.eq_1
def K100_39:C:=.cond 9 (.v 7) K100_14 K100_38
@[simp] def W100_39:=C.w K100_39.eq_1
def K100_40:C:=.pl <| .e 9 1 <|
 .x 9 (.bin .eql (.v 6) (.c (.int .i64 2))) <|
 .m 7 9 .done
@[simp] def W100_40:=C.w K100_40.eq_1
def K100_41:C:=.cond 9 (.v 7) (.skip) K100_40
@[simp] def W100_41:=C.w K100_41.eq_1
def K100_42:C:=.block 0 (.seq (.seq (.pl <| .e 9 1 <|
 .x 9 (.bin .eql (.v 6) (.c (.int .i64 1))) <|
 .m 7 9 .done) K100_41) K100_39)
@[simp] def W100_42:=C.w K100_42.eq_1
def K100_43:C:=.seq (.seq (.pl <| .e 9 1 <|
 .a 9 2 <|
 .g 6 9 2 0 .done) K100_42) K100_9
@[simp] def W100_43:=C.w K100_43.eq_1
def B_spec_l5Push:C:=.seq (.pl <| .e 9 0 <|
 .o (.pnew 2 (.v 0) []) <|
 .o (.pnew 3 (.c (.agg #[.int .i64 0,.int .i64 0,.slice none 0 0])) []) .done) K100_43
@[simp] def WB_spec_l5Push:=C.w B_spec_l5Push.eq_1
def R_spec_l5Push:FIR:=⟨B_spec_l5Push,9,[(3,some (some 3))]⟩
theorem IR_spec_l5Push:cfun Tryz.prog H_spec_l5Push Tryz.f100=some R_spec_l5Push:=by kernel_rfl
theorem EN_spec_l5Push:ENT Tryz.prog B_spec_l5Push [(3,some (some 3))] 2 9 fn_spec_l5Push:=fun hargs hw=>enter Tryz.func100 rfl IR_spec_l5Push hargs hw
def H_spec_l5Shape:Hint:=⟨[(0,false),(1,false),(2,true),(4,false),(5,false)],[[0,3]]⟩
def K148_1:C:=.seq (.pl <| .e 5 0 <|
 .x 3 (.mv (.c (.bool true))) .done) (.ret)
@[simp] def W148_1:=C.w K148_1.eq_1
def K148_2:C:=.pl <| .e 5 2 <|
 .m 5 4 <|
 .x 6 (.bin .add (.v 5) (.c (.int .i64 1))) <|
 .m 4 6 .done
@[simp] def W148_2:=C.w K148_2.eq_1
def K148_3:C:=.seq (.pl <| .e 5 0 <|
 .x 3 (.mv (.c (.bool false))) .done) (.ret)
@[simp] def W148_3:=C.w K148_3.eq_1
def K148_4:C:=.cond 5 (.v 13) K148_3 (.skip)
@[simp] def W148_4:=C.w K148_4.eq_1
def K148_5:Pl:=.x 13 (.un .not (.v 12)) .done
@[simp] def W148_5:=Pl.w K148_5.eq_1
def K148_6:C:=.seq (.block 1 (.seq (.pl <| .e 5 9 <|
 .a 5 2 <|
 .g 6 5 2 2 <|
 .m 7 4 <|
 .x 8 (.ia 3 (.v 6) (.v 7)) <|
 .o (.ld (some 9) (.v 8) (some 3)) <|
 .m 10 1 <|
 .x 11 (.bin .sub (.v 10) (.c (.int .i64 1))) <|
 .c 12 (.call fn_spec_l5Shape [.v 9,.v 11]) K148_5) K148_4)) K148_2
@[simp] def W148_6:=C.w K148_6.eq_1
def K148_7:C:=.cond 5 (.v 9) (.skip) (.exit 0)
@[simp] def W148_7:=C.w K148_7.eq_1
def K148_8:C:=.seq (.seq (.pl <| .e 5 5 <|
 .m 5 4 <|
 .a 6 2 <|
 .g 7 6 2 2 <|
 .x 8 (.lenV (.v 7)) <|
 .x 9 (.bin .lss (.v 5) (.v 8)) .done) K148_7) K148_6
@[simp] def W148_8:=C.w K148_8.eq_1
def K148_9:C:=.block 0 (.loop 5 [0,3] K148_8)
@[simp] def W148_9:=C.w K148_9.eq_1
def K148_10:C:=.seq (.seq (.pl <| .e 5 0 <|
 .x 4 (.mv (.c (.int .i64 0))) .done) K148_9) K148_1
@[simp] def W148_10:=C.w K148_10.eq_1
def K148_11:C:=.seq (.pl <| .e 5 0 <|
 .x 3 (.mv (.c (.bool false))) .done) (.ret)
@[simp] def W148_11:=C.w K148_11.eq_1
def K148_12:C:=.cond 5 (.v 22) K148_11 (.skip)
@[simp] def W148_12:=C.w K148_12.eq_1
def K148_13:C:=.seq (.seq (.pl <| .e 5 18 <|
 .a 5 2 <|
 .g 6 5 2 1 <|
 .x 7 (.bin .lss (.v 6) (.c (.int .i64 0))) <|
 .m 8 7 <|
 .n 8 (.als 9 none 2) <|
 .n 8 (.pget (some 10) (some 9) 2 1 none) <|
 .n 8 (.px (some 11) (.bin .geq (.v 10) (.c (.int .i64 3)))) <|
 .x 12 (.pick (.v 8) (.c (.bool true)) (.v 11)) <|
 .m 13 12 <|
 .n 13 (.als 14 none 2) <|
 .n 13 (.pget (some 15) (some 14) 2 0 none) <|
 .n 13 (.px (some 16) (.bin .neq (.v 15) (.c (.int .i64 2)))) <|
 .n 13 (.px (some 17) (.mv (.v 16))) <|
 .y 17 (.als 18 none 2) <|
 .y 17 (.pget (some 19) (some 18) 2 1 none) <|
 .y 17 (.px (some 20) (.bin .neq (.v 19) (.c (.int .i64 0)))) <|
 .n 13 (.px (some 21) (.pick (.v 17) (.v 20) (.c (.bool false)))) <|
 .x 22 (.pick (.v 13) (.c (.bool true)) (.v 21)) .done) K148_12) K148_10
@[simp] def W148_13:=C.w K148_13.eq_1
def K148_14:C:=.seq (.pl <| .e 5 0 <|
 .x 3 (.mv (.c (.bool false))) .done) (.ret)
@[simp] def W148_14:=C.w K148_14.eq_1
def K148_15:C:=.cond 5 (.v 15) K148_14 (.skip)
@[simp] def W148_15:=C.w K148_15.eq_1
def K148_16:Pl:=.n 7 (.px (some 14) (.bin .neq (.v 10) (.v 13))) <|
 .x 15 (.pick (.v 7) (.c (.bool true)) (.v 14)) .done
@[simp] def W148_16:=Pl.w K148_16.eq_1
def K148_17:C:=.seq (.seq (.pl <| .e 5 11 <|
 .m 5 1 <|
 .x 6 (.bin .lss (.v 5) (.c (.int .i64 1))) <|
 .m 7 6 <|
 .n 7 (.als 8 none 2) <|
 .n 7 (.pget (some 9) (some 8) 2 2 none) <|
 .n 7 (.px (some 10) (.lenV (.v 9))) <|
 .n 7 (.als 11 none 2) <|
 .n 7 (.pget (some 12) (some 11) 2 0 none) <|
 .st (.act (some (.v 7,false)) (.ex (some 13) (.call fn_spec_l5Arity [.v 12]))) K148_16) K148_15) K148_13
@[simp] def W148_17:=C.w K148_17.eq_1
def B_spec_l5Shape:C:=.seq (.pl <| .e 5 0 <|
 .o (.pnew 2 (.v 0) []) <|
 .x 3 (.mv (.c (.bool false))) .done) K148_17
@[simp] def WB_spec_l5Shape:=C.w B_spec_l5Shape.eq_1
def R_spec_l5Shape:FIR:=⟨B_spec_l5Shape,5,[(3,none)]⟩
theorem IR_spec_l5Shape:cfun Tryz.prog H_spec_l5Shape Tryz.f148=some R_spec_l5Shape:=by kernel_rfl
theorem EN_spec_l5Shape:ENT Tryz.prog B_spec_l5Shape [(3,none)] 2 5 fn_spec_l5Shape:=fun hargs hw=>enter Tryz.func148 rfl IR_spec_l5Shape hargs hw
def H_spec_l5Subs:Hint:=⟨[(0,false),(1,false),(3,true),(4,false),(5,false)],[[1,3]]⟩
def K97_1:C:=.seq (.pl <| .e 5 1 <|
 .m 5 0 <|
 .m 3 5 .done) (.ret)
@[simp] def W97_1:=C.w K97_1.eq_1
def K97_2:Pl:=.m 0 9 .done
@[simp] def W97_2:=Pl.w K97_2.eq_1
def K97_3:Pl:=.o (.psl 8 [.int .i64 0,.int .i64 0,.slice none 0 0] [(0,3,.v 7)]) <|
 .c 9 (.app 40 3 [.int .i64 0,.int .i64 0,.slice none 0 0] (.o (.v 5)) (.p 1 8)) K97_2
@[simp] def W97_3:=Pl.w K97_3.eq_1
def K97_4:C:=.pl <| .e 5 5 <|
 .m 5 0 <|
 .o (.pget (some 6) none 2 0 (some 3)) <|
 .c 7 (.call fn_spec_l5Copy [.v 6]) K97_3
@[simp] def W97_4:=C.w K97_4.eq_1
def K97_5:C:=.cond 5 (.v 8) K97_4 (.skip)
@[simp] def W97_5:=C.w K97_5.eq_1
def K97_6:Pl:=.x 8 (.bin .lss (.v 7) (.c (.int .i64 0))) .done
@[simp] def W97_6:=Pl.w K97_6.eq_1
def K97_7:C:=.seq (.seq (.pl <| .e 5 4 <|
 .m 5 0 <|
 .o (.pget (some 6) none 2 0 (some 3)) <|
 .c 7 (.call fn_spec_l5Find [.v 5,.v 6]) K97_6) K97_5) K97_1
@[simp] def W97_7:=C.w K97_7.eq_1
def K97_8:C:=.pl <| .e 5 2 <|
 .m 5 4 <|
 .x 6 (.bin .add (.v 5) (.c (.int .i64 1))) <|
 .m 4 6 .done
@[simp] def W97_8:=C.w K97_8.eq_1
def K97_9:Pl:=.m 0 11 .done
@[simp] def W97_9:=Pl.w K97_9.eq_1
def K97_10:C:=.seq (.block 1 (.pl <| .e 5 7 <|
 .m 5 0 <|
 .a 6 2 <|
 .g 7 6 2 2 <|
 .m 8 4 <|
 .x 9 (.ia 3 (.v 7) (.v 8)) <|
 .o (.ld (some 10) (.v 9) (some 3)) <|
 .c 11 (.call fn_spec_l5Subs [.v 5,.v 10]) K97_9)) K97_8
@[simp] def W97_10:=C.w K97_10.eq_1
def K97_11:C:=.cond 5 (.v 9) (.skip) (.exit 0)
@[simp] def W97_11:=C.w K97_11.eq_1
def K97_12:C:=.seq (.seq (.pl <| .e 5 5 <|
 .m 5 4 <|
 .a 6 2 <|
 .g 7 6 2 2 <|
 .x 8 (.lenV (.v 7)) <|
 .x 9 (.bin .lss (.v 5) (.v 8)) .done) K97_11) K97_10
@[simp] def W97_12:=C.w K97_12.eq_1
def K97_13:C:=.block 0 (.loop 5 [1,3] K97_12)
@[simp] def W97_13:=C.w K97_13.eq_1
def K97_14:C:=.seq (.seq (.pl <| .e 5 0 <|
 .x 4 (.mv (.c (.int .i64 0))) .done) K97_13) K97_7
@[simp] def W97_14:=C.w K97_14.eq_1
def B_spec_l5Subs:C:=.seq (.pl <| .e 5 0 <|
 .o (.pnew 2 (.v 1) []) <|
 .x 3 (.mv (.c (.slice none 0 0))) .done) K97_14
@[simp] def WB_spec_l5Subs:=C.w B_spec_l5Subs.eq_1
def R_spec_l5Subs:FIR:=⟨B_spec_l5Subs,5,[(3,none)]⟩
theorem IR_spec_l5Subs:cfun Tryz.prog H_spec_l5Subs Tryz.f97=some R_spec_l5Subs:=by kernel_rfl
theorem EN_spec_l5Subs:ENT Tryz.prog B_spec_l5Subs [(3,none)] 2 5 fn_spec_l5Subs:=fun hargs hw=>enter Tryz.func97 rfl IR_spec_l5Subs hargs hw
def H_spec_l5True:Hint:=⟨[(0,true)],[]⟩
def K133_1:C:=.seq (.pl <| .e 1 1 <|
 .x 1 (.build [.int .i64 0,.int .i64 0,.slice none 0 0] [(0,1,.c (.int .i64 1))]) <|
 .o (.pset none 0 0 3 (.v 1)) .done) (.ret)
@[simp] def W133_1:=C.w K133_1.eq_1
def B_spec_l5True:C:=.seq (.pl <| .e 1 0 <|
 .o (.pnew 0 (.c (.agg #[.int .i64 0,.int .i64 0,.slice none 0 0])) []) .done) K133_1
@[simp] def WB_spec_l5True:=C.w B_spec_l5True.eq_1
def R_spec_l5True:FIR:=⟨B_spec_l5True,1,[(0,some (some 3))]⟩
theorem IR_spec_l5True:cfun Tryz.prog H_spec_l5True Tryz.f133=some R_spec_l5True:=by kernel_rfl
theorem EN_spec_l5True:ENT Tryz.prog B_spec_l5True [(0,some (some 3))] 0 1 fn_spec_l5True:=fun hargs hw=>enter Tryz.func133 rfl IR_spec_l5True hargs hw
def H_spec_l6Has:Hint:=⟨[(0,false),(1,false),(4,false)],[]⟩
def K101_1:C:=.seq (.pl <| .e 3 6 <|
 .m 3 0 <|
 .m 4 1 <|
 .x 5 (.conv .u64 (.v 4)) <|
 .x 6 (.bin .shr (.v 3) (.v 5)) <|
 .x 7 (.bin .and (.v 6) (.c (.int .i64 1))) <|
 .x 8 (.bin .eql (.v 7) (.c (.int .i64 1))) <|
 .m 2 8 .done) (.ret)
@[simp] def W101_1:=C.w K101_1.eq_1
def B_spec_l6Has:C:=.seq (.pl <| .e 3 0 <|
 .x 2 (.mv (.c (.bool false))) .done) K101_1
@[simp] def WB_spec_l6Has:=C.w B_spec_l6Has.eq_1
def R_spec_l6Has:FIR:=⟨B_spec_l6Has,3,[(2,none)]⟩
theorem IR_spec_l6Has:cfun Tryz.prog H_spec_l6Has Tryz.f101=some R_spec_l6Has:=by kernel_rfl
theorem EN_spec_l6Has:ENT Tryz.prog B_spec_l6Has [(2,none)] 2 3 fn_spec_l6Has:=fun hargs hw=>enter Tryz.func101 rfl IR_spec_l6Has hargs hw
def H_spec_l7Basic:Hint:=⟨[(0,false),(1,true),(2,false)],[]⟩
def K98_1:C:=.seq (.pl <| .e 3 18 <|
 .a 3 1 <|
 .g 4 3 1 0 <|
 .x 5 (.bin .eql (.v 4) (.c (.int .i64 2))) <|
 .m 6 5 <|
 .n 6 (.als 7 none 1) <|
 .n 6 (.pget (some 8) (some 7) 1 0 none) <|
 .n 6 (.px (some 9) (.bin .eql (.v 8) (.c (.int .i64 6)))) <|
 .x 10 (.pick (.v 6) (.c (.bool true)) (.v 9)) <|
 .m 11 10 <|
 .n 11 (.als 12 none 1) <|
 .n 11 (.pget (some 13) (some 12) 1 0 none) <|
 .n 11 (.px (some 14) (.bin .eql (.v 13) (.c (.int .i64 7)))) <|
 .x 15 (.pick (.v 11) (.c (.bool true)) (.v 14)) <|
 .m 16 15 <|
 .n 16 (.als 17 none 1) <|
 .n 16 (.pget (some 18) (some 17) 1 0 none) <|
 .n 16 (.px (some 19) (.bin .eql (.v 18) (.c (.int .i64 8)))) <|
 .x 20 (.pick (.v 16) (.c (.bool true)) (.v 19)) <|
 .m 2 20 .done) (.ret)
@[simp] def W98_1:=C.w K98_1.eq_1
def B_spec_l7Basic:C:=.seq (.pl <| .e 3 0 <|
 .o (.pnew 1 (.v 0) []) <|
 .x 2 (.mv (.c (.bool false))) .done) K98_1
@[simp] def WB_spec_l7Basic:=C.w B_spec_l7Basic.eq_1
def R_spec_l7Basic:FIR:=⟨B_spec_l7Basic,3,[(2,none)]⟩
theorem IR_spec_l7Basic:cfun Tryz.prog H_spec_l7Basic Tryz.f98=some R_spec_l7Basic:=by kernel_rfl
theorem EN_spec_l7Basic:ENT Tryz.prog B_spec_l7Basic [(2,none)] 1 3 fn_spec_l7Basic:=fun hargs hw=>enter Tryz.func98 rfl IR_spec_l7Basic hargs hw
def H_spec_l7Follows:Hint:=⟨[(0,false),(1,false),(2,false),(6,false),(7,false),(8,true),(9,false),(10,false),(26,false)],[[3,5,6,7,8]]⟩
def K50_1:C:=.seq (.pl <| .e 9 0 <|
 .x 3 (.mv (.c (.bool true))) .done) (.ret)
@[simp] def W50_1:=C.w K50_1.eq_1
def K50_2:C:=.pl <| .e 9 2 <|
 .m 9 4 <|
 .x 10 (.bin .add (.v 9) (.c (.int .i64 1))) <|
 .m 4 10 .done
@[simp] def W50_2:=C.w K50_2.eq_1
def K50_3:C:=.seq (.pl <| .e 9 0 <|
 .x 3 (.mv (.c (.bool false))) .done) (.ret)
@[simp] def W50_3:=C.w K50_3.eq_1
def K50_4:C:=.cond 9 (.v 11) K50_3 (.skip)
@[simp] def W50_4:=C.w K50_4.eq_1
def K50_5:C:=.seq (.pl <| .e 9 3 <|
 .m 9 7 <|
 .m 10 6 <|
 .x 11 (.eqb true (.v 9) (.v 10)) .done) K50_4
@[simp] def W50_5:=C.w K50_5.eq_1
def K50_6:Pl:=.m 7 15 .done
@[simp] def W50_6:=Pl.w K50_6.eq_1
def K50_7:C:=.pl <| .e 9 7 <|
 .m 9 0 <|
 .m 10 2 <|
 .a 11 5 <|
 .g 12 11 5 2 <|
 .x 13 (.ia 3 (.v 12) (.c (.int .i64 0))) <|
 .o (.ld (some 14) (.v 13) (some 3)) <|
 .c 15 (.call fn_spec_l7Value [.v 9,.v 10,.v 14]) K50_6
@[simp] def W50_7:=C.w K50_7.eq_1
def K50_8:Pl:=.n 16 (.px (some 28) (.pick (.v 24) (.v 27) (.c (.bool false)))) <|
 .x 29 (.pick (.v 16) (.c (.bool true)) (.v 28)) <|
 .m 7 29 .done
@[simp] def W50_8:=Pl.w K50_8.eq_1
def K50_9:Pl:=.n 16 (.px (some 24) (.mv (.v 23))) <|
 .y 24 (.px (some 25) (.mv (.v 2))) <|
 .y 24 (.px (some 26) (.mv (.v 4))) <|
 .st (.act (some (.v 24,true)) (.ex (some 27) (.call fn_spec_l6Has [.v 25,.v 26]))) K50_8
@[simp] def W50_9:=Pl.w K50_9.eq_1
def K50_10:Pl:=.m 16 15 <|
 .n 16 (.px (some 17) (.mv (.v 0))) <|
 .n 16 (.px (some 18) (.mv (.v 1))) <|
 .n 16 (.als 19 none 5) <|
 .n 16 (.pget (some 20) (some 19) 5 2 none) <|
 .n 16 (.px (some 21) (.ia 3 (.v 20) (.c (.int .i64 0)))) <|
 .n 16 (.ld (some 22) (.v 21) (some 3)) <|
 .st (.act (some (.v 16,false)) (.ex (some 23) (.call fn_spec_l7Value [.v 17,.v 18,.v 22]))) K50_9
@[simp] def W50_10:=Pl.w K50_10.eq_1
def K50_11:C:=.pl <| .e 9 21 <|
 .m 9 0 <|
 .m 10 1 <|
 .a 11 5 <|
 .g 12 11 5 2 <|
 .x 13 (.ia 3 (.v 12) (.c (.int .i64 1))) <|
 .o (.ld (some 14) (.v 13) (some 3)) <|
 .c 15 (.call fn_spec_l7Value [.v 9,.v 10,.v 14]) K50_10
@[simp] def W50_11:=C.w K50_11.eq_1
def K50_12:Pl:=.y 16 (.px (some 28) (.pick (.v 24) (.c (.bool true)) (.v 27))) <|
 .x 29 (.pick (.v 16) (.v 28) (.c (.bool false))) <|
 .m 7 29 .done
@[simp] def W50_12:=Pl.w K50_12.eq_1
def K50_13:Pl:=.y 16 (.px (some 24) (.mv (.v 23))) <|
 .n 24 (.px (some 25) (.mv (.v 2))) <|
 .n 24 (.px (some 26) (.mv (.v 4))) <|
 .st (.act (some (.v 24,false)) (.ex (some 27) (.call fn_spec_l6Has [.v 25,.v 26]))) K50_12
@[simp] def W50_13:=Pl.w K50_13.eq_1
def K50_14:Pl:=.m 16 15 <|
 .y 16 (.px (some 17) (.mv (.v 0))) <|
 .y 16 (.px (some 18) (.mv (.v 1))) <|
 .y 16 (.als 19 none 5) <|
 .y 16 (.pget (some 20) (some 19) 5 2 none) <|
 .y 16 (.px (some 21) (.ia 3 (.v 20) (.c (.int .i64 0)))) <|
 .y 16 (.ld (some 22) (.v 21) (some 3)) <|
 .st (.act (some (.v 16,true)) (.ex (some 23) (.call fn_spec_l7Value [.v 17,.v 18,.v 22]))) K50_13
@[simp] def W50_14:=Pl.w K50_14.eq_1
def K50_15:C:=.pl <| .e 9 21 <|
 .m 9 0 <|
 .m 10 1 <|
 .a 11 5 <|
 .g 12 11 5 2 <|
 .x 13 (.ia 3 (.v 12) (.c (.int .i64 1))) <|
 .o (.ld (some 14) (.v 13) (some 3)) <|
 .c 15 (.call fn_spec_l7Value [.v 9,.v 10,.v 14]) K50_14
@[simp] def W50_15:=C.w K50_15.eq_1
def K50_16:C:=.cond 9 (.v 10) K50_15 (.skip)
@[simp] def W50_16:=C.w K50_16.eq_1
def K50_17:C:=.seq (.pl <| .e 9 2 <|
 .x 9 (.bin .eql (.v 8) (.c (.int .i64 8))) <|
 .m 10 9 .done) K50_16
@[simp] def W50_17:=C.w K50_17.eq_1
def K50_18:C:=.cond 9 (.v 10) K50_11 K50_17
@[simp] def W50_18:=C.w K50_18.eq_1
def K50_19:C:=.seq (.pl <| .e 9 2 <|
 .x 9 (.bin .eql (.v 8) (.c (.int .i64 7))) <|
 .m 10 9 .done) K50_18
@[simp] def W50_19:=C.w K50_19.eq_1
def K50_20:C:=.cond 9 (.v 10) K50_7 K50_19
@[simp] def W50_20:=C.w K50_20.eq_1
def K50_21:C:=.block 2 (.seq (.pl <| .e 9 2 <|
 .x 9 (.bin .eql (.v 8) (.c (.int .i64 6))) <|
 .m 10 9 .done) K50_20)
@[simp] def W50_21:=C.w K50_21.eq_1
def K50_22:C:=.seq (.seq (.pl <| .e 9 1 <|
 .a 9 5 <|
 .g 8 9 5 0 .done) K50_21) K50_5
@[simp] def W50_22:=C.w K50_22.eq_1
def K50_23:C:=.seq (.pl <| .e 9 1 <|
 .m 9 6 <|
 .m 7 9 .done) K50_22
@[simp] def W50_23:=C.w K50_23.eq_1
def K50_24:Pl:=.m 6 11 .done
@[simp] def W50_24:=Pl.w K50_24.eq_1
def K50_25:C:=.seq (.pl <| .e 9 3 <|
 .m 9 1 <|
 .m 10 4 <|
 .c 11 (.call fn_spec_l6Has [.v 9,.v 10]) K50_24) K50_23
@[simp] def W50_25:=C.w K50_25.eq_1
def K50_26:C:=.seq (.block 1 (.seq (.pl <| .e 9 4 <|
 .m 9 0 <|
 .m 10 4 <|
 .x 11 (.ia 3 (.v 9) (.v 10)) <|
 .o (.ld (some 12) (.v 11) (some 3)) <|
 .o (.pnew 5 (.c (.agg #[.int .i64 0,.int .i64 0,.slice none 0 0])) []) <|
 .o (.pset none 5 0 3 (.v 12)) .done) K50_25)) K50_2
@[simp] def W50_26:=C.w K50_26.eq_1
def K50_27:C:=.cond 9 (.v 12) (.skip) (.exit 0)
@[simp] def W50_27:=C.w K50_27.eq_1
def K50_28:C:=.seq (.seq (.pl <| .e 9 4 <|
 .m 9 4 <|
 .m 10 0 <|
 .x 11 (.lenV (.v 10)) <|
 .x 12 (.bin .lss (.v 9) (.v 11)) .done) K50_27) K50_26
@[simp] def W50_28:=C.w K50_28.eq_1
def K50_29:C:=.block 0 (.loop 9 [3,5,6,7,8] K50_28)
@[simp] def W50_29:=C.w K50_29.eq_1
def K50_30:C:=.seq (.seq (.pl <| .e 9 0 <|
 .x 4 (.mv (.c (.int .i64 0))) .done) K50_29) K50_1
@[simp] def W50_30:=C.w K50_30.eq_1
def B_spec_l7Follows:C:=.seq (.pl <| .e 9 0 <|
 .x 3 (.mv (.c (.bool false))) .done) K50_30
@[simp] def WB_spec_l7Follows:=C.w B_spec_l7Follows.eq_1
def R_spec_l7Follows:FIR:=⟨B_spec_l7Follows,9,[(3,none)]⟩
theorem IR_spec_l7Follows:cfun Tryz.prog H_spec_l7Follows Tryz.f50=some R_spec_l7Follows:=by kernel_rfl
theorem EN_spec_l7Follows:ENT Tryz.prog B_spec_l7Follows [(3,none)] 3 9 fn_spec_l7Follows:=fun hargs hw=>enter Tryz.func50 rfl IR_spec_l7Follows hargs hw
def H_spec_l7Fulfils:Hint:=⟨[(0,false),(1,false),(2,false),(6,false)],[]⟩
def K103_1:Pl:=.x 19 (.pick (.v 8) (.c (.bool true)) (.v 18)) <|
 .m 3 19 .done
@[simp] def W103_1:=Pl.w K103_1.eq_1
def K103_2:Pl:=.x 7 (.un .not (.v 6)) <|
 .m 8 7 <|
 .n 8 (.px (some 9) (.mv (.v 0))) <|
 .n 8 (.px (some 10) (.mv (.v 1))) <|
 .n 8 (.px (some 11) (.mv (.v 0))) <|
 .n 8 (.px (some 12) (.mv (.v 2))) <|
 .n 8 (.px (some 13) (.ia 3 (.v 11) (.v 12))) <|
 .n 8 (.px (some 14) (.fa 2 (.v 13))) <|
 .n 8 (.ld (some 15) (.v 14) none) <|
 .n 8 (.px (some 16) (.ia 3 (.v 15) (.c (.int .i64 1)))) <|
 .n 8 (.ld (some 17) (.v 16) (some 3)) <|
 .st (.act (some (.v 8,false)) (.ex (some 18) (.call fn_spec_l7Value [.v 9,.v 10,.v 17]))) K103_1
@[simp] def W103_2:=Pl.w K103_2.eq_1
def K103_3:C:=.seq (.pl <| .e 4 16 <|
 .m 4 1 <|
 .m 5 2 <|
 .c 6 (.call fn_spec_l6Has [.v 4,.v 5]) K103_2) (.ret)
@[simp] def W103_3:=C.w K103_3.eq_1
def B_spec_l7Fulfils:C:=.seq (.pl <| .e 4 0 <|
 .x 3 (.mv (.c (.bool false))) .done) K103_3
@[simp] def WB_spec_l7Fulfils:=C.w B_spec_l7Fulfils.eq_1
def R_spec_l7Fulfils:FIR:=⟨B_spec_l7Fulfils,4,[(3,none)]⟩
theorem IR_spec_l7Fulfils:cfun Tryz.prog H_spec_l7Fulfils Tryz.f103=some R_spec_l7Fulfils:=by kernel_rfl
theorem EN_spec_l7Fulfils:ENT Tryz.prog B_spec_l7Fulfils [(3,none)] 3 4 fn_spec_l7Fulfils:=fun hargs hw=>enter Tryz.func103 rfl IR_spec_l7Fulfils hargs hw
def H_spec_l7Letter:Hint:=⟨[(0,false),(1,false),(4,false),(5,false),(6,false),(7,false),(8,false)],[[2,3]]⟩
def K49_1:C:=.seq (.pl <| .e 7 2 <|
 .m 7 4 <|
 .m 8 5 <|
 .m 2 7 <|
 .m 3 8 .done) (.ret)
@[simp] def W49_1:=C.w K49_1.eq_1
def K49_2:C:=.pl <| .e 7 2 <|
 .m 7 6 <|
 .x 8 (.bin .add (.v 7) (.c (.int .i64 1))) <|
 .m 6 8 .done
@[simp] def W49_2:=C.w K49_2.eq_1
def K49_3:C:=.pl <| .e 7 9 <|
 .m 7 5 <|
 .m 8 0 <|
 .m 9 6 <|
 .x 10 (.ia 3 (.v 8) (.v 9)) <|
 .x 11 (.fa 1 (.v 10)) <|
 .l 12 11 <|
 .x 13 (.conv .u64 (.v 12)) <|
 .x 14 (.bin .shl (.c (.int .i64 1)) (.v 13)) <|
 .x 15 (.bin .or (.v 7) (.v 14)) <|
 .m 5 15 .done
@[simp] def W49_3:=C.w K49_3.eq_1
def K49_4:C:=.cond 7 (.v 9) K49_3 (.skip)
@[simp] def W49_4:=C.w K49_4.eq_1
def K49_5:C:=.seq (.pl <| .e 7 3 <|
 .m 7 1 <|
 .m 8 6 <|
 .c 9 (.call fn_spec_l6Has [.v 7,.v 8]) .done) K49_4
@[simp] def W49_5:=C.w K49_5.eq_1
def K49_6:C:=.seq (.pl <| .e 7 9 <|
 .m 7 4 <|
 .m 8 0 <|
 .m 9 6 <|
 .x 10 (.ia 3 (.v 8) (.v 9)) <|
 .x 11 (.fa 1 (.v 10)) <|
 .l 12 11 <|
 .x 13 (.conv .u64 (.v 12)) <|
 .x 14 (.bin .shl (.c (.int .i64 1)) (.v 13)) <|
 .x 15 (.bin .or (.v 7) (.v 14)) <|
 .m 4 15 .done) K49_5
@[simp] def W49_6:=C.w K49_6.eq_1
def K49_7:C:=.cond 7 (.v 12) K49_6 (.skip)
@[simp] def W49_7:=C.w K49_7.eq_1
def K49_8:C:=.seq (.block 1 (.seq (.pl <| .e 7 6 <|
 .m 7 0 <|
 .m 8 6 <|
 .x 9 (.ia 3 (.v 7) (.v 8)) <|
 .x 10 (.fa 0 (.v 9)) <|
 .l 11 10 <|
 .x 12 (.bin .eql (.v 11) (.c (.int .i64 2))) .done) K49_7)) K49_2
@[simp] def W49_8:=C.w K49_8.eq_1
def K49_9:C:=.cond 7 (.v 10) (.skip) (.exit 0)
@[simp] def W49_9:=C.w K49_9.eq_1
def K49_10:C:=.seq (.seq (.pl <| .e 7 4 <|
 .m 7 6 <|
 .m 8 0 <|
 .x 9 (.lenV (.v 8)) <|
 .x 10 (.bin .lss (.v 7) (.v 9)) .done) K49_9) K49_8
@[simp] def W49_10:=C.w K49_10.eq_1
def K49_11:C:=.block 0 (.loop 7 [2,3] K49_10)
@[simp] def W49_11:=C.w K49_11.eq_1
def K49_12:C:=.seq (.seq (.pl <| .e 7 0 <|
 .x 6 (.mv (.c (.int .i64 0))) .done) K49_11) K49_1
@[simp] def W49_12:=C.w K49_12.eq_1
def K49_13:C:=.seq (.pl <| .e 7 0 <|
 .x 5 (.mv (.c (.int .i64 0))) .done) K49_12
@[simp] def W49_13:=C.w K49_13.eq_1
def K49_14:C:=.seq (.pl <| .e 7 0 <|
 .x 4 (.mv (.c (.int .i64 0))) .done) K49_13
@[simp] def W49_14:=C.w K49_14.eq_1
def B_spec_l7Letter:C:=.seq (.pl <| .e 7 0 <|
 .x 2 (.mv (.c (.int .i64 0))) <|
 .x 3 (.mv (.c (.int .i64 0))) .done) K49_14
@[simp] def WB_spec_l7Letter:=C.w B_spec_l7Letter.eq_1
def R_spec_l7Letter:FIR:=⟨B_spec_l7Letter,7,[(2,none),(3,none)]⟩
theorem IR_spec_l7Letter:cfun Tryz.prog H_spec_l7Letter Tryz.f49=some R_spec_l7Letter:=by kernel_rfl
theorem EN_spec_l7Letter:ENT Tryz.prog B_spec_l7Letter [(2,none),(3,none)] 2 7 fn_spec_l7Letter:=fun hargs hw=>enter Tryz.func49 rfl IR_spec_l7Letter hargs hw
def H_spec_l7Pair:Hint:=⟨[(0,false),(1,false),(4,false),(5,false),(6,false)],[[2,3]]⟩
def K51_1:Pl:=.m 9 0 <|
 .x 10 (.lenV (.v 9)) <|
 .m 2 8 <|
 .m 3 10 .done
@[simp] def W51_1:=Pl.w K51_1.eq_1
def K51_2:C:=.seq (.pl <| .e 5 6 <|
 .m 5 0 <|
 .m 6 1 <|
 .o (.psl 7 [.slice none 0 0] [(0,1,.v 6)]) <|
 .c 8 (.app 24 1 [.slice none 0 0] (.o (.v 5)) (.p 1 7)) K51_1) (.ret)
@[simp] def W51_2:=C.w K51_2.eq_1
def K51_3:C:=.pl <| .e 5 2 <|
 .m 5 4 <|
 .x 6 (.bin .add (.v 5) (.c (.int .i64 1))) <|
 .m 4 6 .done
@[simp] def W51_3:=C.w K51_3.eq_1
def K51_4:C:=.seq (.pl <| .e 5 2 <|
 .m 5 0 <|
 .m 6 4 <|
 .m 2 5 <|
 .m 3 6 .done) (.ret)
@[simp] def W51_4:=C.w K51_4.eq_1
def K51_5:C:=.cond 5 (.v 10) K51_4 (.skip)
@[simp] def W51_5:=C.w K51_5.eq_1
def K51_6:C:=.seq (.block 1 (.seq (.pl <| .e 5 6 <|
 .m 5 0 <|
 .m 6 4 <|
 .x 7 (.ia 1 (.v 5) (.v 6)) <|
 .l 8 7 <|
 .m 9 1 <|
 .c 10 (.call fn_spec_l2Ints [.v 8,.v 9]) .done) K51_5)) K51_3
@[simp] def W51_6:=C.w K51_6.eq_1
def K51_7:C:=.cond 5 (.v 8) (.skip) (.exit 0)
@[simp] def W51_7:=C.w K51_7.eq_1
def K51_8:C:=.seq (.seq (.pl <| .e 5 4 <|
 .m 5 4 <|
 .m 6 0 <|
 .x 7 (.lenV (.v 6)) <|
 .x 8 (.bin .lss (.v 5) (.v 7)) .done) K51_7) K51_6
@[simp] def W51_8:=C.w K51_8.eq_1
def K51_9:C:=.block 0 (.loop 5 [2,3] K51_8)
@[simp] def W51_9:=C.w K51_9.eq_1
def K51_10:C:=.seq (.seq (.pl <| .e 5 0 <|
 .x 4 (.mv (.c (.int .i64 0))) .done) K51_9) K51_2
@[simp] def W51_10:=C.w K51_10.eq_1
def B_spec_l7Pair:C:=.seq (.pl <| .e 5 0 <|
 .x 2 (.mv (.c (.slice none 0 0))) <|
 .x 3 (.mv (.c (.int .i64 0))) .done) K51_10
@[simp] def WB_spec_l7Pair:=C.w B_spec_l7Pair.eq_1
def R_spec_l7Pair:FIR:=⟨B_spec_l7Pair,5,[(2,none),(3,none)]⟩
theorem IR_spec_l7Pair:cfun Tryz.prog H_spec_l7Pair Tryz.f51=some R_spec_l7Pair:=by kernel_rfl
theorem EN_spec_l7Pair:ENT Tryz.prog B_spec_l7Pair [(2,none),(3,none)] 2 5 fn_spec_l7Pair:=fun hargs hw=>enter Tryz.func51 rfl IR_spec_l7Pair hargs hw
def H_spec_l7Phase:Hint:=⟨[(0,false),(1,false),(2,false),(3,false),(8,false),(9,false)],[]⟩
def K48_1:C:=.seq (.pl <| .e 6 1 <|
 .m 6 3 <|
 .m 4 6 <|
 .x 5 (.mv (.c (.bool false))) .done) (.ret)
@[simp] def W48_1:=C.w K48_1.eq_1
def K48_2:C:=.seq (.pl <| .e 6 7 <|
 .m 6 3 <|
 .x 7 (.bin .add (.v 6) (.c (.int .i64 1))) <|
 .m 8 1 <|
 .x 9 (.lenV (.v 8)) <|
 .x 10 (.bin .rem (.v 7) (.v 9)) <|
 .m 11 3 <|
 .x 12 (.bin .eql (.v 11) (.c (.int .i64 0))) <|
 .m 4 10 <|
 .m 5 12 .done) (.ret)
@[simp] def W48_2:=C.w K48_2.eq_1
def K48_3:C:=.cond 6 (.v 12) K48_2 (.skip)
@[simp] def W48_3:=C.w K48_3.eq_1
def K48_4:C:=.seq (.seq (.pl <| .e 6 7 <|
 .m 6 0 <|
 .m 7 2 <|
 .m 8 1 <|
 .m 9 3 <|
 .x 10 (.ia 1 (.v 8) (.v 9)) <|
 .l 11 10 <|
 .c 12 (.call fn_spec_l7Fulfils [.v 6,.v 7,.v 11]) .done) K48_3) K48_1
@[simp] def W48_4:=C.w K48_4.eq_1
def K48_5:C:=.seq (.pl <| .e 6 0 <|
 .x 4 (.mv (.c (.int .i64 0))) <|
 .x 5 (.mv (.c (.bool true))) .done) (.ret)
@[simp] def W48_5:=C.w K48_5.eq_1
def K48_6:C:=.cond 6 (.v 8) K48_5 (.skip)
@[simp] def W48_6:=C.w K48_6.eq_1
def K48_7:C:=.seq (.seq (.pl <| .e 6 3 <|
 .m 6 1 <|
 .x 7 (.lenV (.v 6)) <|
 .x 8 (.bin .eql (.v 7) (.c (.int .i64 0))) .done) K48_6) K48_4
@[simp] def W48_7:=C.w K48_7.eq_1
def B_spec_l7Phase:C:=.seq (.pl <| .e 6 0 <|
 .x 4 (.mv (.c (.int .i64 0))) <|
 .x 5 (.mv (.c (.bool false))) .done) K48_7
@[simp] def WB_spec_l7Phase:=C.w B_spec_l7Phase.eq_1
def R_spec_l7Phase:FIR:=⟨B_spec_l7Phase,6,[(4,none),(5,none)]⟩
theorem IR_spec_l7Phase:cfun Tryz.prog H_spec_l7Phase Tryz.f48=some R_spec_l7Phase:=by kernel_rfl
theorem EN_spec_l7Phase:ENT Tryz.prog B_spec_l7Phase [(4,none),(5,none)] 4 6 fn_spec_l7Phase:=fun hargs hw=>enter Tryz.func48 rfl IR_spec_l7Phase hargs hw
def H_spec_l7Untils:Hint:=⟨[(0,false),(2,false),(3,false),(4,false)],[[1]]⟩
def K46_1:C:=.seq (.pl <| .e 4 1 <|
 .m 4 2 <|
 .m 1 4 .done) (.ret)
@[simp] def W46_1:=C.w K46_1.eq_1
def K46_2:C:=.pl <| .e 4 2 <|
 .m 4 3 <|
 .x 5 (.bin .add (.v 4) (.c (.int .i64 1))) <|
 .m 3 5 .done
@[simp] def W46_2:=C.w K46_2.eq_1
def K46_3:Pl:=.m 2 7 .done
@[simp] def W46_3:=Pl.w K46_3.eq_1
def K46_4:C:=.pl <| .e 4 4 <|
 .m 4 2 <|
 .m 5 3 <|
 .o (.psl 6 [.int .i64 0] [(0,1,.v 5)]) <|
 .c 7 (.app 8 1 [.int .i64 0] (.o (.v 4)) (.p 1 6)) K46_3
@[simp] def W46_4:=C.w K46_4.eq_1
def K46_5:C:=.cond 4 (.v 9) K46_4 (.skip)
@[simp] def W46_5:=C.w K46_5.eq_1
def K46_6:C:=.seq (.block 1 (.seq (.pl <| .e 4 6 <|
 .m 4 0 <|
 .m 5 3 <|
 .x 6 (.ia 3 (.v 4) (.v 5)) <|
 .x 7 (.fa 0 (.v 6)) <|
 .l 8 7 <|
 .x 9 (.bin .eql (.v 8) (.c (.int .i64 7))) .done) K46_5)) K46_2
@[simp] def W46_6:=C.w K46_6.eq_1
def K46_7:C:=.cond 4 (.v 7) (.skip) (.exit 0)
@[simp] def W46_7:=C.w K46_7.eq_1
def K46_8:C:=.seq (.seq (.pl <| .e 4 4 <|
 .m 4 3 <|
 .m 5 0 <|
 .x 6 (.lenV (.v 5)) <|
 .x 7 (.bin .lss (.v 4) (.v 6)) .done) K46_7) K46_6
@[simp] def W46_8:=C.w K46_8.eq_1
def K46_9:C:=.block 0 (.loop 4 [1] K46_8)
@[simp] def W46_9:=C.w K46_9.eq_1
def K46_10:C:=.seq (.seq (.pl <| .e 4 0 <|
 .x 3 (.mv (.c (.int .i64 0))) .done) K46_9) K46_1
@[simp] def W46_10:=C.w K46_10.eq_1
def K46_11:Pl:=.m 2 4 .done
@[simp] def W46_11:=Pl.w K46_11.eq_1
def K46_12:C:=.seq (.pl <| .e 4 1 <|
 .c 4 (.bls 1 0 [.int .i64 0] []) K46_11) K46_10
@[simp] def W46_12:=C.w K46_12.eq_1
def B_spec_l7Untils:C:=.seq (.pl <| .e 4 0 <|
 .x 1 (.mv (.c (.slice none 0 0))) .done) K46_12
@[simp] def WB_spec_l7Untils:=C.w B_spec_l7Untils.eq_1
def R_spec_l7Untils:FIR:=⟨B_spec_l7Untils,4,[(1,none)]⟩
theorem IR_spec_l7Untils:cfun Tryz.prog H_spec_l7Untils Tryz.f46=some R_spec_l7Untils:=by kernel_rfl
theorem EN_spec_l7Untils:ENT Tryz.prog B_spec_l7Untils [(1,none)] 1 4 fn_spec_l7Untils:=fun hargs hw=>enter Tryz.func46 rfl IR_spec_l7Untils hargs hw
def H_spec_l7Value:Hint:=⟨[(0,false),(1,false),(2,false),(5,true),(6,false),(8,false)],[]⟩
def K47_1:Pl:=.m 4 10 .done
@[simp] def W47_1:=Pl.w K47_1.eq_1
def K47_2:Pl:=.c 10 (.call fn_spec_l6Has [.v 6,.v 9]) K47_1
@[simp] def W47_2:=Pl.w K47_2.eq_1
def K47_3:C:=.seq (.pl <| .e 6 5 <|
 .m 6 1 <|
 .m 7 0 <|
 .o (.pget (some 8) none 3 0 (some 3)) <|
 .c 9 (.call fn_spec_l5Find [.v 7,.v 8]) K47_2) (.ret)
@[simp] def W47_3:=C.w K47_3.eq_1
def K47_4:C:=.seq (.pl <| .e 6 0 <|
 .x 4 (.mv (.c (.bool true))) .done) (.ret)
@[simp] def W47_4:=C.w K47_4.eq_1
def K47_5:Pl:=.x 13 (.un .not (.v 12)) <|
 .m 4 13 .done
@[simp] def W47_5:=Pl.w K47_5.eq_1
def K47_6:C:=.seq (.pl <| .e 6 8 <|
 .m 6 0 <|
 .m 7 1 <|
 .a 8 3 <|
 .g 9 8 3 2 <|
 .x 10 (.ia 3 (.v 9) (.c (.int .i64 0))) <|
 .o (.ld (some 11) (.v 10) (some 3)) <|
 .c 12 (.call fn_spec_l7Value [.v 6,.v 7,.v 11]) K47_5) (.ret)
@[simp] def W47_6:=C.w K47_6.eq_1
def K47_7:Pl:=.x 21 (.pick (.v 13) (.v 20) (.c (.bool false))) <|
 .m 4 21 .done
@[simp] def W47_7:=Pl.w K47_7.eq_1
def K47_8:Pl:=.m 13 12 <|
 .y 13 (.px (some 14) (.mv (.v 0))) <|
 .y 13 (.px (some 15) (.mv (.v 1))) <|
 .y 13 (.als 16 none 3) <|
 .y 13 (.pget (some 17) (some 16) 3 2 none) <|
 .y 13 (.px (some 18) (.ia 3 (.v 17) (.c (.int .i64 1)))) <|
 .y 13 (.ld (some 19) (.v 18) (some 3)) <|
 .st (.act (some (.v 13,true)) (.ex (some 20) (.call fn_spec_l7Value [.v 14,.v 15,.v 19]))) K47_7
@[simp] def W47_8:=Pl.w K47_8.eq_1
def K47_9:C:=.seq (.pl <| .e 6 16 <|
 .m 6 0 <|
 .m 7 1 <|
 .a 8 3 <|
 .g 9 8 3 2 <|
 .x 10 (.ia 3 (.v 9) (.c (.int .i64 0))) <|
 .o (.ld (some 11) (.v 10) (some 3)) <|
 .c 12 (.call fn_spec_l7Value [.v 6,.v 7,.v 11]) K47_8) (.ret)
@[simp] def W47_9:=C.w K47_9.eq_1
def K47_10:Pl:=.x 21 (.pick (.v 13) (.c (.bool true)) (.v 20)) <|
 .m 4 21 .done
@[simp] def W47_10:=Pl.w K47_10.eq_1
def K47_11:Pl:=.m 13 12 <|
 .n 13 (.px (some 14) (.mv (.v 0))) <|
 .n 13 (.px (some 15) (.mv (.v 1))) <|
 .n 13 (.als 16 none 3) <|
 .n 13 (.pget (some 17) (some 16) 3 2 none) <|
 .n 13 (.px (some 18) (.ia 3 (.v 17) (.c (.int .i64 1)))) <|
 .n 13 (.ld (some 19) (.v 18) (some 3)) <|
 .st (.act (some (.v 13,false)) (.ex (some 20) (.call fn_spec_l7Value [.v 14,.v 15,.v 19]))) K47_10
@[simp] def W47_11:=Pl.w K47_11.eq_1
def K47_12:C:=.seq (.pl <| .e 6 16 <|
 .m 6 0 <|
 .m 7 1 <|
 .a 8 3 <|
 .g 9 8 3 2 <|
 .x 10 (.ia 3 (.v 9) (.c (.int .i64 0))) <|
 .o (.ld (some 11) (.v 10) (some 3)) <|
 .c 12 (.call fn_spec_l7Value [.v 6,.v 7,.v 11]) K47_11) (.ret)
@[simp] def W47_12:=C.w K47_12.eq_1
def K47_13:C:=.cond 6 (.v 7) K47_12 (.skip)
@[simp] def W47_13:=C.w K47_13.eq_1
def K47_14:C:=.seq (.pl <| .e 6 2 <|
 .x 6 (.bin .eql (.v 5) (.c (.int .i64 5))) <|
 .m 7 6 .done) K47_13
@[simp] def W47_14:=C.w K47_14.eq_1
def K47_15:C:=.cond 6 (.v 7) K47_9 K47_14
@[simp] def W47_15:=C.w K47_15.eq_1
def K47_16:C:=.seq (.pl <| .e 6 2 <|
 .x 6 (.bin .eql (.v 5) (.c (.int .i64 4))) <|
 .m 7 6 .done) K47_15
@[simp] def W47_16:=C.w K47_16.eq_1
def K47_17:C:=.cond 6 (.v 7) K47_6 K47_16
@[simp] def W47_17:=C.w K47_17.eq_1
def K47_18:C:=.seq (.pl <| .e 6 2 <|
 .x 6 (.bin .eql (.v 5) (.c (.int .i64 3))) <|
 .m 7 6 .done) K47_17
@[simp] def W47_18:=C.w K47_18.eq_1
def K47_19:C:=.cond 6 (.v 7) K47_4 K47_18
@[simp] def W47_19:=C.w K47_19.eq_1
def K47_20:C:=.block 0 (.seq (.pl <| .e 6 2 <|
 .x 6 (.bin .eql (.v 5) (.c (.int .i64 1))) <|
 .m 7 6 .done) K47_19)
@[simp] def W47_20:=C.w K47_20.eq_1
def K47_21:C:=.seq (.seq (.pl <| .e 6 1 <|
 .a 6 3 <|
 .g 5 6 3 0 .done) K47_20) K47_3
@[simp] def W47_21:=C.w K47_21.eq_1
def B_spec_l7Value:C:=.seq (.pl <| .e 6 0 <|
 .o (.pnew 3 (.v 2) []) <|
 .x 4 (.mv (.c (.bool false))) .done) K47_21
@[simp] def WB_spec_l7Value:=C.w B_spec_l7Value.eq_1
def R_spec_l7Value:FIR:=⟨B_spec_l7Value,6,[(4,none)]⟩
theorem IR_spec_l7Value:cfun Tryz.prog H_spec_l7Value Tryz.f47=some R_spec_l7Value:=by kernel_rfl
theorem EN_spec_l7Value:ENT Tryz.prog B_spec_l7Value [(4,none)] 3 6 fn_spec_l7Value:=fun hargs hw=>enter Tryz.func47 rfl IR_spec_l7Value hargs hw
namespace Fm
def arity (k:Int):Int:=if k=1∨k=2 then 0 else if k=3∨k=6∨k=9∨k=10 then 1 else if k=4∨k=5∨k=7∨k=8 then 2 else -1
structure Nd (x:Exq):Prop where
 ar:(x.kids.length:Int)=arity x.kind
 lo:0≤x.val
 hi:x.val<3
 ze:x.kind≠2→x.val=0
def Shp:Nat→Exq→Prop
 | 0,_=>False
 | n+1,x=>Nd x∧∀y∈x.kids,Shp n y
noncomputable instance {n:Nat}{x:Exq}:Decidable (Shp n x):=Classical.propDecidable _
def Ok (x:Exq):Prop:=Shp 6 x∧x.nod≤12
noncomputable instance {x:Exq}:Decidable (Ok x):=Classical.propDecidable _
theorem Nd.kind {x:Exq}(h:Nd x):1≤x.kind∧x.kind≤10:=by
 have:=h.ar
 unfold arity at this
 split at this<;>(try split at this)<;>(try split at this)<;>omega
theorem arity_le {k:Int}:arity k≤2:=by
 unfold arity
 split<;>(try split)<;>(try split)<;>omega
theorem arity_ge {k:Int}:-1≤arity k:=by
 unfold arity
 split<;>(try split)<;>(try split)<;>omega
theorem Shp.nd {n:Nat}{x:Exq}(h:Shp n x):Nd x:=by
 cases n with
 | zero=>exact h.elim
 | succ n=>exact h.1
theorem Shp.kid {n:Nat}{x:Exq}(h:Shp (n+1) x) {i:Nat}(hi:i<x.kids.length):Shp n x.kids[i]:=h.2 _ (List.getElem_mem hi)
theorem Shp.le2 {n:Nat}{x:Exq}(h:Shp n x):x.kids.length≤2:=by
 have h1:=h.nd.ar
 have h2:=arity_le (k:=x.kind)
 omega
theorem Shp.two {n:Nat}{x:Exq}(h:Shp n x) (hk:x.kind=4∨x.kind=5∨x.kind=7∨x.kind=8):x.kids.length=2:=by
 have h1:=h.nd.ar
 unfold arity at h1
 split at h1<;>(try split at h1)<;>(try split at h1)<;>omega
theorem Shp.one {n:Nat}{x:Exq}(h:Shp n x) (hk:x.kind=3∨x.kind=6∨x.kind=9∨x.kind=10):x.kids.length=1:=by
 have h1:=h.nd.ar
 unfold arity at h1
 split at h1<;>(try split at h1)<;>(try split at h1)<;>omega
theorem Shp.none {n:Nat}{x:Exq}(h:Shp n x) (hk:x.kind=1∨x.kind=2):x.kids=[]:=by
 have h1:=h.nd.ar
 rw[arity,if_pos hk] at h1
 exact List.length_eq_zero_iff.1 (by omega)
theorem Shp.mono:∀{n:Nat}{x:Exq},Shp n x→Shp (n+1) x
 | 0,_,h=>h.elim
 | n+1,_,h=>⟨h.1,fun y hy=>(h.2 y hy).mono⟩
theorem Shp.bnd:∀{n:Nat}{x:Exq},Shp n x→x.nod<2^n
 | 0,_,h=>h.elim
 | n+1,x,h=>by
  have h2:=h.le2
  rw[Exq.nod_eq]
  have h4:Exq.nods x.kids+x.kids.length≤x.kids.length*2^n:=by
   have key:∀l:List Exq,(∀y∈l,y.nod<2^n)→Exq.nods l+l.length≤l.length*2^n:=by
    intro l
    induction l with
    | nil=>intro _;simp[Exq.nods]
    | cons y l ih=>
     intro hy
     have e1:=hy y (by simp)
     have e2:=ih fun z hz=>hy z (by simp[hz])
     simp only[Exq.nods,List.length_cons,Nat.add_mul]
     omega
   exact key x.kids fun y hy=>(h.2 y hy).bnd
  have h5:0<2^n:=Nat.two_pow_pos n
  have h6:2^(n+1)=2*2^n:=by rw[Nat.pow_succ];omega
  rw[h6]
  obtain h7 | h7 | h7:x.kids.length=0∨x.kids.length=1∨x.kids.length=2:=by omega
  all_goals (rw[h7] at h4;omega)
def tru:Exq:=.mk 1 0 []
def neg (x:Exq):Exq:=.mk 3 0 [x]
def dual (k:Int):Int:=if k=4 then 5 else if k=5 then 4 else if k=7 then 8 else 7
mutual
def push:Exq→Bool→Exq
 | .mk k v l,n=>if k=1∨k=2 then (if n then neg (.mk k v []) else .mk k v [])
  else if k=3 then (pushes l (!n)).getD 0 Exq.zero
  else if k=6 then .mk 6 0 [(pushes l n).getD 0 Exq.zero]
  else if k=9∨k=10 then (if decide (k=9) != n then .mk 7 0 [tru,(pushes l n).getD 0 Exq.zero] else .mk 8 0 [neg tru,(pushes l n).getD 0 Exq.zero])
  else .mk (if n then dual k else k) 0 [(pushes l n).getD 0 Exq.zero,(pushes l n).getD 1 Exq.zero]
def pushes:List Exq→Bool→List Exq
 | [],_=>[]
 | x::l,n=>push x n::pushes l n
end
theorem pushes_eq {n:Bool}:∀l,pushes l n=l.map fun x=>push x n
 | []=>rfl
 | x::l=>by simp only[pushes,List.map_cons,pushes_eq l]
def kp (x:Exq) (n:Bool) (j:Nat):Exq:=(x.kids.map fun y=>push y n).getD j Exq.zero
theorem kp_at {x:Exq}{n:Bool}{j:Nat}(hj:j<x.kids.length):kp x n j=push x.kids[j] n:=by simp[kp,hj]
theorem push_eq (x:Exq) (n:Bool):push x n=if x.kind=1∨x.kind=2 then (if n then neg (.mk x.kind x.val []) else .mk x.kind x.val [])
  else if x.kind=3 then kp x (!n) 0
  else if x.kind=6 then .mk 6 0 [kp x n 0]
  else if x.kind=9∨x.kind=10 then (if decide (x.kind=9) != n then .mk 7 0 [tru,kp x n 0] else .mk 8 0 [neg tru,kp x n 0])
  else .mk (if n then dual x.kind else x.kind) 0 [kp x n 0,kp x n 1]:=by
 cases x with
 | mk k v l=>simp only[push,pushes_eq];rfl
noncomputable def nfR (x:Exq):Exq:=if Ok x∧Ok (push x false) then push x false else Exq.zero
noncomputable def fx (l:List Exq) (x:Exq):Int:=match l.findIdx? (fun y=>decide (y=x)) with | some i=>(i:Int) | .none=>-1
theorem fx_at {xs:List Exq}{st:Exq}{i:Nat}(hi:i<xs.length) (he:xs[i]=st) (hn:∀(j:Nat) (hj:j<xs.length),j<i→xs[j]≠st):fx xs st=i:=by
 have:xs.findIdx? (fun y=>decide (y=st))=some i:=by
  rw[List.findIdx?_eq_some_iff_getElem]
  exact⟨hi,by simpa using he,fun j hj=>by simpa using hn j (by omega) hj⟩
 rw[fx,this]
theorem fx_not {xs:List Exq}{st:Exq}(h:st∉xs):fx xs st = -1:=by
 have:xs.findIdx? (fun y=>decide (y=st))=.none:=by
  rw[List.findIdx?_eq_none_iff]
  intro y hy
  simp only[decide_eq_false_iff_not]
  rintro rfl
  exact h hy
 rw[fx,this]
theorem fx_mem {xs:List Exq}{st:Exq}(h:st∈xs):∃(i:Nat) (hi:i<xs.length),fx xs st=i∧xs[i]=st:=by
 obtain⟨i,hi⟩:∃i,xs.findIdx? (fun y=>decide (y=st))=some i:=by
  rcases hf:xs.findIdx? (fun y=>decide (y=st)) with _ | i
  ·rw[List.findIdx?_eq_none_iff] at hf
   have:=hf st h
   simp at this
  ·exact⟨i,rfl⟩
 have h2:=hi
 rw[List.findIdx?_eq_some_iff_getElem] at h2
 obtain⟨h3,h4,_⟩:=h2
 exact⟨i,h3,by rw[fx,hi],by simpa using h4⟩
theorem fx_neg {xs:List Exq}{st:Exq}:fx xs st<0↔st∉xs:=by
 constructor
 ·intro h hm
  obtain⟨i,_,e,_⟩:=fx_mem hm
  omega
 ·intro h
  rw[fx_not h]
  decide
noncomputable def ins (o:List Exq) (x:Exq):List Exq:=if x∈o then o else o++[x]
mutual
noncomputable def subs:Exq→List Exq→List Exq
 | .mk k v l,o=>ins (subsL l o) (.mk k v l)
noncomputable def subsL:List Exq→List Exq→List Exq
 | [],o=>o
 | x::l,o=>subsL l (subs x o)
end
theorem subsL_eq:∀(l:List Exq) (o:List Exq),subsL l o=l.foldl (fun o x=>subs x o) o
 | [],_=>rfl
 | x::l,o=>by rw[subsL,subsL_eq l,List.foldl_cons]
theorem subs_eq (x:Exq) (o:List Exq):subs x o=ins (x.kids.foldl (fun o x=>subs x o) o) x:=by
 cases x with
 | mk k v l=>rw[subs,subsL_eq];rfl
theorem ins_len {o:List Exq}{x:Exq}:(ins o x).length≤o.length+1:=by unfold ins;split<;>simp
theorem subsL_len:∀(l:List Exq),(∀x∈l,∀o,(subs x o).length≤o.length+x.nod)→∀o,(l.foldl (fun o x=>subs x o) o).length≤o.length+Exq.nods l
 | [],_,o=>by simp[Exq.nods]
 | x::l,h,o=>by
  have h1:=h x (by simp) o
  have h2:=subsL_len l (fun y hy=>h y (by simp[hy])) (subs x o)
  simp only[List.foldl_cons,Exq.nods]
  omega
theorem subs_len:∀(x:Exq) (o:List Exq),(subs x o).length≤o.length+x.nod:=by
 have key:∀(n:Nat) (x:Exq),x.nod≤n→∀o,(subs x o).length≤o.length+x.nod:=by
  intro n
  induction n with
  | zero=>intro x h;rw[Exq.nod_eq] at h;omega
  | succ n ih=>
   intro x hx o
   rw[Exq.nod_eq] at hx ⊢
   rw[subs_eq]
   have h1:=subsL_len x.kids (fun y hy=>ih y (by
    obtain⟨i,hi,rfl⟩:=List.mem_iff_getElem.1 hy
    have e1:=Exq.nods_take hi
    have e2:=Exq.nods_le x.kids (i+1)
    omega)) o
   have h2:=ins_len (o:=x.kids.foldl (fun o x=>subs x o) o) (x:=x)
   omega
 exact fun x o=>key x.nod x (Nat.le_refl _) o
theorem subs_all {P:Exq→Prop}:∀(n:Nat) (x:Exq),(∀y,P y→∀z∈y.kids,P z)→x.nod≤n→P x→∀(o:List Exq),(∀y∈o,P y)→∀y∈subs x o,P y:=by
 intro n
 induction n with
 | zero=>intro x _ h;rw[Exq.nod_eq] at h;omega
 | succ n ih=>
  intro x hP hx hPx o ho
  rw[Exq.nod_eq] at hx
  rw[subs_eq]
  have hl:∀(l:List Exq),(∀z∈l,P z∧z.nod≤n)→∀(o:List Exq),(∀y∈o,P y)→∀y∈l.foldl (fun o x=>subs x o) o,P y:=by
   intro l
   induction l with
   | nil=>intro _ o ho;exact ho
   | cons z l ihl=>
    intro hz o ho
    rw[List.foldl_cons]
    exact ihl (fun w hw=>hz w (by simp[hw])) _ (ih z hP (hz z (by simp)).2 (hz z (by simp)).1 o ho)
  have h1:=hl x.kids (fun z hz=>⟨hP x hPx z hz,by
   obtain⟨i,hi,rfl⟩:=List.mem_iff_getElem.1 hz
   have e1:=Exq.nods_take hi
   have e2:=Exq.nods_le x.kids (i+1)
   omega⟩) o ho
  intro y hy
  unfold ins at hy
  split at hy
  ·exact h1 y hy
  ·rcases List.mem_append.1 hy with hy | hy
   ·exact h1 y hy
   ·simp at hy;subst hy;exact hPx
def bas (x:Exq):Bool:=decide (x.kind=2∨x.kind=6∨x.kind=7∨x.kind=8)
noncomputable def basics (x:Exq):List Exq:=(subs (push x false) []).filter bas
def bOk (x:Exq):Prop:=(Ok x∧Ok (push x false))∧(basics x).length≤5
noncomputable instance {x:Exq}:Decidable (bOk x):=Classical.propDecidable _
noncomputable def basR (x:Exq):List Exq:=if bOk x then basics x else []
theorem Shp.kids6 {x:Exq}(h:∃n,n≤6∧Shp n x):∀y∈x.kids,∃n,n≤6∧Shp n y:=by
 obtain⟨n,hn,hs⟩:=h
 cases n with
 | zero=>exact hs.elim
 | succ n=>exact fun y hy=>⟨n,by omega,hs.2 y hy⟩
theorem Shp.up {n m:Nat}{x:Exq}(h:Shp n x) (hm:n≤m):Shp m x:=by
 induction m with
 | zero=>have:n=0:=by omega
         subst this;exact h
 | succ m ih=>
  by_cases e:n=m+1
  ·subst e;exact h
  ·exact (ih (by omega)).mono
theorem basics_ok {x:Exq}(h:bOk x):∀y∈basics x,Shp 6 y∧bas y=true:=by
 intro y hy
 obtain⟨h1,h2⟩:=List.mem_filter.1 hy
 obtain⟨n,hn,h3⟩:=subs_all (P:=fun y=>∃n,n≤6∧Shp n y) _ (push x false) (fun y hy=>Shp.kids6 hy) (Nat.le_refl _) ⟨6,Nat.le_refl _,h.1.2.1⟩ [] (fun y hy=>by simp at hy) y h1
 exact⟨h3.up hn,h2⟩
end Fm
theorem c_l5Arity {h:Heap}{n:Int}:CallE Tryz.prog fn_spec_l5Arity [.int .i64 n] h (fun u h'=>h'=h∧u=.int .i64 (Fm.arity n)):=by
 refine CallE.gen fun k hk=>EN_spec_l5Arity rfl ?_
 by_cases c1:n=1
 ·simp -implicitDefEqProofs (disch:=first|omega|(simp only[LnZ];omega))[wrap64,c1]
  exact RetK.keep (hk _ _ ⟨rfl,by simp[Fm.arity,c1]⟩)
 by_cases c2:n=2
 ·simp -implicitDefEqProofs (disch:=first|omega|(simp only[LnZ];omega))[wrap64,c1,c2]
  exact RetK.keep (hk _ _ ⟨rfl,by simp[Fm.arity,c2]⟩)
 by_cases c3:n=3
 ·simp -implicitDefEqProofs (disch:=first|omega|(simp only[LnZ];omega))[wrap64,c1,c2,c3]
  exact RetK.keep (hk _ _ ⟨rfl,by simp[Fm.arity,c3]⟩)
 by_cases c6:n=6
 ·simp -implicitDefEqProofs (disch:=first|omega|(simp only[LnZ];omega))[wrap64,c1,c2,c3,c6]
  exact RetK.keep (hk _ _ ⟨rfl,by simp[Fm.arity,c6]⟩)
 by_cases c9:n=9
 ·simp -implicitDefEqProofs (disch:=first|omega|(simp only[LnZ];omega))[wrap64,c1,c2,c3,c6,c9]
  exact RetK.keep (hk _ _ ⟨rfl,by simp[Fm.arity,c9]⟩)
 by_cases c10:n=10
 ·simp -implicitDefEqProofs (disch:=first|omega|(simp only[LnZ];omega))[wrap64,c1,c2,c3,c6,c9,c10]
  exact RetK.keep (hk _ _ ⟨rfl,by simp[Fm.arity,c10]⟩)
 by_cases c4:n=4
 ·simp -implicitDefEqProofs (disch:=first|omega|(simp only[LnZ];omega))[wrap64,c1,c2,c3,c6,c9,c10,c4]
  exact RetK.keep (hk _ _ ⟨rfl,by simp[Fm.arity,c4]⟩)
 by_cases c5:n=5
 ·simp -implicitDefEqProofs (disch:=first|omega|(simp only[LnZ];omega))[wrap64,c1,c2,c3,c6,c9,c10,c4,c5]
  exact RetK.keep (hk _ _ ⟨rfl,by simp[Fm.arity,c5]⟩)
 by_cases c7:n=7
 ·simp -implicitDefEqProofs (disch:=first|omega|(simp only[LnZ];omega))[wrap64,c1,c2,c3,c6,c9,c10,c4,c5,c7]
  exact RetK.keep (hk _ _ ⟨rfl,by simp[Fm.arity,c7]⟩)
 by_cases c8:n=8
 ·simp -implicitDefEqProofs (disch:=first|omega|(simp only[LnZ];omega))[wrap64,c1,c2,c3,c6,c9,c10,c4,c5,c7,c8]
  exact RetK.keep (hk _ _ ⟨rfl,by simp[Fm.arity,c8]⟩)
 simp -implicitDefEqProofs (disch:=first|omega|(simp only[LnZ];omega))[wrap64,c1,c2,c3,c4,c5,c6,c7,c8,c9,c10]
 exact RetK.keep (hk _ _ ⟨rfl,by simp[Fm.arity,c1,c2,c3,c4,c5,c6,c7,c8,c9,c10]⟩)
theorem c_l5Shape:∀(n:Nat) {x:Exq}{h:Heap}{v:Value}{dv:Int},dv=n→n≤6→Rep h v x→CallE Tryz.prog fn_spec_l5Shape [v,.int .i64 dv] h (fun u h'=>h'=h∧u=.bool (decide (Fm.Shp n x))):=by
 intro n
 induction n with
 | zero=>
  intro x h v dv hd _ R
  have hd:dv=0:=hd
  obtain⟨w,rfl,k1,k2,R1⟩:=Rep_Exq.1 R
  refine CallE.gen fun k hk=>EN_spec_l5Shape rfl ?_
  simp -implicitDefEqProofs (disch:=first|omega|(simp only[LnZ];omega))[wrap64,hd]
  exact RetK.keep (hk _ _ ⟨rfl,by rw[decide_eq_false (fun hh:Fm.Shp 0 x=>hh)]⟩)
 | succ n ih=>
  intro x h v dv hd hd6 R
  obtain⟨w,rfl,k1,k2,R1⟩:=Rep_Exq.1 R
  have hL:=R1.lt
  obtain⟨ln,hln⟩:∃ln:Int,ln=x.kids.length:=⟨_,rfl⟩
  have hlen:=R1.len
  rw[← hln] at hlen
  refine CallE.gen fun k hk=>EN_spec_l5Shape rfl ?_
  have hno:¬Fm.Shp (n+1) x→k (.bool false) h:=fun hh=>hk _ _ ⟨rfl,by rw[decide_eq_false hh]⟩
  simp -implicitDefEqProofs (disch:=first|omega|(simp only[LnZ];omega))[wrap64,hlen,show ¬dv<1 by omega]
  refine c_l5Arity.go ?_
  rintro _ h ⟨rfl,rfl⟩
  by_cases q1:ln=Fm.arity x.kind
  case neg=>simp -implicitDefEqProofs (disch:=first|omega|(simp only[LnZ];omega))[wrap64,q1];exact RetK.keep (hno fun hh=>q1 (by rw[hln];exact hh.1.ar))
  by_cases q2:x.val<0
  ·simp -implicitDefEqProofs (disch:=first|omega|(simp only[LnZ];omega))[wrap64,q1,q2];exact RetK.keep (hno fun hh=>by have:=hh.1.lo;omega)
  by_cases q3:3≤x.val
  ·simp -implicitDefEqProofs (disch:=first|omega|(simp only[LnZ];omega))[wrap64,q1,q2,q3];exact RetK.keep (hno fun hh=>by have:=hh.1.hi;omega)
  have hz:(x.kind=2)∨(x.kind≠2∧x.val≠0)∨(x.kind≠2∧x.val=0):=by omega
  rcases hz with c1 | ⟨c1,c2⟩ | ⟨c1,c2⟩
  case inr.inl=>simp -implicitDefEqProofs (disch:=first|omega|(simp only[LnZ];omega))[wrap64,q1,q2,q3,c1,c2];exact RetK.keep (hno fun hh=>c2 (hh.1.ze c1))
  ·simp -implicitDefEqProofs (disch:=first|omega|(simp only[LnZ];omega))[wrap64,q1,q2,q3,c1]
   refine wp_count x.kids.length (fun i e h'=>h'=h∧(∃kd vl:Int,kd=x.kind∧vl=x.val∧e=[none,some (.int .i64 dv),some (.agg #[.int .i64 kd,.int .i64 vl,w]),none,some (.int .i64 i)])∧∀y∈x.kids.take i,Fm.Shp n y) ⟨rfl,⟨_,_,rfl,rfl,by simp[c1]⟩,by simp⟩ ?_
   rintro J i _ _ hJ hi ⟨rfl,⟨kd,vl,hkd,hvl,rfl⟩,hall⟩
   simp -implicitDefEqProofs (disch:=first|omega|(simp only[LnZ];omega))[wrap64,R1.len]
   refine IteW.mk (fun hlt=>?_) (fun hge=>?_)
   ·have hlx:i<x.kids.length:=by omega
    obtain⟨u,hu,Ru⟩:=R1.ld hlx
    change hload _ (some (elp 3 w i)) (some 3)=some u at hu
    simp -implicitDefEqProofs (disch:=first|omega|(simp only[LnZ];omega))[wrap64,R1.X (n:=3) rfl,hu]
    refine (ih (dv:=dv-1) (by omega) (by omega) Ru).go ?_
    rintro _ _ ⟨rfl,rfl⟩
    by_cases q4:Fm.Shp n x.kids[i]
    case neg=>simp -implicitDefEqProofs (disch:=first|omega|(simp only[LnZ];omega))[wrap64,q4];exact RetK.keep (hno fun hh=>q4 (hh.kid hlx))
    simp -implicitDefEqProofs (disch:=first|omega|(simp only[LnZ];omega))[wrap64,q4]
    refine hJ _ _ hlx ⟨rfl,⟨kd,vl,hkd,hvl,by simp⟩,fun y hy=>?_⟩
    rw[List.take_add_one,List.getElem?_eq_getElem hlx] at hy
    rcases List.mem_append.1 hy with hy | hy
    ·exact hall y hy
    ·simp at hy;subst hy;exact q4
   ·simp -implicitDefEqProofs (disch:=omega)[wrap64]
    rw[List.take_of_length_le (by omega)] at hall
    refine RetK.keep (hk _ _ ⟨rfl,?_⟩)
    rw[decide_eq_true (show Fm.Shp (n+1) x from ⟨⟨by omega,by omega,by omega,by omega⟩,hall⟩)]
  ·simp -implicitDefEqProofs (disch:=first|omega|(simp only[LnZ];omega))[wrap64,q1,q2,q3,c1,c2]
   refine wp_count x.kids.length (fun i e h'=>h'=h∧(∃kd vl:Int,kd=x.kind∧vl=x.val∧e=[none,some (.int .i64 dv),some (.agg #[.int .i64 kd,.int .i64 vl,w]),none,some (.int .i64 i)])∧∀y∈x.kids.take i,Fm.Shp n y) ⟨rfl,⟨_,_,rfl,rfl,by simp[c1,c2]⟩,by simp⟩ ?_
   rintro J i _ _ hJ hi ⟨rfl,⟨kd,vl,hkd,hvl,rfl⟩,hall⟩
   simp -implicitDefEqProofs (disch:=first|omega|(simp only[LnZ];omega))[wrap64,R1.len]
   refine IteW.mk (fun hlt=>?_) (fun hge=>?_)
   ·have hlx:i<x.kids.length:=by omega
    obtain⟨u,hu,Ru⟩:=R1.ld hlx
    change hload _ (some (elp 3 w i)) (some 3)=some u at hu
    simp -implicitDefEqProofs (disch:=first|omega|(simp only[LnZ];omega))[wrap64,R1.X (n:=3) rfl,hu]
    refine (ih (dv:=dv-1) (by omega) (by omega) Ru).go ?_
    rintro _ _ ⟨rfl,rfl⟩
    by_cases q4:Fm.Shp n x.kids[i]
    case neg=>simp -implicitDefEqProofs (disch:=first|omega|(simp only[LnZ];omega))[wrap64,q4];exact RetK.keep (hno fun hh=>q4 (hh.kid hlx))
    simp -implicitDefEqProofs (disch:=first|omega|(simp only[LnZ];omega))[wrap64,q4]
    refine hJ _ _ hlx ⟨rfl,⟨kd,vl,hkd,hvl,by simp⟩,fun y hy=>?_⟩
    rw[List.take_add_one,List.getElem?_eq_getElem hlx] at hy
    rcases List.mem_append.1 hy with hy | hy
    ·exact hall y hy
    ·simp at hy;subst hy;exact q4
   ·simp -implicitDefEqProofs (disch:=omega)[wrap64]
    rw[List.take_of_length_le (by omega)] at hall
    refine RetK.keep (hk _ _ ⟨rfl,?_⟩)
    rw[decide_eq_true (show Fm.Shp (n+1) x from ⟨⟨by omega,by omega,by omega,by omega⟩,hall⟩)]
theorem c_l5Count:∀(n:Nat) {x:Exq}{h:Heap}{v:Value}{dv:Int},dv=n→n≤6→Fm.Shp n x→Rep h v x→CallE Tryz.prog fn_spec_l5Count [v,.int .i64 dv] h (fun u h'=>h'=h∧u=.int .i64 x.nod):=by
 intro n
 induction n with
 | zero=>intro x h v dv hd _ hs;exact hs.elim
 | succ n ih=>
  intro x h v dv hd hd6 hs R
  obtain⟨w,rfl,k1,k2,R1⟩:=Rep_Exq.1 R
  have hL:=R1.lt
  have hbnd:=hs.bnd
  have hpow:2^(n+1)≤2^6:=Nat.pow_le_pow_right (by decide) hd6
  have hnod:=x.nod_eq
  refine CallE.gen fun k hk=>EN_spec_l5Count rfl ?_
  simp -implicitDefEqProofs (disch:=omega)[wrap64]
  refine wp_count x.kids.length (fun i e h'=>h'=h∧e=[none,some (.int .i64 dv),some (.agg #[.int .i64 x.kind,.int .i64 x.val,w]),none,some (.int .i64 ((1+Exq.nods (x.kids.take i):Nat):Int)),some (.int .i64 i)]) ⟨rfl,by simp[Exq.nods]⟩ ?_
  rintro J i _ _ hJ hi ⟨rfl,rfl⟩
  by_cases hlt:i<x.kids.length
  ·obtain⟨u,hu,Ru⟩:=R1.ld hlt
   change hload _ (some (elp 3 w i)) (some 3)=some u at hu
   have hn1:=Exq.nods_take hlt
   have hn2:=Exq.nods_le x.kids (i+1)
   simp -implicitDefEqProofs (disch:=first|omega|(simp only[LnZ];omega))[wrap64,hlt,R1.len,R1.X (n:=3) rfl,hu,show 0<dv by omega]
   refine (ih (dv:=dv-1) (by omega) (by omega) (hs.kid hlt) Ru).go ?_
   rintro _ _ ⟨rfl,rfl⟩
   simp -implicitDefEqProofs (disch:=omega)[wrap64]
   refine hJ _ _ hlt ⟨rfl,?_⟩
   simp[hn1];omega
  ·simp -implicitDefEqProofs (disch:=first|omega|(simp only[LnZ];omega))[wrap64,hlt,R1.len]
   rw[List.take_of_length_le (by omega)]
   refine RetK.keep (hk _ _ ⟨rfl,?_⟩)
   rw[hnod];push_cast;rfl
theorem c_spec_FormulaValid {h:Heap}{v:Value}{x:Exq}(R:Rep h v x):CallE Tryz.prog fn_spec_FormulaValid [v] h (fun u h'=>h'=h∧u=.bool (decide (Fm.Ok x))):=by
 have F:=R.aExq
 refine CallE.gen fun k hk=>EN_spec_FormulaValid rfl ?_
 simp -implicitDefEqProofs (disch:=first|omega|(simp only[LnZ];omega))[wrap64,F]
 refine (c_l5Shape 6 (dv:=6) rfl (by omega) R).go ?_
 rintro _ _ ⟨rfl,rfl⟩
 by_cases q1:Fm.Shp 6 x
 case neg=>simp -implicitDefEqProofs (disch:=first|omega|(simp only[LnZ];omega))[wrap64,q1];exact RetK.keep (hk _ _ ⟨rfl,by rw[decide_eq_false (fun hh:Fm.Ok x=>q1 hh.1)]⟩)
 simp -implicitDefEqProofs (disch:=first|omega|(simp only[LnZ];omega))[wrap64,q1,F]
 refine (c_l5Count 6 (dv:=6) rfl (by omega) q1 R).go ?_
 rintro _ _ ⟨rfl,rfl⟩
 simp -implicitDefEqProofs (disch:=omega)[wrap64]
 refine RetK.keep (hk _ _ ⟨rfl,?_⟩)
 congr 1
 rw[Bool.eq_iff_iff]
 simp[Fm.Ok,q1]
 omega
theorem c_spec_FormulaSame:∀(x:Exq) {h:Heap}{a b:Value}{y:Exq},Rep h a x→Rep h b y→CallE Tryz.prog fn_spec_FormulaSame [a,b] h (fun u h'=>h'=h∧u=.bool (decide (x=y))):=by
 refine Exq.ind fun x ih h a b y Ra Rb=>?_
 obtain⟨w,rfl,k1,k2,R1⟩:=Rep_Exq.1 Ra
 obtain⟨w2,rfl,k3,k4,R2⟩:=Rep_Exq.1 Rb
 have hL:=R1.lt
 refine CallE.gen fun k hk=>EN_spec_FormulaSame rfl ?_
 by_cases h1:x.kind=y.kind
 case neg=>
  simp -implicitDefEqProofs (disch:=first|omega|(simp only[LnZ];omega))[wrap64,h1]
  exact RetK.keep (hk _ _ ⟨rfl,by simp[Exq.ext_iff',h1]⟩)
 by_cases h2:x.val=y.val
 case neg=>
  simp -implicitDefEqProofs (disch:=first|omega|(simp only[LnZ];omega))[wrap64,h1,h2]
  exact RetK.keep (hk _ _ ⟨rfl,by simp[Exq.ext_iff',h2]⟩)
 by_cases h3:(x.kids.length:Int)=y.kids.length
 case neg=>
  simp -implicitDefEqProofs (disch:=first|omega|(simp only[LnZ];omega))[wrap64,h1,h2,R1.len,R2.len,h3]
  exact RetK.keep (hk _ _ ⟨rfl,by rw[eq_comm,Value.bool.injEq,decide_eq_false_iff_not];intro e;rw[e] at h3;exact h3 rfl⟩)
 simp -implicitDefEqProofs (disch:=first|omega|(simp only[LnZ];omega))[wrap64,h1,h2,R1.len,R2.len,h3]
 refine wp_count x.kids.length (fun i e h'=>h'=h∧e=[none,none,some (.agg #[.int .i64 y.kind,.int .i64 y.val,w]),some (.agg #[.int .i64 y.kind,.int .i64 y.val,w2]),none,some (.int .i64 i)]∧x.kids.take i=y.kids.take i) ⟨rfl,by simp[h1,h2],rfl⟩ ?_
 rintro J i _ _ hJ hi ⟨rfl,rfl,hq⟩
 simp -implicitDefEqProofs (disch:=first|omega|(simp only[LnZ];omega))[wrap64,R1.len]
 refine IteW.mk (fun hlt=>?_) (fun hge=>?_)
 ·have hlx:i<x.kids.length:=by omega
  have hly:i<y.kids.length:=by omega
  obtain⟨u,hu,Ru⟩:=R1.ld hlx
  obtain⟨t,ht,Rt⟩:=R2.ld hly
  change hload _ (some (elp 3 w i)) (some 3)=some u at hu
  change hload _ (some (elp 3 w2 i)) (some 3)=some t at ht
  simp -implicitDefEqProofs (disch:=first|omega|(simp only[LnZ];omega))[wrap64,R1.X (n:=3) rfl,R2.X (n:=3) rfl,hu,ht,Ru.aExq,Rt.aExq]
  refine (ih _ (List.getElem_mem hlx) Ru Rt).go ?_
  rintro _ _ ⟨rfl,rfl⟩
  by_cases he:x.kids[i]=y.kids[i]
  ·simp -implicitDefEqProofs (disch:=first|omega|(simp only[LnZ];omega))[wrap64,he]
   exact hJ _ _ hlx ⟨rfl,by simp,take_step hq hlx hly he⟩
  ·simp -implicitDefEqProofs (disch:=first|omega|(simp only[LnZ];omega))[wrap64,he]
   exact RetK.keep (hk _ _ ⟨rfl,by rw[eq_comm,Value.bool.injEq,decide_eq_false_iff_not];intro e;subst e;exact he rfl⟩)
 ·simp -implicitDefEqProofs (disch:=omega)[wrap64]
  rw[List.take_of_length_le (by omega),List.take_of_length_le (by omega)] at hq
  exact RetK.keep (hk _ _ ⟨rfl,by simp[Exq.ext_iff',h1,h2,hq]⟩)
theorem c_l5Find {h:Heap}{v w:Value}{xs:List Exq}{x:Exq}(R:Rep h v xs) (Rx:Rep h w x):CallE Tryz.prog fn_spec_l5Find [v,w] h (fun u h'=>h'=h∧u=.int .i64 (Fm.fx xs x)):=by
 have hL:=R.lt
 have FX:=Rx.aExq
 refine CallE.gen fun k hk=>EN_spec_l5Find rfl ?_
 simp -implicitDefEqProofs (disch:=first|omega|(simp only[LnZ];omega))[wrap64,FX]
 refine wp_count xs.length (fun i e h'=>e=[some v,none,some w,none,some (.int .i64 i)]∧h'=h∧∀(j:Nat) (hj:j<xs.length),j<i→xs[j]≠x) ⟨by simp,rfl,fun j _ hj=>absurd hj (Nat.not_lt_zero j)⟩ ?_
 rintro J i _ h hJ hi ⟨rfl,rfl,hn⟩
 simp -implicitDefEqProofs (disch:=first|omega|(simp only[LnZ];omega))[wrap64,R.len]
 refine IteW.mk (fun hlt=>?_) (fun hge=>?_)
 ·have hlx:i<xs.length:=by omega
  obtain⟨u,hu,Ru⟩:=R.ld hlx
  change hload _ (some (elp 3 v i)) (some 3)=some u at hu
  simp -implicitDefEqProofs (disch:=first|omega|(simp only[LnZ];omega))[wrap64,R.X (n:=3) rfl,hu,FX,Ru.aExq]
  refine (c_spec_FormulaSame _ Ru Rx).go ?_
  rintro _ h ⟨rfl,rfl⟩
  by_cases e:xs[i]=x
  ·simp -implicitDefEqProofs (disch:=first|omega|(simp only[LnZ];omega))[wrap64,e]
   exact RetK.keep (hk _ _ ⟨rfl,by rw[Fm.fx_at hlx e hn]⟩)
  ·simp -implicitDefEqProofs (disch:=first|omega|(simp only[LnZ];omega))[wrap64,e]
   refine hJ _ _ hlx ⟨by simp,rfl,fun j hj hji=>?_⟩
   by_cases hji2:j=i
   ·subst hji2;exact e
   ·exact hn j hj (by omega)
 ·simp -implicitDefEqProofs (disch:=omega)[wrap64]
  refine RetK.keep (hk _ _ ⟨rfl,?_⟩)
  rw[Fm.fx_not]
  intro hm
  obtain⟨j,hj,h1⟩:=List.mem_iff_getElem.1 hm
  exact hn j hj (by omega) h1
theorem nod_kid {x:Exq}{i:Nat}(hi:i<x.kids.length):x.kids[i].nod+1≤x.nod:=by
 have e1:=Exq.nods_take hi
 have e2:=Exq.nods_le x.kids (i+1)
 rw[Exq.nod_eq x]
 omega
theorem nods_len:∀l:List Exq,l.length≤Exq.nods l
 | []=>by simp
 | x::l=>by
  have:=nods_len l
  have:=x.nod_eq
  simp only[List.length_cons,Exq.nods]
  omega
theorem c_l5Copy:∀(x:Exq) {h:Heap}{v:Value},x.nod≤1048576→Rep h v x→CallE Tryz.prog fn_spec_l5Copy [v] h (fun u h'=>HS h [ow u x] h'):=by
 refine Exq.ind fun x ih h v hs R=>?_
 obtain⟨w,rfl,k1,k2,R1⟩:=Rep_Exq.1 R
 have hL:=R1.lt
 have hkl:=nods_len x.kids
 have hne:=x.nod_eq
 refine CallE.gen fun k hk=>EN_spec_l5Copy rfl ?_
 simp -implicitDefEqProofs (disch:=first|omega|(simp only[LnZ];omega))[wrap64,setC]
 refine wp_count x.kids.length (fun i e h'=>∃o:Value,e=[none,some (.agg #[.int .i64 x.kind,.int .i64 x.val,w]),some (.agg #[.int .i64 0,.int .i64 0,.slice none 0 0]),some (.agg #[.int .i64 x.kind,.int .i64 x.val,o]),some (.int .i64 i)]∧HS h [ow o (x.kids.take i)] h') ⟨.slice none 0 0,by simp,by simpa using HS.init.nil_ow (α:=Exq)⟩ ?_
 rintro J i _ h2 hJ hi ⟨o,rfl,H⟩
 simp -implicitDefEqProofs (disch:=first|omega|(simp only[LnZ];omega))[wrap64,R1.len]
 refine IteW.mk (fun hlt=>?_) (fun hge=>?_)
 ·have hlx:i<x.kids.length:=by omega
  have hnk:=nod_kid hlx
  obtain⟨u,hu,Ru⟩:=R1.ld hlx
  have hu2:=hload_le H.base hu
  change hload _ (some (elp 3 w i)) (some 3)=some u at hu2
  simp -implicitDefEqProofs (disch:=first|omega|(simp only[LnZ];omega))[wrap64,R1.X (n:=3) rfl,hu2]
  refine (ih _ (List.getElem_mem hlx) (by omega) (Ru.on H)).go ?_
  intro y h3 G
  have H:=G.app H
  have FG:=G.rep.aExq
  obtain⟨y1,rfl,_,_,_⟩:=G.unExq
  simp -implicitDefEqProofs (disch:=first|omega|(simp only[LnZ];omega))[wrap64,FG,setC]
  refine HS.appO (bytes:=40) H rfl rfl rfl rfl rfl (by simp;omega) (by simp;omega) fun o' h4 H=>?_
  simp -implicitDefEqProofs (disch:=first|omega|(simp only[LnZ];omega))[wrap64,H.rep.cells,H.rep.one,setC]
  refine hJ _ _ hlx ⟨o',by simp,?_⟩
  rw[List.take_add_one,List.getElem?_eq_getElem hlx]
  exact H
 ·simp -implicitDefEqProofs (disch:=first|omega|(simp only[LnZ];omega))[wrap64,H.rep.one,setC]
  rw[List.take_of_length_le (by omega)] at H
  exact RetK.keep (hk _ _ (H.mkExq k1 k2))
theorem c_l5Subs:∀(x:Exq) {g h:Heap}{Γ:List HP}{v o:Value}{out:List Exq},out.length+x.nod≤1048576→Rep g v x→HS g (ow o out::Γ) h →
  CallE Tryz.prog fn_spec_l5Subs [o,v] h (fun u h'=>HS g (ow u (Fm.subs x out)::Γ) h'):=by
 refine Exq.ind fun x ih g h Γ v o out hs R H=>?_
 have R0:=R
 obtain⟨w,rfl,k1,k2,R1⟩:=Rep_Exq.1 R
 have hL:=R1.lt
 have hkl:=nods_len x.kids
 have hne:=x.nod_eq
 have hse:=Fm.subs_eq x out
 refine CallE.gen fun k hk=>EN_spec_l5Subs rfl ?_
 simp -implicitDefEqProofs (disch:=omega)[wrap64]
 refine wp_count x.kids.length (fun i e h'=>∃o:Value,e=[some o,none,some (.agg #[.int .i64 x.kind,.int .i64 x.val,w]),none,some (.int .i64 i)]∧HS g (ow o ((x.kids.take i).foldl (fun o x=>Fm.subs x o) out)::Γ) h') ⟨o,by simp,by simpa using H⟩ ?_
 clear H
 rintro J i _ h2 hJ hi ⟨o,rfl,H⟩
 simp -implicitDefEqProofs (disch:=first|omega|(simp only[LnZ];omega))[wrap64,R1.len]
 refine IteW.mk (fun hlt=>?_) (fun hge=>?_)
 ·have hlx:i<x.kids.length:=by omega
  have hnk:=Exq.nods_take hlx
  have hnl:=Exq.nods_le x.kids (i+1)
  have hfl:=Fm.subsL_len (x.kids.take i) (fun y _ o=>Fm.subs_len y o) out
  have hft:=foldl_tk (f:=fun o x=>Fm.subs x o) (b:=out) hlx
  generalize (x.kids.take i).foldl (fun o x=>Fm.subs x o) out=D at *
  obtain⟨u,hu,Ru⟩:=R1.ld hlx
  have hu2:=hload_le H.base hu
  change hload _ (some (elp 3 w i)) (some 3)=some u at hu2
  simp -implicitDefEqProofs (disch:=first|omega|(simp only[LnZ];omega))[wrap64,R1.X (n:=3) rfl,hu2]
  refine (ih _ (List.getElem_mem hlx) (by omega) Ru H).go ?_
  intro o' h3 H
  simp -implicitDefEqProofs (disch:=omega)[wrap64]
  exact hJ _ _ hlx ⟨o',by simp,by rw[hft];exact H⟩
 have hfl:=Fm.subsL_len x.kids (fun y _ o=>Fm.subs_len y o) out
 rw[List.take_of_length_le (by omega)] at H
 generalize x.kids.foldl (fun o x=>Fm.subs x o) out=D at *
 have FX:=R0.aExq
 simp -implicitDefEqProofs (disch:=first|omega|(simp only[LnZ];omega))[wrap64,FX]
 refine (c_l5Find H.rep (R0.on H)).go ?_
 rintro _ h3 ⟨rfl,rfl⟩
 rw[hse] at hk
 by_cases hm:x∈D
 ·have hf:¬Fm.fx D x<0:=fun e=>Fm.fx_neg.1 e hm
  simp -implicitDefEqProofs (disch:=first|omega|(simp only[LnZ];omega))[wrap64,hf]
  exact RetK.keep (hk _ _ (by rw[Fm.ins,if_pos hm];exact H))
 ·have hf:=Fm.fx_neg.2 hm
  simp -implicitDefEqProofs (disch:=first|omega|(simp only[LnZ];omega))[wrap64,hf,FX]
  refine (c_l5Copy x (by omega) (R0.on H)).go ?_
  intro y h4 G
  have H:=G.app H
  have FG:=G.rep.aExq
  obtain⟨y1,rfl,_,_,_⟩:=G.unExq
  simp -implicitDefEqProofs (disch:=first|omega|(simp only[LnZ];omega))[wrap64,FG,setC]
  refine HS.appO (bytes:=40) H rfl rfl rfl rfl rfl (by omega) (by omega) fun o' h5 H=>?_
  simp -implicitDefEqProofs (disch:=omega)[wrap64]
  exact RetK.keep (hk _ _ (by rw[Fm.ins,if_neg hm];exact H))
end Go.Proofs.YtielhfonnleldaaGreat
