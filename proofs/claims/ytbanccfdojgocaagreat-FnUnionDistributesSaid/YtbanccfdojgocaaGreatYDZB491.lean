/-
  Texts of this proof, one behind the other.
-/
import Derived.Test.YtbanccfdojgocaaGreatYF7
set_option linter.all false
set_option linter.unusedVariables false
set_option linter.unusedSimpArgs false
set_option linter.defProp false
set_option maxRecDepth 1000000
namespace Go.Proofs.YtbanccfdojgocaaGreat
open Go
def H_impl_UniteAutomata:Hint:=⟨[(0,false),(1,false),(2,true),(3,true),(4,true),(5,false),(6,false),(7,true),(9,false),(11,true),(27,false),(28,false),(29,false),(49,false),(50,false),(51,false)],[[0,1,2,5,8,9,13,14,15],[0,1,2,3,5,8,9,10,11,12]]⟩
def K24_1:Pl:=.o (.pset none 4 0 3 (.v 17)) <|
 .x 5 (.mv (.c (.bool true))) .done
@[simp] def W24_1 := Pl.w K24_1.eq_1
def K24_2:C:=.seq (.pl <| .e 16 2 <|
 .o (.pget (some 16) none 7 0 (some 3)) <|
 .c 17 (.call fn_impl_Automaton_copyOf [.v 16]) K24_1) (.ret)
@[simp] def W24_2 := C.w K24_2.eq_1
def K24_3:C:=.seq (.pl <| .e 16 1 <|
 .x 16 (.build [.slice none 0 0,.slice none 0 0,.slice none 0 0] []) <|
 .o (.pset none 4 0 3 (.v 16)) <|
 .x 5 (.mv (.c (.bool false))) .done) (.ret)
@[simp] def W24_3 := C.w K24_3.eq_1
def K24_4:C:=.cond 16 (.v 18) K24_3 (.skip)
@[simp] def W24_4 := C.w K24_4.eq_1
def K24_5:Pl:=.x 18 (.un .not (.v 17)) .done
@[simp] def W24_5 := Pl.w K24_5.eq_1
def K24_6:C:=.seq (.seq (.pl <| .e 16 3 <|
 .o (.pget (some 16) none 7 0 (some 3)) <|
 .c 17 (.call fn_impl_AutomatonValid [.v 16]) K24_5) K24_4) K24_2
@[simp] def W24_6 := C.w K24_6.eq_1
def K24_7:C:=.pl <| .e 16 1 <|
 .x 16 (.bin .add (.v 15) (.c (.int .i64 1))) <|
 .m 15 16 .done
@[simp] def W24_7 := C.w K24_7.eq_1
def K24_8:Pl:=.a 33 7 <|
 .o (.pset (some 33) 7 2 1 (.v 32)) .done
@[simp] def W24_8 := Pl.w K24_8.eq_1
def K24_9:C:=.pl <| .e 16 18 <|
 .a 16 7 <|
 .g 17 16 7 2 <|
 .a 18 9 <|
 .g 19 18 9 0 <|
 .m 20 6 <|
 .x 21 (.bin .add (.v 19) (.v 20)) <|
 .a 22 9 <|
 .g 23 22 9 1 <|
 .a 24 9 <|
 .g 25 24 9 2 <|
 .a 26 9 <|
 .g 27 26 9 3 <|
 .m 28 6 <|
 .x 29 (.bin .add (.v 27) (.v 28)) <|
 .x 30 (.build [.int .i64 0,.int .i64 0,.int .i64 0,.int .i64 0] [(0,1,.v 21),(1,1,.v 23),(2,1,.v 25),(3,1,.v 29)]) <|
 .o (.psl 31 [.int .i64 0,.int .i64 0,.int .i64 0,.int .i64 0] [(0,4,.v 30)]) <|
 .c 32 (.app 32 4 [.int .i64 0,.int .i64 0,.int .i64 0,.int .i64 0] (.o (.v 17)) (.p 1 31)) K24_8
@[simp] def W24_9 := C.w K24_9.eq_1
def K24_10:C:=.seq (.block 3 (.seq (.pl <| .e 16 2 <|
 .x 16 (.ia 4 (.v 13) (.v 15)) <|
 .o (.ld (some 17) (.v 16) (some 4)) <|
 .o (.pnew 9 (.c (.agg #[.int .i64 0,.int .i64 0,.int .i64 0,.int .i64 0])) []) <|
 .o (.pset none 9 0 4 (.v 17)) .done) K24_9)) K24_7
@[simp] def W24_10 := C.w K24_10.eq_1
def K24_11:C:=.seq (.cond 16 (.v 16) (.skip) (.exit 2)) K24_10
@[simp] def W24_11 := C.w K24_11.eq_1
def K24_12:C:=.seq (.pl <| .e 16 1 <|
 .x 16 (.bin .lss (.v 15) (.v 14)) .done) K24_11
@[simp] def W24_12 := C.w K24_12.eq_1
def K24_13:C:=.block 2 (.loop 16 [0,1,2,3,5,8,9,10,11,12] K24_12)
@[simp] def W24_13 := C.w K24_13.eq_1
def K24_14:C:=.seq (.seq (.pl <| .e 16 1 <|
 .a 16 3 <|
 .g 13 16 3 2 <|
 .x 14 (.lenV (.v 13)) <|
 .x 15 (.mv (.c (.int .i64 0))) .done) K24_13) K24_6
@[simp] def W24_14 := C.w K24_14.eq_1
def K24_15:Pl:=.a 21 7 <|
 .o (.pset (some 21) 7 1 1 (.v 20)) .done
@[simp] def W24_15 := Pl.w K24_15.eq_1
def K24_16:C:=.seq (.pl <| .e 16 6 <|
 .a 16 7 <|
 .g 17 16 7 1 <|
 .a 18 3 <|
 .g 19 18 3 1 <|
 .c 20 (.app 1 1 [.bool false] (.o (.v 17)) (.o (.v 19))) K24_15) K24_14
@[simp] def W24_16 := C.w K24_16.eq_1
def K24_17:C:=.pl <| .e 16 1 <|
 .x 16 (.bin .add (.v 12) (.c (.int .i64 1))) <|
 .m 12 16 .done
@[simp] def W24_17 := C.w K24_17.eq_1
def K24_18:Pl:=.a 23 7 <|
 .o (.pset (some 23) 7 0 1 (.v 22)) .done
@[simp] def W24_18 := Pl.w K24_18.eq_1
def K24_19:C:=.pl <| .e 16 8 <|
 .a 16 7 <|
 .g 17 16 7 0 <|
 .m 18 8 <|
 .m 19 6 <|
 .x 20 (.bin .add (.v 18) (.v 19)) <|
 .o (.psl 21 [.int .i64 0] [(0,1,.v 20)]) <|
 .c 22 (.app 8 1 [.int .i64 0] (.o (.v 17)) (.p 1 21)) K24_18
@[simp] def W24_19 := C.w K24_19.eq_1
def K24_20:C:=.seq (.block 1 (.seq (.pl <| .e 16 2 <|
 .x 16 (.ia 1 (.v 10) (.v 12)) <|
 .l 17 16 <|
 .m 8 17 .done) K24_19)) K24_17
@[simp] def W24_20 := C.w K24_20.eq_1
def K24_21:C:=.seq (.cond 16 (.v 16) (.skip) (.exit 0)) K24_20
@[simp] def W24_21 := C.w K24_21.eq_1
def K24_22:C:=.seq (.pl <| .e 16 1 <|
 .x 16 (.bin .lss (.v 12) (.v 11)) .done) K24_21
@[simp] def W24_22 := C.w K24_22.eq_1
def K24_23:C:=.block 0 (.loop 16 [0,1,2,5,8,9,13,14,15] K24_22)
@[simp] def W24_23 := C.w K24_23.eq_1
def K24_24:C:=.seq (.seq (.pl <| .e 16 1 <|
 .a 16 3 <|
 .g 10 16 3 0 <|
 .x 11 (.lenV (.v 10)) <|
 .x 12 (.mv (.c (.int .i64 0))) .done) K24_23) K24_16
@[simp] def W24_24 := C.w K24_24.eq_1
def K24_25:Pl:=.o (.pnew 7 (.c (.agg #[.slice none 0 0,.slice none 0 0,.slice none 0 0])) []) <|
 .o (.pset none 7 0 3 (.v 17)) .done
@[simp] def W24_25 := Pl.w K24_25.eq_1
def K24_26:C:=.seq (.pl <| .e 16 2 <|
 .o (.pget (some 16) none 2 0 (some 3)) <|
 .c 17 (.call fn_impl_Automaton_copyOf [.v 16]) K24_25) K24_24
@[simp] def W24_26 := C.w K24_26.eq_1
def K24_27:C:=.seq (.pl <| .e 16 3 <|
 .a 16 2 <|
 .g 17 16 2 1 <|
 .x 18 (.lenV (.v 17)) <|
 .m 6 18 .done) K24_26
@[simp] def W24_27 := C.w K24_27.eq_1
def K24_28:C:=.seq (.pl <| .e 16 1 <|
 .x 16 (.build [.slice none 0 0,.slice none 0 0,.slice none 0 0] []) <|
 .o (.pset none 4 0 3 (.v 16)) <|
 .x 5 (.mv (.c (.bool false))) .done) (.ret)
@[simp] def W24_28 := C.w K24_28.eq_1
def K24_29:C:=.cond 16 (.v 23) K24_28 (.skip)
@[simp] def W24_29 := C.w K24_29.eq_1
def K24_30:Pl:=.n 19 (.px (some 22) (.un .not (.v 21))) <|
 .x 23 (.pick (.v 19) (.c (.bool true)) (.v 22)) .done
@[simp] def W24_30 := Pl.w K24_30.eq_1
def K24_31:Pl:=.x 18 (.un .not (.v 17)) <|
 .m 19 18 <|
 .n 19 (.pget (some 20) none 3 0 (some 3)) <|
 .st (.act (some (.v 19,false)) (.ex (some 21) (.call fn_impl_AutomatonValid [.v 20]))) K24_30
@[simp] def W24_31 := Pl.w K24_31.eq_1
def K24_32:C:=.seq (.seq (.pl <| .e 16 8 <|
 .o (.pget (some 16) none 2 0 (some 3)) <|
 .c 17 (.call fn_impl_AutomatonValid [.v 16]) K24_31) K24_29) K24_27
@[simp] def W24_32 := C.w K24_32.eq_1
def B_impl_UniteAutomata:C:=.seq (.pl <| .e 16 0 <|
 .o (.pnew 2 (.v 0) []) <|
 .o (.pnew 3 (.v 1) []) <|
 .o (.pnew 4 (.c (.agg #[.slice none 0 0,.slice none 0 0,.slice none 0 0])) []) <|
 .x 5 (.mv (.c (.bool false))) .done) K24_32
@[simp] def WB_impl_UniteAutomata := C.w B_impl_UniteAutomata.eq_1
def R_impl_UniteAutomata:FIR:=⟨B_impl_UniteAutomata,16,[(4,some (some 3)),(5,none)]⟩
theorem IR_impl_UniteAutomata:cfun Tryz.prog H_impl_UniteAutomata Tryz.f24=some R_impl_UniteAutomata:=by kernel_rfl
theorem EN_impl_UniteAutomata:ENT Tryz.prog B_impl_UniteAutomata [(4,some (some 3)),(5,none)] 2 16 fn_impl_UniteAutomata:=fun hargs hw=>enter Tryz.func24 rfl IR_impl_UniteAutomata hargs hw
def H_laws_FnUnionDistributes:Hint:=⟨[(0,false),(1,false),(4,false),(5,true),(6,true),(7,true),(8,true),(9,true),(10,false),(11,true),(12,false),(13,true),(14,false),(15,true),(16,false),(17,true),(18,false),(19,false),(20,false),(21,false),(22,false)],[]⟩
def K6_1:C:=.seq (.pl <| .e 21 8 <|
 .m 21 18 <|
 .m 22 20 <|
 .x 23 (.eqb false (.v 21) (.v 22)) <|
 .m 24 23 <|
 .y 24 (.px (some 25) (.mv (.v 17))) <|
 .y 24 (.px (some 26) (.mv (.v 19))) <|
 .y 24 (.px (some 27) (.eqb false (.v 25) (.v 26))) <|
 .x 28 (.pick (.v 24) (.v 27) (.c (.bool false))) <|
 .m 2 28 .done) (.ret)
@[simp] def W6_1 := C.w K6_1.eq_1
def K6_2:Pl:=.m 24 23 <|
 .x 25 (.extract 0 (.v 24)) <|
 .x 26 (.extract 1 (.v 24)) <|
 .m 19 25 <|
 .m 20 26 .done
@[simp] def W6_2 := Pl.w K6_2.eq_1
def K6_3:C:=.seq (.pl <| .e 21 6 <|
 .o (.pget (some 21) none 15 0 (some 3)) <|
 .o (.pget (some 22) none 6 0 (some 2)) <|
 .c 23 (.call fn_impl_Accepts [.v 21,.v 22]) K6_2) K6_1
@[simp] def W6_3 := C.w K6_3.eq_1
def K6_4:Pl:=.m 24 23 <|
 .x 25 (.extract 0 (.v 24)) <|
 .x 26 (.extract 1 (.v 24)) <|
 .m 17 25 <|
 .m 18 26 .done
@[simp] def W6_4 := Pl.w K6_4.eq_1
def K6_5:C:=.seq (.pl <| .e 21 6 <|
 .o (.pget (some 21) none 13 0 (some 3)) <|
 .o (.pget (some 22) none 6 0 (some 2)) <|
 .c 23 (.call fn_impl_Accepts [.v 21,.v 22]) K6_4) K6_3
@[simp] def W6_5 := C.w K6_5.eq_1
def K6_6:C:=.seq (.pl <| .e 21 0 <|
 .x 2 (.mv (.c (.bool true))) .done) (.ret)
@[simp] def W6_6 := C.w K6_6.eq_1
def K6_7:C:=.cond 21 (.v 26) K6_6 (.skip)
@[simp] def W6_7 := C.w K6_7.eq_1
def K6_8:C:=.seq (.seq (.pl <| .e 21 6 <|
 .m 21 14 <|
 .x 22 (.un .not (.v 21)) <|
 .m 23 22 <|
 .n 23 (.px (some 24) (.mv (.v 16))) <|
 .n 23 (.px (some 25) (.un .not (.v 24))) <|
 .x 26 (.pick (.v 23) (.c (.bool true)) (.v 25)) .done) K6_7) K6_5
@[simp] def W6_8 := C.w K6_8.eq_1
def K6_9:Pl:=.m 24 23 <|
 .x 25 (.extract 0 (.v 24)) <|
 .x 26 (.extract 1 (.v 24)) <|
 .o (.pnew 15 (.c (.agg #[.slice none 0 0,.slice none 0 0,.slice none 0 0])) []) <|
 .o (.pset none 15 0 3 (.v 25)) <|
 .m 16 26 .done
@[simp] def W6_9 := Pl.w K6_9.eq_1
def K6_10:C:=.seq (.pl <| .e 21 6 <|
 .o (.pget (some 21) none 7 0 (some 3)) <|
 .o (.pget (some 22) none 11 0 (some 3)) <|
 .c 23 (.call fn_impl_UniteAutomata [.v 21,.v 22]) K6_9) K6_8
@[simp] def W6_10 := C.w K6_10.eq_1
def K6_11:Pl:=.m 26 25 <|
 .x 27 (.extract 0 (.v 26)) <|
 .x 28 (.extract 1 (.v 26)) <|
 .o (.pnew 13 (.c (.agg #[.slice none 0 0,.slice none 0 0,.slice none 0 0])) []) <|
 .o (.pset none 13 0 3 (.v 27)) <|
 .m 14 28 .done
@[simp] def W6_11 := Pl.w K6_11.eq_1
def K6_12:Pl:=.x 24 (.build [.int .i64 0,.int .i64 0,.slice none 0 0] [(0,1,.c (.int .i64 5)),(2,1,.v 23)]) <|
 .c 25 (.call fn_impl_TranslateFormula [.v 24]) K6_11
@[simp] def W6_12 := Pl.w K6_12.eq_1
def K6_13:C:=.seq (.pl <| .e 21 8 <|
 .o (.pget (some 21) none 3 0 (some 3)) <|
 .o (.pget (some 22) none 4 0 (some 3)) <|
 .c 23 (.bls 3 2 [.int .i64 0,.int .i64 0,.slice none 0 0] [(0,3,.v 21),(3,3,.v 22)]) K6_12) K6_10
@[simp] def W6_13 := C.w K6_13.eq_1
def K6_14:Pl:=.x 28 (.pick (.v 24) (.v 27) (.c (.bool false))) <|
 .m 2 28 .done
@[simp] def W6_14 := Pl.w K6_14.eq_1
def K6_15:C:=.seq (.pl <| .e 21 8 <|
 .m 21 8 <|
 .m 22 10 <|
 .x 23 (.eqb false (.v 21) (.v 22)) <|
 .m 24 23 <|
 .y 24 (.pget (some 25) none 7 0 (some 3)) <|
 .y 24 (.pget (some 26) none 9 0 (some 3)) <|
 .st (.act (some (.v 24,true)) (.ex (some 27) (.call fn_impl_AutomatonSame [.v 25,.v 26]))) K6_14) (.ret)
@[simp] def W6_15 := C.w K6_15.eq_1
def K6_16:C:=.cond 21 (.v 37) K6_15 (.skip)
@[simp] def W6_16 := C.w K6_16.eq_1
def K6_17:Pl:=.n 24 (.px (some 28) (.un .not (.v 27))) <|
 .x 29 (.pick (.v 24) (.c (.bool true)) (.v 28)) <|
 .m 30 29 <|
 .n 30 (.px (some 31) (.mv (.v 8))) <|
 .n 30 (.px (some 32) (.un .not (.v 31))) <|
 .x 33 (.pick (.v 30) (.c (.bool true)) (.v 32)) <|
 .m 34 33 <|
 .n 34 (.px (some 35) (.mv (.v 12))) <|
 .n 34 (.px (some 36) (.un .not (.v 35))) <|
 .x 37 (.pick (.v 34) (.c (.bool true)) (.v 36)) .done
@[simp] def W6_17 := Pl.w K6_17.eq_1
def K6_18:C:=.seq (.seq (.pl <| .e 21 17 <|
 .m 21 8 <|
 .m 22 10 <|
 .x 23 (.eqb true (.v 21) (.v 22)) <|
 .m 24 23 <|
 .n 24 (.pget (some 25) none 7 0 (some 3)) <|
 .n 24 (.pget (some 26) none 9 0 (some 3)) <|
 .st (.act (some (.v 24,false)) (.ex (some 27) (.call fn_impl_AutomatonSame [.v 25,.v 26]))) K6_17) K6_16) K6_13
@[simp] def W6_18 := C.w K6_18.eq_1
def K6_19:Pl:=.m 23 22 <|
 .x 24 (.extract 0 (.v 23)) <|
 .x 25 (.extract 1 (.v 23)) <|
 .o (.pnew 11 (.c (.agg #[.slice none 0 0,.slice none 0 0,.slice none 0 0])) []) <|
 .o (.pset none 11 0 3 (.v 24)) <|
 .m 12 25 .done
@[simp] def W6_19 := Pl.w K6_19.eq_1
def K6_20:C:=.seq (.pl <| .e 21 5 <|
 .o (.pget (some 21) none 4 0 (some 3)) <|
 .c 22 (.call fn_impl_TranslateFormula [.v 21]) K6_19) K6_18
@[simp] def W6_20 := C.w K6_20.eq_1
def K6_21:Pl:=.m 23 22 <|
 .x 24 (.extract 0 (.v 23)) <|
 .x 25 (.extract 1 (.v 23)) <|
 .o (.pnew 9 (.c (.agg #[.slice none 0 0,.slice none 0 0,.slice none 0 0])) []) <|
 .o (.pset none 9 0 3 (.v 24)) <|
 .m 10 25 .done
@[simp] def W6_21 := Pl.w K6_21.eq_1
def K6_22:C:=.seq (.pl <| .e 21 5 <|
 .o (.pget (some 21) none 3 0 (some 3)) <|
 .c 22 (.call fn_spec_TranslateFormula [.v 21]) K6_21) K6_20
@[simp] def W6_22 := C.w K6_22.eq_1
def K6_23:Pl:=.m 23 22 <|
 .x 24 (.extract 0 (.v 23)) <|
 .x 25 (.extract 1 (.v 23)) <|
 .o (.pnew 7 (.c (.agg #[.slice none 0 0,.slice none 0 0,.slice none 0 0])) []) <|
 .o (.pset none 7 0 3 (.v 24)) <|
 .m 8 25 .done
@[simp] def W6_23 := Pl.w K6_23.eq_1
def K6_24:C:=.seq (.pl <| .e 21 5 <|
 .o (.pget (some 21) none 3 0 (some 3)) <|
 .c 22 (.call fn_impl_TranslateFormula [.v 21]) K6_23) K6_22
@[simp] def W6_24 := C.w K6_24.eq_1
def K6_25:Pl:=.m 27 26 <|
 .x 28 (.extract 0 (.v 27)) <|
 .x 29 (.extract 1 (.v 27)) <|
 .o (.pnew 5 (.c (.agg #[.slice none 0 0,.slice none 0 0,.slice none 0 0])) []) <|
 .o (.pnew 6 (.c (.agg #[.slice none 0 0,.slice none 0 0])) []) <|
 .o (.pset none 5 0 3 (.v 28)) <|
 .o (.pset none 6 0 2 (.v 29)) .done
@[simp] def W6_25 := Pl.w K6_25.eq_1
def K6_26:Pl:=.c 26 (.call fn_spec_DrawAccepts [.v 25]) K6_25
@[simp] def W6_26 := Pl.w K6_26.eq_1
def K6_27:Pl:=.m 24 0 <|
 .c 25 (.app 1 1 [.int .u8 0] (.o (.v 23)) (.o (.v 24))) K6_26
@[simp] def W6_27 := Pl.w K6_27.eq_1
def K6_28:C:=.seq (.pl <| .e 21 9 <|
 .o (.psl 21 [] []) <|
 .m 22 1 <|
 .c 23 (.app 1 1 [.int .u8 0] (.p 0 21) (.o (.v 22))) K6_27) K6_24
@[simp] def W6_28 := C.w K6_28.eq_1
def K6_29:Pl:=.o (.pnew 4 (.c (.agg #[.int .i64 0,.int .i64 0,.slice none 0 0])) []) <|
 .o (.pset none 4 0 3 (.v 22)) .done
@[simp] def W6_29 := Pl.w K6_29.eq_1
def K6_30:C:=.seq (.pl <| .e 21 2 <|
 .m 21 1 <|
 .c 22 (.call fn_spec_DrawTranslateFormula [.v 21]) K6_29) K6_28
@[simp] def W6_30 := C.w K6_30.eq_1
def K6_31:Pl:=.o (.pnew 3 (.c (.agg #[.int .i64 0,.int .i64 0,.slice none 0 0])) []) <|
 .o (.pset none 3 0 3 (.v 22)) .done
@[simp] def W6_31 := Pl.w K6_31.eq_1
def K6_32:C:=.seq (.pl <| .e 21 2 <|
 .m 21 0 <|
 .c 22 (.call fn_spec_DrawTranslateFormula [.v 21]) K6_31) K6_30
@[simp] def W6_32 := C.w K6_32.eq_1
def K6_33:C:=.seq (.pl <| .e 21 0 <|
 .x 2 (.mv (.c (.bool true))) .done) (.ret)
@[simp] def W6_33 := C.w K6_33.eq_1
def K6_34:C:=.cond 21 (.v 28) K6_33 (.skip)
@[simp] def W6_34 := C.w K6_34.eq_1
def K6_35:C:=.seq (.seq (.pl <| .e 21 8 <|
 .m 21 0 <|
 .x 22 (.lenV (.v 21)) <|
 .x 23 (.bin .gtr (.v 22) (.c (.int .i64 1048576))) <|
 .m 24 23 <|
 .n 24 (.px (some 25) (.mv (.v 1))) <|
 .n 24 (.px (some 26) (.lenV (.v 25))) <|
 .n 24 (.px (some 27) (.bin .gtr (.v 26) (.c (.int .i64 1048576)))) <|
 .x 28 (.pick (.v 24) (.c (.bool true)) (.v 27)) .done) K6_34) K6_32
@[simp] def W6_35 := C.w K6_35.eq_1
def B_laws_FnUnionDistributes:C:=.seq (.pl <| .e 21 0 <|
 .x 2 (.mv (.c (.bool false))) .done) K6_35
@[simp] def WB_laws_FnUnionDistributes := C.w B_laws_FnUnionDistributes.eq_1
def R_laws_FnUnionDistributes:FIR:=⟨B_laws_FnUnionDistributes,21,[(2,none)]⟩
theorem IR_laws_FnUnionDistributes:cfun Tryz.prog H_laws_FnUnionDistributes Tryz.f6=some R_laws_FnUnionDistributes:=by kernel_rfl
theorem EN_laws_FnUnionDistributes:ENT Tryz.prog B_laws_FnUnionDistributes [(2,none)] 2 21 fn_laws_FnUnionDistributes:=fun hargs hw=>enter Tryz.func6 rfl IR_laws_FnUnionDistributes hargs hw
end Go.Proofs.YtbanccfdojgocaaGreat

namespace Go.Proofs.YtbanccfdojgocaaGreat
open Go
theorem Aut.Ok.im {a:Aut}(h:a.Ok) {i:Nat}(hi:i<a.init.length):0≤a.init[i]∧a.init[i]<a.acc.length:=by
 have h1:=incr_mem h.i _ (List.getElem_mem hi)
 omega
def Aut.unite (a b:Aut):Aut:=⟨a.init++b.init.map (· + (a.acc.length:Int)),a.acc++b.acc,a.edges++b.edges.map (Tr.shift a.acc.length)⟩
end Go.Proofs.YtbanccfdojgocaaGreat

namespace Go.Proofs.YtbanccfdojgocaaGreat
open Go
theorem map_take_succ {α β:Type}{f:α→β}{l:List α}{i:Nat}(hi:i<l.length):(l.take (i+1)).map f=(l.take i).map f++[f l[i]]:=by
 rw[List.take_add_one,List.getElem?_eq_getElem hi,List.map_append]; rfl
end Go.Proofs.YtbanccfdojgocaaGreat

namespace Go.Proofs.YtbanccfdojgocaaGreat
open Go
section
variable {a b:Aut}
theorem tru_left {A B:List Bool}{p:Nat}(hp:p<A.length):tru (A++B) p↔tru A p:=by
 unfold tru
 rw[List.getD_eq_getElem?_getD,List.getElem?_append_left hp,← List.getD_eq_getElem?_getD]
theorem tru_right {A B:List Bool}{p:Nat}:tru (A++B) (A.length+p)↔tru B p:=by
 unfold tru
 rw[List.getD_eq_getElem?_getD,List.getElem?_append_right (by omega),← List.getD_eq_getElem?_getD,Nat.add_sub_cancel_left]
theorem unite_left (ha:a.Ok) {w:Nat→Int}{t p:Nat}(hp:p<a.acc.length) (h:Run a.acc a.edges w t p):Run (a.unite b).acc (a.unite b).edges w t p:=by
 refine Run.sim (fun x y=>x=y∧x<a.acc.length) ?_ ?_ h ⟨rfl,hp⟩
 ·rintro t p q p' ⟨rfl,h1⟩ h2 _
  have h3:=ha.st h2
  obtain⟨e,he,h4⟩:=h2
  exact⟨q,⟨e,List.mem_append_left _ he,h4⟩,rfl,h3.2⟩
 ·rintro p p' ⟨rfl,h1⟩ h2
  exact (tru_left h1).2 h2
theorem unite_left' (ha:a.Ok) {w:Nat→Int}{t p:Nat}(hp:p<a.acc.length) (h:Run (a.unite b).acc (a.unite b).edges w t p) (hb:b.Ok):Run a.acc a.edges w t p:=by
 refine Run.sim (fun x y=>x=y∧x<a.acc.length) ?_ ?_ h ⟨rfl,hp⟩
 ·rintro t p q p' ⟨rfl,h1⟩ ⟨e,he,h2,h3,h4⟩ _
  rcases List.mem_append.1 he with he | he
  ·have:=ha.st ⟨e,he,h2,h3,h4⟩
   exact⟨q,⟨e,he,h2,h3,h4⟩,rfl,this.2⟩
  ·exfalso
   obtain⟨f,hf,rfl⟩:=List.mem_map.1 he
   obtain⟨x,y,k1,k2,k3,k4⟩:=hb.tr hf
   simp only[Tr.shift] at h2
   omega
 ·rintro p p' ⟨rfl,h1⟩ h2
  exact (tru_left h1).1 h2
theorem unite_right (ha:a.Ok) {w:Nat→Int}{t p:Nat}(hb:b.Ok) (h:Run (a.unite b).acc (a.unite b).edges w t (a.acc.length+p)):Run b.acc b.edges w t p:=by
 refine Run.sim (fun x y=>x=a.acc.length+y) ?_ ?_ h rfl
 ·rintro t p q p' rfl ⟨e,he,h2,h3,h4⟩ _
  rcases List.mem_append.1 he with he | he
  ·exfalso
   obtain⟨x,y,k1,k2,k3,k4⟩:=ha.tr he
   omega
  ·obtain⟨f,hf,rfl⟩:=List.mem_map.1 he
   obtain⟨x,y,k1,k2,k3,k4⟩:=hb.tr hf
   simp only[Tr.shift] at h2 h3
   exact⟨y,⟨f,hf,by omega,k2,h4⟩,by omega⟩
 ·rintro p p' rfl h2
  exact tru_right.1 h2
theorem unite_right' {w:Nat→Int}{t p:Nat}(h:Run b.acc b.edges w t p):Run (a.unite b).acc (a.unite b).edges w t (a.acc.length+p):=by
 refine Run.sim (fun y x=>x=a.acc.length+y) ?_ ?_ h rfl
 ·rintro t p q p' rfl ⟨e,he,h2,h3,h4⟩ _
  exact⟨a.acc.length+q,⟨e.shift a.acc.length,List.mem_append_right _ (List.mem_map_of_mem he),by simp only[Tr.shift]; omega,by simp only[Tr.shift]; omega,h4⟩,by omega⟩
 ·rintro p p' rfl h2
  exact tru_right.2 h2
end
section
variable {a:Aut}{K:Nat→Bool}
end
end Go.Proofs.YtbanccfdojgocaaGreat

namespace Go.Proofs.YtbanccfdojgocaaGreat
open Go
theorem unite_lang {a b:Aut}(ha:a.Ok) (hb:b.Ok) {w:Nat→Int}:(a.unite b).Lang w↔a.Lang w∨b.Lang w:=by
 have hi:(a.unite b).init=a.init++b.init.map (· + (a.acc.length:Int)):=rfl
 constructor
 ·rintro⟨s,hs,hr⟩
  rw[hi] at hs
  rcases List.mem_append.1 hs with hs | hs
  ·exact .inl ⟨s,hs,unite_left' ha (ha.ini hs) hr hb⟩
  ·obtain⟨q,hq,e⟩:=List.mem_map.1 hs
   have h1:=incr_mem hb.i _ hq
   obtain⟨p,hp⟩:∃p:Nat,q=p:=⟨q.toNat,by omega⟩
   subst hp
   obtain rfl:s=a.acc.length+p:=by omega
   exact .inr ⟨p,hq,unite_right ha hb hr⟩
 ·rintro (⟨s,hs,hr⟩ | ⟨s,hs,hr⟩)
  ·exact⟨s,by rw[hi]; exact List.mem_append_left _ hs,unite_left ha (ha.ini hs) hr⟩
  ·exact⟨a.acc.length+s,by rw[hi]; exact List.mem_append_right _ (List.mem_map.2 ⟨s,hs,by omega⟩),unite_right' hr⟩
namespace Fm
theorem acc_or {x y:Exq}(hx:trOk x) (hy:trOk y) (hz:trOk (.mk 5 0 [x,y])) (hp:((trA x).unite (trA y)).Ok) {l:Las}(hl:l.Ok):(trA (.mk 5 0 [x,y])).accB l=((trA x).unite (trA y)).accB l:=by
 have hw:=Las.word_ok hl
 rw[Bool.eq_iff_iff,acc_sat hz hl,Aut.accB_lang hp hl,unite_lang (trA_ok hx) (trA_ok hy),trA_lang hx hw,trA_lang hy hw,sat5 (x:=.mk 5 0 [x,y]) rfl]
 exact Iff.rfl
end Fm
end Go.Proofs.YtbanccfdojgocaaGreat

namespace Go.Proofs.YtbanccfdojgocaaGreat
open Go
def unitR (h:Heap) (a b:Aut) (u:Value) (h':Heap):Prop:=∃v,u=.tuple #[v,.bool (decide (a.Ok∧b.Ok∧(a.unite b).Ok))]∧HS h [ow v (if a.Ok∧b.Ok∧(a.unite b).Ok then a.unite b else Aut.empty)] h'
theorem unitR.no {h h':Heap}{a b:Aut}(hn:¬(a.Ok∧b.Ok∧(a.unite b).Ok)) (H:HS h [] h'):unitR h a b (.tuple #[.agg #[.slice none 0 0,.slice none 0 0,.slice none 0 0],.bool false]) h':=
 ⟨_,by rw[decide_eq_false hn],by rw[if_neg hn]; exact empty_ow H⟩
theorem unitR.yes {h h':Heap}{a b:Aut}{v:Value}(hn:a.Ok∧b.Ok∧(a.unite b).Ok) (H:HS h [ow v (a.unite b)] h'):unitR h a b (.tuple #[v,.bool true]) h':=
 ⟨_,by rw[decide_eq_true hn],by rw[if_pos hn]; exact H⟩
theorem c_UniteAutomata {h:Heap}{v w:Value}{a b:Aut}(Ra:Rep h v a) (Rb:Rep h w b):CallE Tryz.prog fn_impl_UniteAutomata [v,w] h (unitR h a b):=by
 obtain⟨v1,v2,v3,rfl,R1,R2,R3⟩:=Rep_Aut.1 Ra
 obtain⟨w1,w2,w3,rfl,S1,S2,S3⟩:=Rep_Aut.1 Rb
 refine CallE.gen fun k hk=>EN_impl_UniteAutomata rfl ?_
 simp -implicitDefEqProofs (disch:=first|omega|(simp only[LnZ];omega))[wrap64]
 refine (c_AutomatonValid Ra).go ?_
 rintro _ h1 ⟨l1,rfl⟩
 by_cases ha:a.Ok
 case neg=>
  simp -implicitDefEqProofs (disch:=first|omega|(simp only[LnZ];omega))[wrap64,ha]
  exact RetK.keep (hk _ _ (unitR.no (fun h=>ha h.1) l1))
 simp -implicitDefEqProofs (disch:=first|omega|(simp only[LnZ];omega))[wrap64,ha]
 refine (c_AutomatonValid (Rb.le l1)).go ?_
 rintro _ h2 ⟨l2,rfl⟩
 have l2:=l1.trans l2
 by_cases hb:b.Ok
 case neg=>
  simp -implicitDefEqProofs (disch:=first|omega|(simp only[LnZ];omega))[wrap64,hb]
  exact RetK.keep (hk _ _ (unitR.no (fun h=>hb h.2.1) l2))
 simp -implicitDefEqProofs (disch:=first|omega|(simp only[LnZ];omega))[wrap64,hb,(R2.le l2).len]
 have e1:=ha.n
 have e2:=hb.n
 have e3:=ha.il
 have e4:=hb.il
 have e5:=ha.e
 have e6:=hb.e
 refine (c_copyOf (Ra.le l2) (by omega) (by omega) (by omega)).go ?_
 intro u h3 H0
 obtain⟨u1,u2,u3,rfl,H⟩:=HS.unAut (H0.app (Γ:=[]) l2)
 simp -implicitDefEqProofs (disch:=first|omega|(simp only[LnZ];omega))[wrap64,(S1.on H).len,H.rep.one,H.sw1.rep.one,H.sw2.rep.one]
 refine wp_count b.init.length (fun i e h'=>∃u1',e=[none,none,none,some (.agg #[w1,w2,w3]),some (.agg #[.slice none 0 0,.slice none 0 0,.slice none 0 0]),none,some (.int .i64 a.acc.length),some (.agg #[u1',u2,u3]),none,none,some w1,some (.int .i64 b.init.length),some (.int .i64 i),none,none,none] ∧
  HS h [ow u1' (a.init++(b.init.take i).map (· + (a.acc.length:Int))),ow u2 a.acc,ow u3 a.edges] h') ⟨u1,by simp,by simpa using H⟩ ?_
 rintro J i _ h4 hJ hi ⟨u1',rfl,H⟩
 simp -implicitDefEqProofs (disch:=first|omega|(simp only[LnZ];omega))[wrap64]
 refine IteW.mk (fun hlt=>?_) (fun hge=>?_)
 ·have hlx:i<b.init.length:=by omega
  have hx:=hb.im hlx
  simp -implicitDefEqProofs (disch:=first|omega|(simp only[LnZ];omega))[wrap64,(S1.on H).I]
  refine H.app1 (b.init[i]+a.acc.length) rfl rfl rfl ⟨by omega,by omega⟩ rfl rfl (by simp; omega) (by simp; omega) fun v' h5 H=>?_
  simp -implicitDefEqProofs (disch:=first|omega|(simp only[LnZ];omega))[wrap64,H.rep.one,H.rep.cells,setC]
  exact hJ _ _ hlx ⟨v',by simp,by rw[map_take_succ hlx]; simpa using H⟩
 simp -implicitDefEqProofs (disch:=first|omega|(simp only[LnZ];omega))[wrap64]
 rw[List.take_of_length_le (by omega)] at H
 have H:=H.sw1
 refine H.appL rfl rfl (S2.on H) rfl rfl (by omega) (by omega) fun u2' h5 H=>?_
 simp -implicitDefEqProofs (disch:=first|omega|(simp only[LnZ];omega))[wrap64,H.rep.one,H.rep.cells,setC,(S3.on H).len]
 refine wp_count b.edges.length (fun i e h'=>∃u3',e=[none,none,none,none,some (.agg #[.slice none 0 0,.slice none 0 0,.slice none 0 0]),none,some (.int .i64 a.acc.length),some (.agg #[u1',u2',u3']),none,none,none,none,none,some w3,some (.int .i64 b.edges.length),some (.int .i64 i)] ∧
  HS h [ow u3' (a.edges++(b.edges.take i).map (Tr.shift a.acc.length)),ow u2' (a.acc++b.acc),ow u1' (a.init++b.init.map (· + (a.acc.length:Int)))] h') ⟨u3,by simp,by simpa using H.sw2⟩ ?_
 rintro J i _ h4 hJ hi ⟨u3',rfl,H⟩
 simp -implicitDefEqProofs (disch:=first|omega|(simp only[LnZ];omega))[wrap64]
 refine IteW.mk (fun hlt=>?_) (fun hge=>?_)
 ·have hlx:i<b.edges.length:=by omega
  have hx:=hb.t hlx
  have hv:=S3.okTr hlx
  unfold Tr.Ok at hx
  simp -implicitDefEqProofs (disch:=first|omega|(simp only[LnZ];omega))[wrap64,(S3.on H).xTr,Tr.v,setC]
  refine H.app1 (Tr.shift a.acc.length b.edges[i]) rfl rfl rfl (Tr.ok_iff.2 ⟨by simp[Tr.shift]; omega,hv.care,hv.value,by simp[Tr.shift]; omega⟩) rfl rfl (by simp; omega) (by simp; omega) fun v' h5 H=>?_
  simp -implicitDefEqProofs (disch:=first|omega|(simp only[LnZ];omega))[wrap64,H.rep.one,H.rep.cells,setC]
  exact hJ _ _ hlx ⟨v',by simp,by rw[map_take_succ hlx]; simpa using H⟩
 simp -implicitDefEqProofs (disch:=first|omega|(simp only[LnZ];omega))[wrap64]
 rw[List.take_of_length_le (by omega)] at H
 have H:=HS.mkAut (a:=a.unite b) H.sw1.sw2
 refine (c_AutomatonValid H.rep).go ?_
 rintro _ h5 ⟨l5,rfl⟩
 have H:=H.le l5
 by_cases hc:(a.unite b).Ok
 case neg=>
  simp -implicitDefEqProofs (disch:=first|omega|(simp only[LnZ];omega))[wrap64,hc]
  exact RetK.keep (hk _ _ (unitR.no (fun h=>hc h.2.2) H.drop))
 simp -implicitDefEqProofs (disch:=first|omega|(simp only[LnZ];omega))[wrap64,hc]
 have e7:(a.unite b).init.length=a.init.length+b.init.length:=by simp[Aut.unite]
 have e8:(a.unite b).acc.length=a.acc.length+b.acc.length:=by simp[Aut.unite]
 have e9:(a.unite b).edges.length=a.edges.length+b.edges.length:=by simp[Aut.unite]
 refine (c_copyOf H.rep (by omega) (by omega) (by omega)).go ?_
 intro v' h6 H6
 have H:=(H6.app H).sw1.drop
 obtain⟨z1,z2,z3,rfl,R1,R2,R3⟩:=Rep_Aut.1 H.rep
 simp -implicitDefEqProofs (disch:=first|omega|(simp only[LnZ];omega))[wrap64,R1.one,R2.one,R3.one]
 exact RetK.keep (hk _ _ (unitR.yes ⟨ha,hb,hc⟩ H))
end Go.Proofs.YtbanccfdojgocaaGreat

namespace Go.Proofs.YtbanccfdojgocaaGreat
open Go
set_option maxHeartbeats 2000000 in
theorem c_FnUnionDistributes {h:Heap}{v w:Value}{l m:List (BitVec 8)}(R:Rep h v l) (RM0:Rep h w m):CallE Tryz.prog fn_laws_FnUnionDistributes [v,w] h (fun u h'=>h.le h'∧u=.bool true):=by
 refine CallE.gen fun k hk=>EN_laws_FnUnionDistributes rfl ?_
 by_cases a1:(1048576:Int)<l.length
 ·simp -implicitDefEqProofs (disch:=first|omega|(simp only[LnZ];omega))[wrap64,R.len,a1]
  exact RetK.keep (hk _ _ ⟨Heap.le.refl _,rfl⟩)
 by_cases a2:(1048576:Int)<m.length
 ·simp -implicitDefEqProofs (disch:=first|omega|(simp only[LnZ];omega))[wrap64,R.len,RM0.len,a1,a2]
  exact RetK.keep (hk _ _ ⟨Heap.le.refl _,rfl⟩)
 simp -implicitDefEqProofs (disch:=first|omega|(simp only[LnZ];omega))[wrap64,R.len,RM0.len,a1,a2]
 refine (c_DrawTranslateFormula R).go ?_
 rintro vf h1 ⟨x,l1,Rx⟩
 have FX:=Rx.aExq
 have R:=R.le l1
 have RM0:=RM0.le l1
 simp -implicitDefEqProofs (disch:=first|omega|(simp only[LnZ];omega))[wrap64,FX,setC]
 refine (c_DrawTranslateFormula RM0).go ?_
 rintro vg h2 ⟨z,l2,Rz⟩
 have FZ:=Rz.aExq
 have R:=R.le l2
 have RM0:=RM0.le l2
 have Rx:=Rx.le l2
 simp -implicitDefEqProofs (disch:=first|omega|(simp only[LnZ];omega))[wrap64,FX,FZ,setC]
 refine (HS.init (h:=h2)).appPL (α:=BitVec 8) rfl rfl RM0 rfl rfl (by omega) fun s1 h3 H=>?_
 simp -implicitDefEqProofs (disch:=first|omega|(simp only[LnZ];omega))[wrap64]
 refine H.appL rfl rfl (R.on H) rfl rfl (by omega) (by omega) fun s2 h4 H=>?_
 have l4:=H.base
 simp -implicitDefEqProofs (disch:=first|omega|(simp only[LnZ];omega))[wrap64]
 refine (c_DrawAccepts H.rep).go ?_
 rintro _ h5 ⟨u1,u2,a',y,rfl,l5,Ra',Ry,_⟩
 have Rx:=Rx.le (l4.trans l5)
 have Rz:=Rz.le (l4.trans l5)
 have lb:=(l1.trans l2).trans (l4.trans l5)
 clear H R RM0
 have FY:=Ry.aLas
 have FA':=Ra'.aAut
 simp -implicitDefEqProofs (disch:=first|omega|(simp only[LnZ];omega))[wrap64,FX,FY,FA',setC]
 refine (c_TranslateFormula Rx).go ?_
 rintro _ h6 ⟨w1,rfl,H⟩
 have FW:=H.rep.aAut
 simp -implicitDefEqProofs (disch:=first|omega|(simp only[LnZ];omega))[wrap64,FX,FW,setC]
 refine (c_spec_TranslateFormula (Rx.on H)).go ?_
 rintro _ h7 ⟨w2,rfl,H2⟩
 have H:=H2.app H
 have FV:=H.rep.aAut
 simp -implicitDefEqProofs (disch:=first|omega|(simp only[LnZ];omega))[wrap64,FZ,FW,FV,setC]
 refine (c_TranslateFormula (Rz.on H)).go ?_
 rintro _ h8 ⟨w3,rfl,H3⟩
 have H:=H3.app H
 have FB:=H.rep.aAut
 have RB:=H.rep
 have RV:=H.sw1.rep
 have RW:=H.sw2.rep
 have lb:=lb.trans H.base
 have Rx:=Rx.on H
 have Rz:=Rz.on H
 have Ry:=Ry.on H
 clear H H2 H3
 by_cases ha:Fm.trOk x
 case neg=>
  simp -implicitDefEqProofs (disch:=first|omega|(simp only[LnZ];omega))[wrap64,ha,FW,FV,FB,setC]
  refine (c_AutomatonSame RW RV).go ?_
  rintro _ _ ⟨rfl,rfl⟩
  simp -implicitDefEqProofs (disch:=first|omega|(simp only[LnZ];omega))[wrap64,FW,FV]
  refine (c_AutomatonSame RW RV).go ?_
  rintro _ _ ⟨rfl,rfl⟩
  simp -implicitDefEqProofs (disch:=first|omega|(simp only[LnZ];omega))[wrap64]
  exact RetK.keep (hk _ _ ⟨lb,rfl⟩)
 rw[Fm.trR,if_pos ha] at RV RW
 simp -implicitDefEqProofs (disch:=first|omega|(simp only[LnZ];omega))[wrap64,ha,FW,FV,FB,setC]
 refine (c_AutomatonSame RW RV).go ?_
 rintro _ _ ⟨rfl,rfl⟩
 by_cases hz:Fm.trOk z
 case neg=>
  simp -implicitDefEqProofs (disch:=first|omega|(simp only[LnZ];omega))[wrap64,hz,FW,FV]
  refine (c_AutomatonSame RW RV).go ?_
  rintro _ _ ⟨rfl,rfl⟩
  simp -implicitDefEqProofs (disch:=first|omega|(simp only[LnZ];omega))[wrap64]
  exact RetK.keep (hk _ _ ⟨lb,rfl⟩)
 rw[Fm.trR,if_pos hz] at RB
 obtain⟨xw,hxw,_,_,_⟩:=Rep_Exq.1 Rx
 subst hxw
 obtain⟨zw,hzw,_,_,_⟩:=Rep_Exq.1 Rz
 subst hzw
 simp -implicitDefEqProofs (disch:=first|omega|(simp only[LnZ];omega))[wrap64,hz,FX,FZ,setC]
 refine bls_two (α:=Exq) Rx Rz rfl fun sl h9 l9 Rs=>?_
 have Ro:Rep h9 (.agg #[.int .i64 5,.int .i64 0,sl]) (Exq.mk 5 0 [x,z]):=Rep_Exq.2 ⟨_,rfl,show I64 5 from ⟨by decide,by decide⟩,i64_0,Rs⟩
 simp -implicitDefEqProofs (disch:=first|omega|(simp only[LnZ];omega))[wrap64,Rs.one,Rs.cells,setC]
 refine (c_TranslateFormula Ro).go ?_
 rintro _ h10 ⟨w4,rfl,H⟩
 have FC:=H.rep.aAut
 have RC:=H.rep
 have RW:=(RW.le l9).on H
 have RB:=(RB.le l9).on H
 have Ry:=(Ry.le l9).on H
 have lb:=lb.trans (l9.trans H.base)
 clear H
 simp -implicitDefEqProofs (disch:=first|omega|(simp only[LnZ];omega))[wrap64,FW,FB,FC,setC]
 refine (c_UniteAutomata RW RB).go ?_
 rintro _ h11 ⟨w5,rfl,H⟩
 have FD:=H.rep.aAut
 have RD:=H.rep
 have RC:=RC.on H
 have Ry:=Ry.on H
 have lb:=lb.trans H.base
 clear H
 by_cases hc:Fm.trOk (.mk 5 0 [x,z])
 case neg=>
  simp -implicitDefEqProofs (disch:=first|omega|(simp only[LnZ];omega))[wrap64,hc,FD,FC,setC]
  exact RetK.keep (hk _ _ ⟨lb,rfl⟩)
 by_cases hu:(Fm.trA x).Ok∧(Fm.trA z).Ok∧((Fm.trA x).unite (Fm.trA z)).Ok
 case neg=>
  have hu':¬(((Fm.trA x).unite (Fm.trA z)).Ok):=fun e=>hu ⟨Fm.trA_ok ha,Fm.trA_ok hz,e⟩
  simp -implicitDefEqProofs (disch:=first|omega|(simp only[LnZ];omega))[wrap64,hc,Fm.trA_ok ha,Fm.trA_ok hz,hu',FD,FC,setC]
  exact RetK.keep (hk _ _ ⟨lb,rfl⟩)
 rw[Fm.trR,if_pos hc] at RC
 rw[if_pos hu] at RD
 simp -implicitDefEqProofs (disch:=first|omega|(simp only[LnZ];omega))[wrap64,hc,hu,FD,FC,FY,setC]
 refine (c_Accepts RC Ry).go ?_
 rintro _ h12 ⟨l12,rfl⟩
 simp -implicitDefEqProofs (disch:=first|omega|(simp only[LnZ];omega))[wrap64,FD,FY]
 refine (c_Accepts (RD.le l12) (Ry.le l12)).go ?_
 rintro _ h13 ⟨l13,rfl⟩
 have hcb:=Fm.trA_ok hc
 by_cases hy:y.Ok
 ·rw[Fm.acc_or ha hz hc hu.2.2 hy]
  simp -implicitDefEqProofs (disch:=first|omega|(simp only[LnZ];omega))[wrap64,hcb,hu.2.2,hy]
  exact RetK.keep (hk _ _ ⟨lb.trans (l12.trans l13),rfl⟩)
 ·have e1:(Fm.trA (.mk 5 0 [x,z])).accB y=false:=by simp[Aut.accB,hy]
  have e2:((Fm.trA x).unite (Fm.trA z)).accB y=false:=by simp[Aut.accB,hy]
  rw[e1,e2]
  simp -implicitDefEqProofs (disch:=first|omega|(simp only[LnZ];omega))[wrap64,hcb,hu.2.2,hy]
  exact RetK.keep (hk _ _ ⟨lb.trans (l12.trans l13),rfl⟩)
end Go.Proofs.YtbanccfdojgocaaGreat
