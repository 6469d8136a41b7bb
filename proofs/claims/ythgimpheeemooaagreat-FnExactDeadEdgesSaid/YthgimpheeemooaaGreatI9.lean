/-
  Bodies of functions in the small language, as a program printed them, and that each is what the translation gives.
-/
import Derived.Test.YthgimpheeemooaaGreatI1
namespace Go.Proofs.YthgimpheeemooaaGreat
open Go
set_option linter.all false
set_option linter.defProp false
set_option maxRecDepth 1000000

def H_laws_FnExactBuildGraph : Hint := ⟨[(0, false), (1, true), (2, false), (3, false), (4, true), (5, false), (6, true), (7, true), (8, false), (9, false), (10, false), (11, false), (12, true), (13, false)], []⟩
def K4_1 : C := .seq (.pl <| .st (.ext 14 0) <|
    .st (.act none (.px (some 2) (.mv (.c (.bool true))))) .done) (.ret)
@[simp] def W4_1 := @C.wpe _ _ K4_1.eq_1
def K4_2 : C := .seq (.pl <| .st (.ext 14 0) <|
    .st (.act none (.px (some 2) (.mv (.c (.bool false))))) .done) (.ret)
@[simp] def W4_2 := @C.wpe _ _ K4_2.eq_1
def K4_3 : C := .cond 14 (.v 16) K4_2 (.skip)
@[simp] def W4_3 := @C.wpe _ _ K4_3.eq_1
def K4_4 : C := .seq (.seq (.pl <| .st (.ext 14 3) <|
    .st (.act none (.px (some 14) (.mv (.v 11)))) <|
    .st (.act none (.px (some 15) (.mv (.v 10)))) <|
    .st (.act none (.px (some 16) (.bin .neq (.v 14) (.v 15)))) .done) K4_3) K4_1
@[simp] def W4_4 := @C.wpe _ _ K4_4.eq_1
def K4_5 : C := .seq (.pl <| .st (.ext 14 0) <|
    .st (.act none (.px (some 2) (.mv (.c (.bool false))))) .done) (.ret)
@[simp] def W4_5 := @C.wpe _ _ K4_5.eq_1
def K4_6 : C := .cond 14 (.v 15) K4_5 (.skip)
@[simp] def W4_6 := @C.wpe _ _ K4_6.eq_1
def K4_7 : C := .seq (.seq (.pl <| .st (.ext 14 2) <|
    .st (.act none (.px (some 14) (.mv (.v 11)))) <|
    .st (.act none (.px (some 15) (.bin .lss (.v 14) (.c (.int .i64 0))))) .done) K4_6) K4_4
@[simp] def W4_7 := @C.wpe _ _ K4_7.eq_1
def K4_8 : Pl := .st (.act none (.px (some 11) (.mv (.v 16)))) .done
@[simp] def W4_8 := @Pl.wpe _ _ K4_8.eq_1
def K4_9 : C := .seq (.pl <| .st (.ext 14 3) <|
    .st (.act none (.pget (some 14) none 7 0 (some 2))) <|
    .st (.act none (.px (some 15) (.mv (.v 11)))) <|
    .st (.act none (.ex (some 16) (.call fn_laws_heldGraph [.v 14, .v 15]))) K4_8) K4_7
@[simp] def W4_9 := @C.wpe _ _ K4_9.eq_1
def K4_10 : C := .seq (.pl <| .st (.ext 14 0) <|
    .st (.act none (.px (some 11) (.mv (.c (.int .i64 1))))) .done) K4_9
@[simp] def W4_10 := @C.wpe _ _ K4_10.eq_1
def K4_11 : C := .seq (.pl <| .st (.ext 14 0) <|
    .st (.act none (.px (some 2) (.mv (.c (.bool false))))) .done) (.ret)
@[simp] def W4_11 := @C.wpe _ _ K4_11.eq_1
def K4_12 : C := .cond 14 (.v 22) K4_11 (.skip)
@[simp] def W4_12 := @C.wpe _ _ K4_12.eq_1
def K4_13 : Pl := .st (.act none (.px (some 17) (.un .not (.v 16)))) <|
    .st (.act none (.px (some 18) (.mv (.v 17)))) <|
    .st (.act (some (.v 18, false)) (.px (some 19) (.mv (.v 13)))) <|
    .st (.act (some (.v 18, false)) (.px (some 20) (.mv (.v 5)))) <|
    .st (.act (some (.v 18, false)) (.px (some 21) (.eqb true (.v 19) (.v 20)))) <|
    .st (.act none (.px (some 22) (.pick (.v 18) (.c (.bool true)) (.v 21)))) .done
@[simp] def W4_13 := @Pl.wpe _ _ K4_13.eq_1
def K4_14 : C := .seq (.seq (.pl <| .st (.ext 14 9) <|
    .st (.act none (.pget (some 14) none 12 0 (some 2))) <|
    .st (.act none (.pget (some 15) none 4 0 (some 2))) <|
    .st (.act none (.ex (some 16) (.call fn_laws_eqGraph [.v 14, .v 15]))) K4_13) K4_12) K4_10
@[simp] def W4_14 := @C.wpe _ _ K4_14.eq_1
def K4_15 : Pl := .st (.act none (.px (some 17) (.mv (.v 16)))) <|
    .st (.act none (.px (some 18) (.extract 0 (.v 17)))) <|
    .st (.act none (.px (some 19) (.extract 1 (.v 17)))) <|
    .st (.act none (.pnew 12 (.c (.agg #[.slice none 0 0, .slice none 0 0])) [])) <|
    .st (.act none (.pset none 12 0 2 (.v 18))) <|
    .st (.act none (.px (some 13) (.mv (.v 19)))) .done
@[simp] def W4_15 := @Pl.wpe _ _ K4_15.eq_1
def K4_16 : Pl := .st (.act none (.ex (some 16) (.call fn_impl_BuildGraph [.v 15]))) K4_15
@[simp] def W4_16 := @Pl.wpe _ _ K4_16.eq_1
def K4_17 : C := .seq (.pl <| .st (.ext 14 6) <|
    .st (.act none (.pget (some 14) none 1 0 (some 2))) <|
    .st (.act none (.ex (some 15) (.call fn_laws_toSystem [.v 14]))) K4_16) K4_14
@[simp] def W4_17 := @C.wpe _ _ K4_17.eq_1
def K4_18 : C := .seq (.pl <| .st (.ext 14 0) <|
    .st (.act none (.px (some 2) (.mv (.c (.bool false))))) .done) (.ret)
@[simp] def W4_18 := @C.wpe _ _ K4_18.eq_1
def K4_19 : C := .cond 14 (.v 16) K4_18 (.skip)
@[simp] def W4_19 := @C.wpe _ _ K4_19.eq_1
def K4_20 : C := .seq (.seq (.pl <| .st (.ext 14 3) <|
    .st (.act none (.px (some 14) (.mv (.v 11)))) <|
    .st (.act none (.px (some 15) (.mv (.v 10)))) <|
    .st (.act none (.px (some 16) (.bin .neq (.v 14) (.v 15)))) .done) K4_19) K4_17
@[simp] def W4_20 := @C.wpe _ _ K4_20.eq_1
def K4_21 : C := .seq (.pl <| .st (.ext 14 0) <|
    .st (.act none (.px (some 2) (.mv (.c (.bool false))))) .done) (.ret)
@[simp] def W4_21 := @C.wpe _ _ K4_21.eq_1
def K4_22 : C := .cond 14 (.v 15) K4_21 (.skip)
@[simp] def W4_22 := @C.wpe _ _ K4_22.eq_1
def K4_23 : C := .seq (.seq (.pl <| .st (.ext 14 2) <|
    .st (.act none (.px (some 14) (.mv (.v 11)))) <|
    .st (.act none (.px (some 15) (.bin .lss (.v 14) (.c (.int .i64 0))))) .done) K4_22) K4_20
@[simp] def W4_23 := @C.wpe _ _ K4_23.eq_1
def K4_24 : Pl := .st (.act none (.px (some 11) (.mv (.v 16)))) .done
@[simp] def W4_24 := @Pl.wpe _ _ K4_24.eq_1
def K4_25 : C := .seq (.pl <| .st (.ext 14 3) <|
    .st (.act none (.pget (some 14) none 7 0 (some 2))) <|
    .st (.act none (.px (some 15) (.mv (.v 11)))) <|
    .st (.act none (.ex (some 16) (.call fn_laws_heldGraph [.v 14, .v 15]))) K4_24) K4_23
@[simp] def W4_25 := @C.wpe _ _ K4_25.eq_1
def K4_26 : C := .seq (.pl <| .st (.ext 14 0) <|
    .st (.act none (.px (some 11) (.mv (.c (.int .i64 1))))) .done) K4_25
@[simp] def W4_26 := @C.wpe _ _ K4_26.eq_1
def K4_27 : Pl := .st (.act none (.px (some 10) (.mv (.v 16)))) .done
@[simp] def W4_27 := @Pl.wpe _ _ K4_27.eq_1
def K4_28 : C := .seq (.pl <| .st (.ext 14 3) <|
    .st (.act none (.pget (some 14) none 7 0 (some 2))) <|
    .st (.act none (.px (some 15) (.mv (.v 10)))) <|
    .st (.act none (.ex (some 16) (.call fn_laws_markGraph [.v 14, .v 15]))) K4_27) K4_26
@[simp] def W4_28 := @C.wpe _ _ K4_28.eq_1
def K4_29 : C := .seq (.pl <| .st (.ext 14 0) <|
    .st (.act none (.px (some 10) (.mv (.c (.int .i64 1))))) .done) K4_28
@[simp] def W4_29 := @C.wpe _ _ K4_29.eq_1
def K4_30 : C := .seq (.pl <| .st (.ext 14 0) <|
    .st (.act none (.px (some 2) (.mv (.c (.bool false))))) .done) (.ret)
@[simp] def W4_30 := @C.wpe _ _ K4_30.eq_1
def K4_31 : C := .cond 14 (.v 26) K4_30 (.skip)
@[simp] def W4_31 := @C.wpe _ _ K4_31.eq_1
def K4_32 : Pl := .st (.act (some (.v 16, false)) (.px (some 20) (.un .not (.v 19)))) <|
    .st (.act none (.px (some 21) (.pick (.v 16) (.c (.bool true)) (.v 20)))) <|
    .st (.act none (.px (some 22) (.mv (.v 21)))) <|
    .st (.act (some (.v 22, false)) (.px (some 23) (.mv (.v 8)))) <|
    .st (.act (some (.v 22, false)) (.px (some 24) (.mv (.v 5)))) <|
    .st (.act (some (.v 22, false)) (.px (some 25) (.eqb true (.v 23) (.v 24)))) <|
    .st (.act none (.px (some 26) (.pick (.v 22) (.c (.bool true)) (.v 25)))) .done
@[simp] def W4_32 := @Pl.wpe _ _ K4_32.eq_1
def K4_33 : C := .seq (.seq (.pl <| .st (.ext 14 13) <|
    .st (.act none (.px (some 14) (.mv (.v 9)))) <|
    .st (.act none (.px (some 15) (.bin .lss (.v 14) (.c (.int .i64 0))))) <|
    .st (.act none (.px (some 16) (.mv (.v 15)))) <|
    .st (.act (some (.v 16, false)) (.pget (some 17) none 7 0 (some 2))) <|
    .st (.act (some (.v 16, false)) (.pget (some 18) none 4 0 (some 2))) <|
    .st (.act (some (.v 16, false)) (.ex (some 19) (.call fn_laws_eqGraph [.v 17, .v 18]))) K4_32) K4_31) K4_29
@[simp] def W4_33 := @C.wpe _ _ K4_33.eq_1
def K4_34 : Pl := .st (.act none (.px (some 9) (.mv (.v 16)))) .done
@[simp] def W4_34 := @Pl.wpe _ _ K4_34.eq_1
def K4_35 : C := .seq (.pl <| .st (.ext 14 3) <|
    .st (.act none (.pget (some 14) none 6 0 (some 2))) <|
    .st (.act none (.px (some 15) (.mv (.v 9)))) <|
    .st (.act none (.ex (some 16) (.call fn_laws_markSystem [.v 14, .v 15]))) K4_34) K4_33
@[simp] def W4_35 := @C.wpe _ _ K4_35.eq_1
def K4_36 : C := .seq (.pl <| .st (.ext 14 0) <|
    .st (.act none (.px (some 9) (.mv (.c (.int .i64 1))))) .done) K4_35
@[simp] def W4_36 := @C.wpe _ _ K4_36.eq_1
def K4_37 : C := .seq (.pl <| .st (.ext 14 0) <|
    .st (.act none (.px (some 2) (.mv (.c (.bool false))))) .done) (.ret)
@[simp] def W4_37 := @C.wpe _ _ K4_37.eq_1
def K4_38 : C := .cond 14 (.v 18) K4_37 (.skip)
@[simp] def W4_38 := @C.wpe _ _ K4_38.eq_1
def K4_39 : Pl := .st (.act none (.px (some 18) (.un .not (.v 17)))) .done
@[simp] def W4_39 := @Pl.wpe _ _ K4_39.eq_1
def K4_40 : Pl := .st (.act none (.ex (some 17) (.call fn_laws_eqSystem [.v 14, .v 16]))) K4_39
@[simp] def W4_40 := @Pl.wpe _ _ K4_40.eq_1
def K4_41 : C := .seq (.seq (.pl <| .st (.ext 14 5) <|
    .st (.act none (.pget (some 14) none 6 0 (some 2))) <|
    .st (.act none (.pget (some 15) none 1 0 (some 2))) <|
    .st (.act none (.ex (some 16) (.call fn_laws_toSystem [.v 15]))) K4_40) K4_38) K4_36
@[simp] def W4_41 := @C.wpe _ _ K4_41.eq_1
def K4_42 : C := .seq (.pl <| .st (.ext 14 0) <|
    .st (.act none (.px (some 2) (.mv (.c (.bool false))))) .done) (.ret)
@[simp] def W4_42 := @C.wpe _ _ K4_42.eq_1
def K4_43 : C := .cond 14 (.v 22) K4_42 (.skip)
@[simp] def W4_43 := @C.wpe _ _ K4_43.eq_1
def K4_44 : Pl := .st (.act none (.px (some 17) (.un .not (.v 16)))) <|
    .st (.act none (.px (some 18) (.mv (.v 17)))) <|
    .st (.act (some (.v 18, false)) (.px (some 19) (.mv (.v 8)))) <|
    .st (.act (some (.v 18, false)) (.px (some 20) (.mv (.v 5)))) <|
    .st (.act (some (.v 18, false)) (.px (some 21) (.eqb true (.v 19) (.v 20)))) <|
    .st (.act none (.px (some 22) (.pick (.v 18) (.c (.bool true)) (.v 21)))) .done
@[simp] def W4_44 := @Pl.wpe _ _ K4_44.eq_1
def K4_45 : C := .seq (.seq (.pl <| .st (.ext 14 9) <|
    .st (.act none (.pget (some 14) none 7 0 (some 2))) <|
    .st (.act none (.pget (some 15) none 4 0 (some 2))) <|
    .st (.act none (.ex (some 16) (.call fn_laws_eqGraph [.v 14, .v 15]))) K4_44) K4_43) K4_41
@[simp] def W4_45 := @C.wpe _ _ K4_45.eq_1
def K4_46 : Pl := .st (.act none (.px (some 16) (.mv (.v 15)))) <|
    .st (.act none (.px (some 17) (.extract 0 (.v 16)))) <|
    .st (.act none (.px (some 18) (.extract 1 (.v 16)))) <|
    .st (.act none (.pnew 7 (.c (.agg #[.slice none 0 0, .slice none 0 0])) [])) <|
    .st (.act none (.pset none 7 0 2 (.v 17))) <|
    .st (.act none (.px (some 8) (.mv (.v 18)))) .done
@[simp] def W4_46 := @Pl.wpe _ _ K4_46.eq_1
def K4_47 : C := .seq (.pl <| .st (.ext 14 5) <|
    .st (.act none (.pget (some 14) none 6 0 (some 2))) <|
    .st (.act none (.ex (some 15) (.call fn_impl_BuildGraph [.v 14]))) K4_46) K4_45
@[simp] def W4_47 := @C.wpe _ _ K4_47.eq_1
def K4_48 : Pl := .st (.act none (.pnew 6 (.c (.agg #[.slice none 0 0, .slice none 0 0])) [])) <|
    .st (.act none (.pset none 6 0 2 (.v 15))) .done
@[simp] def W4_48 := @Pl.wpe _ _ K4_48.eq_1
def K4_49 : C := .seq (.pl <| .st (.ext 14 2) <|
    .st (.act none (.pget (some 14) none 1 0 (some 2))) <|
    .st (.act none (.ex (some 15) (.call fn_laws_toSystem [.v 14]))) K4_48) K4_47
@[simp] def W4_49 := @C.wpe _ _ K4_49.eq_1
def K4_50 : Pl := .st (.act none (.px (some 17) (.mv (.v 16)))) <|
    .st (.act none (.px (some 18) (.extract 0 (.v 17)))) <|
    .st (.act none (.px (some 19) (.extract 1 (.v 17)))) <|
    .st (.act none (.pnew 4 (.c (.agg #[.slice none 0 0, .slice none 0 0])) [])) <|
    .st (.act none (.pset none 4 0 2 (.v 18))) <|
    .st (.act none (.px (some 5) (.mv (.v 19)))) .done
@[simp] def W4_50 := @Pl.wpe _ _ K4_50.eq_1
def K4_51 : Pl := .st (.act none (.ex (some 16) (.call fn_spec_BuildGraph [.v 15]))) K4_50
@[simp] def W4_51 := @Pl.wpe _ _ K4_51.eq_1
def K4_52 : C := .seq (.pl <| .st (.ext 14 6) <|
    .st (.act none (.pget (some 14) none 1 0 (some 2))) <|
    .st (.act none (.ex (some 15) (.call fn_laws_toSystem [.v 14]))) K4_51) K4_49
@[simp] def W4_52 := @C.wpe _ _ K4_52.eq_1
def K4_53 : C := .seq (.pl <| .st (.ext 14 0) <|
    .st (.act none (.px (some 2) (.mv (.c (.bool true))))) .done) (.ret)
@[simp] def W4_53 := @C.wpe _ _ K4_53.eq_1
def K4_54 : C := .cond 14 (.v 15) K4_53 (.skip)
@[simp] def W4_54 := @C.wpe _ _ K4_54.eq_1
def K4_55 : C := .seq (.seq (.pl <| .st (.ext 14 2) <|
    .st (.act none (.px (some 14) (.mv (.v 3)))) <|
    .st (.act none (.px (some 15) (.bin .lss (.v 14) (.c (.int .i64 0))))) .done) K4_54) K4_52
@[simp] def W4_55 := @C.wpe _ _ K4_55.eq_1
def K4_56 : Pl := .st (.act none (.px (some 3) (.mv (.v 16)))) .done
@[simp] def W4_56 := @Pl.wpe _ _ K4_56.eq_1
def K4_57 : C := .seq (.pl <| .st (.ext 14 3) <|
    .st (.act none (.pget (some 14) none 1 0 (some 2))) <|
    .st (.act none (.px (some 15) (.mv (.v 3)))) <|
    .st (.act none (.ex (some 16) (.call fn_laws_szSystem [.v 14, .v 15]))) K4_56) K4_55
@[simp] def W4_57 := @C.wpe _ _ K4_57.eq_1
def K4_58 : C := .seq (.pl <| .st (.ext 14 0) <|
    .st (.act none (.px (some 3) (.mv (.c (.int .i64 1048576))))) .done) K4_57
@[simp] def W4_58 := @C.wpe _ _ K4_58.eq_1
def B_laws_FnExactBuildGraph : C := .seq (.pl <| .st (.ext 14 0) <|
    .st (.act none (.pnew 1 (.v 0) [])) <|
    .st (.act none (.px (some 2) (.mv (.c (.bool false))))) .done) K4_58
@[simp] def WB_laws_FnExactBuildGraph := @C.wpe _ _ B_laws_FnExactBuildGraph.eq_1
def R_laws_FnExactBuildGraph : FIR := ⟨B_laws_FnExactBuildGraph, 14, [(2, none)]⟩
theorem IR_laws_FnExactBuildGraph : cfun Tryz.prog H_laws_FnExactBuildGraph Tryz.f4 = some R_laws_FnExactBuildGraph := by kernel_rfl
theorem EN_laws_FnExactBuildGraph {args : List Value} {h : Heap} {k : Value → Heap → Prop} (hargs : args.length = 1) (hw : B_laws_FnExactBuildGraph.wp Tryz.prog (retQ [(2, none)] k) (env0 args 14) h) : CallE Tryz.prog fn_laws_FnExactBuildGraph args h k := enter Tryz.func4 rfl IR_laws_FnExactBuildGraph hargs hw

def H_laws_eqGraph : Hint := ⟨[(0, false), (1, false), (2, true), (3, true), (4, false)], []⟩
def K18_1 : C := .seq (.pl <| .st (.ext 5 0) <|
    .st (.act none (.px (some 4) (.mv (.c (.bool true))))) .done) (.ret)
@[simp] def W18_1 := @C.wpe _ _ K18_1.eq_1
def K18_2 : C := .seq (.pl <| .st (.ext 5 0) <|
    .st (.act none (.px (some 4) (.mv (.c (.bool false))))) .done) (.ret)
@[simp] def W18_2 := @C.wpe _ _ K18_2.eq_1
def K18_3 : C := .cond 5 (.v 10) K18_2 (.skip)
@[simp] def W18_3 := @C.wpe _ _ K18_3.eq_1
def K18_4 : Pl := .st (.act none (.px (some 10) (.un .not (.v 9)))) .done
@[simp] def W18_4 := @Pl.wpe _ _ K18_4.eq_1
def K18_5 : C := .seq (.seq (.pl <| .st (.ext 5 6) <|
    .st (.act none (.als 5 none 2)) <|
    .st (.act none (.pget (some 6) (some 5) 2 1 none)) <|
    .st (.act none (.als 7 none 3)) <|
    .st (.act none (.pget (some 8) (some 7) 3 1 none)) <|
    .st (.act none (.ex (some 9) (.call fn_laws_eqIntSS [.v 6, .v 8]))) K18_4) K18_3) K18_1
@[simp] def W18_5 := @C.wpe _ _ K18_5.eq_1
def K18_6 : C := .seq (.pl <| .st (.ext 5 0) <|
    .st (.act none (.px (some 4) (.mv (.c (.bool false))))) .done) (.ret)
@[simp] def W18_6 := @C.wpe _ _ K18_6.eq_1
def K18_7 : C := .cond 5 (.v 10) K18_6 (.skip)
@[simp] def W18_7 := @C.wpe _ _ K18_7.eq_1
def K18_8 : Pl := .st (.act none (.px (some 10) (.un .not (.v 9)))) .done
@[simp] def W18_8 := @Pl.wpe _ _ K18_8.eq_1
def K18_9 : C := .seq (.seq (.pl <| .st (.ext 5 6) <|
    .st (.act none (.als 5 none 2)) <|
    .st (.act none (.pget (some 6) (some 5) 2 0 none)) <|
    .st (.act none (.als 7 none 3)) <|
    .st (.act none (.pget (some 8) (some 7) 3 0 none)) <|
    .st (.act none (.ex (some 9) (.call fn_laws_eqStateS [.v 6, .v 8]))) K18_8) K18_7) K18_5
@[simp] def W18_9 := @C.wpe _ _ K18_9.eq_1
def B_laws_eqGraph : C := .seq (.pl <| .st (.ext 5 0) <|
    .st (.act none (.pnew 2 (.v 0) [])) <|
    .st (.act none (.pnew 3 (.v 1) [])) <|
    .st (.act none (.px (some 4) (.mv (.c (.bool false))))) .done) K18_9
@[simp] def WB_laws_eqGraph := @C.wpe _ _ B_laws_eqGraph.eq_1
def R_laws_eqGraph : FIR := ⟨B_laws_eqGraph, 5, [(4, none)]⟩
theorem IR_laws_eqGraph : cfun Tryz.prog H_laws_eqGraph Tryz.f18 = some R_laws_eqGraph := by kernel_rfl
theorem EN_laws_eqGraph {args : List Value} {h : Heap} {k : Value → Heap → Prop} (hargs : args.length = 2) (hw : B_laws_eqGraph.wp Tryz.prog (retQ [(4, none)] k) (env0 args 5) h) : CallE Tryz.prog fn_laws_eqGraph args h k := enter Tryz.func18 rfl IR_laws_eqGraph hargs hw

def H_laws_eqIntSS : Hint := ⟨[(0, false), (1, false), (4, false), (5, false)], [[2]]⟩
def K49_1 : C := .seq (.pl <| .st (.ext 4 0) <|
    .st (.act none (.px (some 2) (.mv (.c (.bool true))))) .done) (.ret)
@[simp] def W49_1 := @C.wpe _ _ K49_1.eq_1
def K49_2 : C := .pl <| .st (.ext 4 2) <|
    .st (.act none (.px (some 4) (.mv (.v 3)))) <|
    .st (.act none (.px (some 5) (.bin .add (.v 4) (.c (.int .i64 1))))) <|
    .st (.act none (.px (some 3) (.mv (.v 5)))) .done
@[simp] def W49_2 := @C.wpe _ _ K49_2.eq_1
def K49_3 : C := .seq (.pl <| .st (.ext 4 0) <|
    .st (.act none (.px (some 2) (.mv (.c (.bool false))))) .done) (.ret)
@[simp] def W49_3 := @C.wpe _ _ K49_3.eq_1
def K49_4 : C := .cond 4 (.v 13) K49_3 (.skip)
@[simp] def W49_4 := @C.wpe _ _ K49_4.eq_1
def K49_5 : Pl := .st (.act none (.px (some 13) (.un .not (.v 12)))) .done
@[simp] def W49_5 := @Pl.wpe _ _ K49_5.eq_1
def K49_6 : C := .seq (.block 1 (.seq (.pl <| .st (.ext 4 10) <|
    .st (.act none (.px (some 4) (.mv (.v 0)))) <|
    .st (.act none (.px (some 5) (.mv (.v 3)))) <|
    .st (.act none (.px (some 6) (.ia 1 (.v 4) (.v 5)))) <|
    .st (.act none (.ld (some 7) (.v 6) none)) <|
    .st (.act none (.px (some 8) (.mv (.v 1)))) <|
    .st (.act none (.px (some 9) (.mv (.v 3)))) <|
    .st (.act none (.px (some 10) (.ia 1 (.v 8) (.v 9)))) <|
    .st (.act none (.ld (some 11) (.v 10) none)) <|
    .st (.act none (.ex (some 12) (.call fn_laws_eqIntS [.v 7, .v 11]))) K49_5) K49_4)) K49_2
@[simp] def W49_6 := @C.wpe _ _ K49_6.eq_1
def K49_7 : C := .cond 4 (.v 7) (.skip) (.exit 0)
@[simp] def W49_7 := @C.wpe _ _ K49_7.eq_1
def K49_8 : C := .seq (.seq (.pl <| .st (.ext 4 4) <|
    .st (.act none (.px (some 4) (.mv (.v 3)))) <|
    .st (.act none (.px (some 5) (.mv (.v 0)))) <|
    .st (.act none (.px (some 6) (.lenV (.v 5)))) <|
    .st (.act none (.px (some 7) (.bin .lss (.v 4) (.v 6)))) .done) K49_7) K49_6
@[simp] def W49_8 := @C.wpe _ _ K49_8.eq_1
def K49_9 : C := .block 0 (.loop 4 [2] K49_8)
@[simp] def W49_9 := @C.wpe _ _ K49_9.eq_1
def K49_10 : C := .seq (.seq (.pl <| .st (.ext 4 0) <|
    .st (.act none (.px (some 3) (.mv (.c (.int .i64 0))))) .done) K49_9) K49_1
@[simp] def W49_10 := @C.wpe _ _ K49_10.eq_1
def K49_11 : C := .seq (.pl <| .st (.ext 4 0) <|
    .st (.act none (.px (some 2) (.mv (.c (.bool false))))) .done) (.ret)
@[simp] def W49_11 := @C.wpe _ _ K49_11.eq_1
def K49_12 : C := .cond 4 (.v 8) K49_11 (.skip)
@[simp] def W49_12 := @C.wpe _ _ K49_12.eq_1
def K49_13 : C := .seq (.seq (.pl <| .st (.ext 4 5) <|
    .st (.act none (.px (some 4) (.mv (.v 0)))) <|
    .st (.act none (.px (some 5) (.lenV (.v 4)))) <|
    .st (.act none (.px (some 6) (.mv (.v 1)))) <|
    .st (.act none (.px (some 7) (.lenV (.v 6)))) <|
    .st (.act none (.px (some 8) (.bin .neq (.v 5) (.v 7)))) .done) K49_12) K49_10
@[simp] def W49_13 := @C.wpe _ _ K49_13.eq_1
def B_laws_eqIntSS : C := .seq (.pl <| .st (.ext 4 0) <|
    .st (.act none (.px (some 2) (.mv (.c (.bool false))))) .done) K49_13
@[simp] def WB_laws_eqIntSS := @C.wpe _ _ B_laws_eqIntSS.eq_1
def R_laws_eqIntSS : FIR := ⟨B_laws_eqIntSS, 4, [(2, none)]⟩
theorem IR_laws_eqIntSS : cfun Tryz.prog H_laws_eqIntSS Tryz.f49 = some R_laws_eqIntSS := by kernel_rfl
theorem EN_laws_eqIntSS {args : List Value} {h : Heap} {k : Value → Heap → Prop} (hargs : args.length = 2) (hw : B_laws_eqIntSS.wp Tryz.prog (retQ [(2, none)] k) (env0 args 4) h) : CallE Tryz.prog fn_laws_eqIntSS args h k := enter Tryz.func49 rfl IR_laws_eqIntSS hargs hw

def H_laws_heldGraph : Hint := ⟨[(0, false), (1, false), (2, true), (4, false)], []⟩
def K20_1 : C := .seq (.pl <| .st (.ext 4 1) <|
    .st (.act none (.px (some 4) (.mv (.v 1)))) <|
    .st (.act none (.px (some 3) (.mv (.v 4)))) .done) (.ret)
@[simp] def W20_1 := @C.wpe _ _ K20_1.eq_1
def K20_2 : C := .seq (.pl <| .st (.ext 4 0) <|
    .st (.act none (.px (some 3) (.mv (.c (.int .i64 (-1)))))) .done) (.ret)
@[simp] def W20_2 := @C.wpe _ _ K20_2.eq_1
def K20_3 : C := .cond 4 (.v 5) K20_2 (.skip)
@[simp] def W20_3 := @C.wpe _ _ K20_3.eq_1
def K20_4 : C := .seq (.seq (.pl <| .st (.ext 4 2) <|
    .st (.act none (.px (some 4) (.mv (.v 1)))) <|
    .st (.act none (.px (some 5) (.bin .lss (.v 4) (.c (.int .i64 0))))) .done) K20_3) K20_1
@[simp] def W20_4 := @C.wpe _ _ K20_4.eq_1
def K20_5 : Pl := .st (.act none (.px (some 1) (.mv (.v 7)))) .done
@[simp] def W20_5 := @Pl.wpe _ _ K20_5.eq_1
def K20_6 : C := .seq (.pl <| .st (.ext 4 4) <|
    .st (.act none (.als 4 none 2)) <|
    .st (.act none (.pget (some 5) (some 4) 2 1 none)) <|
    .st (.act none (.px (some 6) (.mv (.v 1)))) <|
    .st (.act none (.ex (some 7) (.call fn_laws_heldIntSS [.v 5, .v 6]))) K20_5) K20_4
@[simp] def W20_6 := @C.wpe _ _ K20_6.eq_1
def K20_7 : C := .seq (.pl <| .st (.ext 4 0) <|
    .st (.act none (.px (some 3) (.mv (.c (.int .i64 (-1)))))) .done) (.ret)
@[simp] def W20_7 := @C.wpe _ _ K20_7.eq_1
def K20_8 : C := .cond 4 (.v 5) K20_7 (.skip)
@[simp] def W20_8 := @C.wpe _ _ K20_8.eq_1
def K20_9 : C := .seq (.seq (.pl <| .st (.ext 4 2) <|
    .st (.act none (.px (some 4) (.mv (.v 1)))) <|
    .st (.act none (.px (some 5) (.bin .lss (.v 4) (.c (.int .i64 0))))) .done) K20_8) K20_6
@[simp] def W20_9 := @C.wpe _ _ K20_9.eq_1
def K20_10 : Pl := .st (.act none (.px (some 1) (.mv (.v 7)))) .done
@[simp] def W20_10 := @Pl.wpe _ _ K20_10.eq_1
def K20_11 : C := .seq (.pl <| .st (.ext 4 4) <|
    .st (.act none (.als 4 none 2)) <|
    .st (.act none (.pget (some 5) (some 4) 2 0 none)) <|
    .st (.act none (.px (some 6) (.mv (.v 1)))) <|
    .st (.act none (.ex (some 7) (.call fn_laws_heldStateS [.v 5, .v 6]))) K20_10) K20_9
@[simp] def W20_11 := @C.wpe _ _ K20_11.eq_1
def B_laws_heldGraph : C := .seq (.pl <| .st (.ext 4 0) <|
    .st (.act none (.pnew 2 (.v 0) [])) <|
    .st (.act none (.px (some 3) (.mv (.c (.int .i64 0))))) .done) K20_11
@[simp] def WB_laws_heldGraph := @C.wpe _ _ B_laws_heldGraph.eq_1
def R_laws_heldGraph : FIR := ⟨B_laws_heldGraph, 4, [(3, none)]⟩
theorem IR_laws_heldGraph : cfun Tryz.prog H_laws_heldGraph Tryz.f20 = some R_laws_heldGraph := by kernel_rfl
theorem EN_laws_heldGraph {args : List Value} {h : Heap} {k : Value → Heap → Prop} (hargs : args.length = 2) (hw : B_laws_heldGraph.wp Tryz.prog (retQ [(3, none)] k) (env0 args 4) h) : CallE Tryz.prog fn_laws_heldGraph args h k := enter Tryz.func20 rfl IR_laws_heldGraph hargs hw

def H_laws_heldIntSS : Hint := ⟨[(0, false), (1, false), (4, false), (5, false)], [[2]]⟩
def K51_1 : C := .seq (.pl <| .st (.ext 4 1) <|
    .st (.act none (.px (some 4) (.mv (.v 1)))) <|
    .st (.act none (.px (some 2) (.mv (.v 4)))) .done) (.ret)
@[simp] def W51_1 := @C.wpe _ _ K51_1.eq_1
def K51_2 : C := .pl <| .st (.ext 4 2) <|
    .st (.act none (.px (some 4) (.mv (.v 3)))) <|
    .st (.act none (.px (some 5) (.bin .add (.v 4) (.c (.int .i64 1))))) <|
    .st (.act none (.px (some 3) (.mv (.v 5)))) .done
@[simp] def W51_2 := @C.wpe _ _ K51_2.eq_1
def K51_3 : C := .seq (.pl <| .st (.ext 4 0) <|
    .st (.act none (.px (some 2) (.mv (.c (.int .i64 (-1)))))) .done) (.ret)
@[simp] def W51_3 := @C.wpe _ _ K51_3.eq_1
def K51_4 : C := .cond 4 (.v 5) K51_3 (.skip)
@[simp] def W51_4 := @C.wpe _ _ K51_4.eq_1
def K51_5 : C := .seq (.pl <| .st (.ext 4 2) <|
    .st (.act none (.px (some 4) (.mv (.v 1)))) <|
    .st (.act none (.px (some 5) (.bin .lss (.v 4) (.c (.int .i64 0))))) .done) K51_4
@[simp] def W51_5 := @C.wpe _ _ K51_5.eq_1
def K51_6 : Pl := .st (.act none (.px (some 1) (.mv (.v 9)))) .done
@[simp] def W51_6 := @Pl.wpe _ _ K51_6.eq_1
def K51_7 : C := .seq (.block 1 (.seq (.pl <| .st (.ext 4 6) <|
    .st (.act none (.px (some 4) (.mv (.v 0)))) <|
    .st (.act none (.px (some 5) (.mv (.v 3)))) <|
    .st (.act none (.px (some 6) (.ia 1 (.v 4) (.v 5)))) <|
    .st (.act none (.ld (some 7) (.v 6) none)) <|
    .st (.act none (.px (some 8) (.mv (.v 1)))) <|
    .st (.act none (.ex (some 9) (.call fn_laws_heldIntS [.v 7, .v 8]))) K51_6) K51_5)) K51_2
@[simp] def W51_7 := @C.wpe _ _ K51_7.eq_1
def K51_8 : C := .cond 4 (.v 7) (.skip) (.exit 0)
@[simp] def W51_8 := @C.wpe _ _ K51_8.eq_1
def K51_9 : C := .seq (.seq (.pl <| .st (.ext 4 4) <|
    .st (.act none (.px (some 4) (.mv (.v 3)))) <|
    .st (.act none (.px (some 5) (.mv (.v 0)))) <|
    .st (.act none (.px (some 6) (.lenV (.v 5)))) <|
    .st (.act none (.px (some 7) (.bin .lss (.v 4) (.v 6)))) .done) K51_8) K51_7
@[simp] def W51_9 := @C.wpe _ _ K51_9.eq_1
def K51_10 : C := .block 0 (.loop 4 [2] K51_9)
@[simp] def W51_10 := @C.wpe _ _ K51_10.eq_1
def K51_11 : C := .seq (.seq (.pl <| .st (.ext 4 0) <|
    .st (.act none (.px (some 3) (.mv (.c (.int .i64 0))))) .done) K51_10) K51_1
@[simp] def W51_11 := @C.wpe _ _ K51_11.eq_1
def B_laws_heldIntSS : C := .seq (.pl <| .st (.ext 4 0) <|
    .st (.act none (.px (some 2) (.mv (.c (.int .i64 0))))) .done) K51_11
@[simp] def WB_laws_heldIntSS := @C.wpe _ _ B_laws_heldIntSS.eq_1
def R_laws_heldIntSS : FIR := ⟨B_laws_heldIntSS, 4, [(2, none)]⟩
theorem IR_laws_heldIntSS : cfun Tryz.prog H_laws_heldIntSS Tryz.f51 = some R_laws_heldIntSS := by kernel_rfl
theorem EN_laws_heldIntSS {args : List Value} {h : Heap} {k : Value → Heap → Prop} (hargs : args.length = 2) (hw : B_laws_heldIntSS.wp Tryz.prog (retQ [(2, none)] k) (env0 args 4) h) : CallE Tryz.prog fn_laws_heldIntSS args h k := enter Tryz.func51 rfl IR_laws_heldIntSS hargs hw

def H_laws_markGraph : Hint := ⟨[(0, false), (1, false), (2, true), (4, false)], []⟩
def K19_1 : C := .seq (.pl <| .st (.ext 4 1) <|
    .st (.act none (.px (some 4) (.mv (.v 1)))) <|
    .st (.act none (.px (some 3) (.mv (.v 4)))) .done) (.ret)
@[simp] def W19_1 := @C.wpe _ _ K19_1.eq_1
def K19_2 : Pl := .st (.act none (.px (some 1) (.mv (.v 7)))) .done
@[simp] def W19_2 := @Pl.wpe _ _ K19_2.eq_1
def K19_3 : C := .seq (.pl <| .st (.ext 4 4) <|
    .st (.act none (.als 4 none 2)) <|
    .st (.act none (.pget (some 5) (some 4) 2 1 none)) <|
    .st (.act none (.px (some 6) (.mv (.v 1)))) <|
    .st (.act none (.ex (some 7) (.call fn_laws_markIntSS [.v 5, .v 6]))) K19_2) K19_1
@[simp] def W19_3 := @C.wpe _ _ K19_3.eq_1
def K19_4 : Pl := .st (.act none (.px (some 1) (.mv (.v 7)))) .done
@[simp] def W19_4 := @Pl.wpe _ _ K19_4.eq_1
def K19_5 : C := .seq (.pl <| .st (.ext 4 4) <|
    .st (.act none (.als 4 none 2)) <|
    .st (.act none (.pget (some 5) (some 4) 2 0 none)) <|
    .st (.act none (.px (some 6) (.mv (.v 1)))) <|
    .st (.act none (.ex (some 7) (.call fn_laws_markStateS [.v 5, .v 6]))) K19_4) K19_3
@[simp] def W19_5 := @C.wpe _ _ K19_5.eq_1
def B_laws_markGraph : C := .seq (.pl <| .st (.ext 4 0) <|
    .st (.act none (.pnew 2 (.v 0) [])) <|
    .st (.act none (.px (some 3) (.mv (.c (.int .i64 0))))) .done) K19_5
@[simp] def WB_laws_markGraph := @C.wpe _ _ B_laws_markGraph.eq_1
def R_laws_markGraph : FIR := ⟨B_laws_markGraph, 4, [(3, none)]⟩
theorem IR_laws_markGraph : cfun Tryz.prog H_laws_markGraph Tryz.f19 = some R_laws_markGraph := by kernel_rfl
theorem EN_laws_markGraph {args : List Value} {h : Heap} {k : Value → Heap → Prop} (hargs : args.length = 2) (hw : B_laws_markGraph.wp Tryz.prog (retQ [(3, none)] k) (env0 args 4) h) : CallE Tryz.prog fn_laws_markGraph args h k := enter Tryz.func19 rfl IR_laws_markGraph hargs hw

def H_laws_markIntSS : Hint := ⟨[(0, false), (1, false), (4, false), (5, false)], [[2]]⟩
def K50_1 : C := .seq (.pl <| .st (.ext 4 1) <|
    .st (.act none (.px (some 4) (.mv (.v 1)))) <|
    .st (.act none (.px (some 2) (.mv (.v 4)))) .done) (.ret)
@[simp] def W50_1 := @C.wpe _ _ K50_1.eq_1
def K50_2 : C := .pl <| .st (.ext 4 2) <|
    .st (.act none (.px (some 4) (.mv (.v 3)))) <|
    .st (.act none (.px (some 5) (.bin .add (.v 4) (.c (.int .i64 1))))) <|
    .st (.act none (.px (some 3) (.mv (.v 5)))) .done
@[simp] def W50_2 := @C.wpe _ _ K50_2.eq_1
def K50_3 : Pl := .st (.act none (.px (some 1) (.mv (.v 9)))) .done
@[simp] def W50_3 := @Pl.wpe _ _ K50_3.eq_1
def K50_4 : C := .seq (.block 1 (.pl <| .st (.ext 4 6) <|
    .st (.act none (.px (some 4) (.mv (.v 0)))) <|
    .st (.act none (.px (some 5) (.mv (.v 3)))) <|
    .st (.act none (.px (some 6) (.ia 1 (.v 4) (.v 5)))) <|
    .st (.act none (.ld (some 7) (.v 6) none)) <|
    .st (.act none (.px (some 8) (.mv (.v 1)))) <|
    .st (.act none (.ex (some 9) (.call fn_laws_markIntS [.v 7, .v 8]))) K50_3)) K50_2
@[simp] def W50_4 := @C.wpe _ _ K50_4.eq_1
def K50_5 : C := .cond 4 (.v 7) (.skip) (.exit 0)
@[simp] def W50_5 := @C.wpe _ _ K50_5.eq_1
def K50_6 : C := .seq (.seq (.pl <| .st (.ext 4 4) <|
    .st (.act none (.px (some 4) (.mv (.v 3)))) <|
    .st (.act none (.px (some 5) (.mv (.v 0)))) <|
    .st (.act none (.px (some 6) (.lenV (.v 5)))) <|
    .st (.act none (.px (some 7) (.bin .lss (.v 4) (.v 6)))) .done) K50_5) K50_4
@[simp] def W50_6 := @C.wpe _ _ K50_6.eq_1
def K50_7 : C := .block 0 (.loop 4 [2] K50_6)
@[simp] def W50_7 := @C.wpe _ _ K50_7.eq_1
def K50_8 : C := .seq (.seq (.pl <| .st (.ext 4 0) <|
    .st (.act none (.px (some 3) (.mv (.c (.int .i64 0))))) .done) K50_7) K50_1
@[simp] def W50_8 := @C.wpe _ _ K50_8.eq_1
def B_laws_markIntSS : C := .seq (.pl <| .st (.ext 4 0) <|
    .st (.act none (.px (some 2) (.mv (.c (.int .i64 0))))) .done) K50_8
@[simp] def WB_laws_markIntSS := @C.wpe _ _ B_laws_markIntSS.eq_1
def R_laws_markIntSS : FIR := ⟨B_laws_markIntSS, 4, [(2, none)]⟩
theorem IR_laws_markIntSS : cfun Tryz.prog H_laws_markIntSS Tryz.f50 = some R_laws_markIntSS := by kernel_rfl
theorem EN_laws_markIntSS {args : List Value} {h : Heap} {k : Value → Heap → Prop} (hargs : args.length = 2) (hw : B_laws_markIntSS.wp Tryz.prog (retQ [(2, none)] k) (env0 args 4) h) : CallE Tryz.prog fn_laws_markIntSS args h k := enter Tryz.func50 rfl IR_laws_markIntSS hargs hw


end Go.Proofs.YthgimpheeemooaaGreat
