/-
  Bodies of functions in the small language, as a program printed them, and that each is what the translation gives.
-/
import Derived.Test.YthgimpheeemooaaI1
namespace Go.Proofs.Ythgimpheeemooaa
open Go
set_option linter.all false
set_option linter.defProp false
set_option maxRecDepth 1000000

def H_laws_FnExactRelevantVars : Hint := ⟨[(0, false), (1, false), (2, true), (4, false), (5, false), (6, false), (7, false), (8, true), (9, false), (10, false), (11, false), (12, false), (13, false), (14, false), (15, false), (16, false)], []⟩
def K3_1 : C := .seq (.pl <| .st (.ext 16 0) <|
    .st (.act none (.px (some 3) (.mv (.c (.bool true))))) .done) (.ret)
@[simp] def W3_1 := @C.wpe _ _ K3_1.eq_1
def K3_2 : C := .seq (.pl <| .st (.ext 16 0) <|
    .st (.act none (.px (some 3) (.mv (.c (.bool false))))) .done) (.ret)
@[simp] def W3_2 := @C.wpe _ _ K3_2.eq_1
def K3_3 : C := .cond 16 (.v 18) K3_2 (.skip)
@[simp] def W3_3 := @C.wpe _ _ K3_3.eq_1
def K3_4 : C := .seq (.seq (.pl <| .st (.ext 16 3) <|
    .st (.act none (.px (some 16) (.mv (.v 13)))) <|
    .st (.act none (.px (some 17) (.mv (.v 12)))) <|
    .st (.act none (.px (some 18) (.bin .neq (.v 16) (.v 17)))) .done) K3_3) K3_1
@[simp] def W3_4 := @C.wpe _ _ K3_4.eq_1
def K3_5 : C := .seq (.pl <| .st (.ext 16 0) <|
    .st (.act none (.px (some 3) (.mv (.c (.bool false))))) .done) (.ret)
@[simp] def W3_5 := @C.wpe _ _ K3_5.eq_1
def K3_6 : C := .cond 16 (.v 17) K3_5 (.skip)
@[simp] def W3_6 := @C.wpe _ _ K3_6.eq_1
def K3_7 : C := .seq (.seq (.pl <| .st (.ext 16 2) <|
    .st (.act none (.px (some 16) (.mv (.v 13)))) <|
    .st (.act none (.px (some 17) (.bin .lss (.v 16) (.c (.int .i64 0))))) .done) K3_6) K3_4
@[simp] def W3_7 := @C.wpe _ _ K3_7.eq_1
def K3_8 : Pl := .st (.act none (.px (some 13) (.mv (.v 18)))) .done
@[simp] def W3_8 := @Pl.wpe _ _ K3_8.eq_1
def K3_9 : C := .seq (.pl <| .st (.ext 16 3) <|
    .st (.act none (.px (some 16) (.mv (.v 9)))) <|
    .st (.act none (.px (some 17) (.mv (.v 13)))) <|
    .st (.act none (.ex (some 18) (.call fn_laws_heldBoolS [.v 16, .v 17]))) K3_8) K3_7
@[simp] def W3_9 := @C.wpe _ _ K3_9.eq_1
def K3_10 : C := .seq (.pl <| .st (.ext 16 0) <|
    .st (.act none (.px (some 13) (.mv (.c (.int .i64 1))))) .done) K3_9
@[simp] def W3_10 := @C.wpe _ _ K3_10.eq_1
def K3_11 : C := .seq (.pl <| .st (.ext 16 0) <|
    .st (.act none (.px (some 3) (.mv (.c (.bool false))))) .done) (.ret)
@[simp] def W3_11 := @C.wpe _ _ K3_11.eq_1
def K3_12 : C := .cond 16 (.v 24) K3_11 (.skip)
@[simp] def W3_12 := @C.wpe _ _ K3_12.eq_1
def K3_13 : Pl := .st (.act none (.px (some 19) (.un .not (.v 18)))) <|
    .st (.act none (.px (some 20) (.mv (.v 19)))) <|
    .st (.act (some (.v 20, false)) (.px (some 21) (.mv (.v 15)))) <|
    .st (.act (some (.v 20, false)) (.px (some 22) (.mv (.v 6)))) <|
    .st (.act (some (.v 20, false)) (.px (some 23) (.eqb true (.v 21) (.v 22)))) <|
    .st (.act none (.px (some 24) (.pick (.v 20) (.c (.bool true)) (.v 23)))) .done
@[simp] def W3_13 := @Pl.wpe _ _ K3_13.eq_1
def K3_14 : C := .seq (.seq (.pl <| .st (.ext 16 9) <|
    .st (.act none (.px (some 16) (.mv (.v 14)))) <|
    .st (.act none (.px (some 17) (.mv (.v 5)))) <|
    .st (.act none (.ex (some 18) (.call fn_laws_eqBoolS [.v 16, .v 17]))) K3_13) K3_12) K3_10
@[simp] def W3_14 := @C.wpe _ _ K3_14.eq_1
def K3_15 : Pl := .st (.act none (.px (some 21) (.mv (.v 20)))) <|
    .st (.act none (.px (some 22) (.extract 0 (.v 21)))) <|
    .st (.act none (.px (some 23) (.extract 1 (.v 21)))) <|
    .st (.act none (.px (some 14) (.mv (.v 22)))) <|
    .st (.act none (.px (some 15) (.mv (.v 23)))) .done
@[simp] def W3_15 := @Pl.wpe _ _ K3_15.eq_1
def K3_16 : Pl := .st (.act none (.ex (some 20) (.call fn_impl_RelevantVars [.v 17, .v 19]))) K3_15
@[simp] def W3_16 := @Pl.wpe _ _ K3_16.eq_1
def K3_17 : Pl := .st (.act none (.px (some 18) (.mv (.v 1)))) <|
    .st (.act none (.ex (some 19) (.call fn_laws_toExprS [.v 18]))) K3_16
@[simp] def W3_17 := @Pl.wpe _ _ K3_17.eq_1
def K3_18 : C := .seq (.pl <| .st (.ext 16 8) <|
    .st (.act none (.pget (some 16) none 2 0 (some 2))) <|
    .st (.act none (.ex (some 17) (.call fn_laws_toSystem [.v 16]))) K3_17) K3_14
@[simp] def W3_18 := @C.wpe _ _ K3_18.eq_1
def K3_19 : C := .seq (.pl <| .st (.ext 16 0) <|
    .st (.act none (.px (some 3) (.mv (.c (.bool false))))) .done) (.ret)
@[simp] def W3_19 := @C.wpe _ _ K3_19.eq_1
def K3_20 : C := .cond 16 (.v 18) K3_19 (.skip)
@[simp] def W3_20 := @C.wpe _ _ K3_20.eq_1
def K3_21 : C := .seq (.seq (.pl <| .st (.ext 16 3) <|
    .st (.act none (.px (some 16) (.mv (.v 13)))) <|
    .st (.act none (.px (some 17) (.mv (.v 12)))) <|
    .st (.act none (.px (some 18) (.bin .neq (.v 16) (.v 17)))) .done) K3_20) K3_18
@[simp] def W3_21 := @C.wpe _ _ K3_21.eq_1
def K3_22 : C := .seq (.pl <| .st (.ext 16 0) <|
    .st (.act none (.px (some 3) (.mv (.c (.bool false))))) .done) (.ret)
@[simp] def W3_22 := @C.wpe _ _ K3_22.eq_1
def K3_23 : C := .cond 16 (.v 17) K3_22 (.skip)
@[simp] def W3_23 := @C.wpe _ _ K3_23.eq_1
def K3_24 : C := .seq (.seq (.pl <| .st (.ext 16 2) <|
    .st (.act none (.px (some 16) (.mv (.v 13)))) <|
    .st (.act none (.px (some 17) (.bin .lss (.v 16) (.c (.int .i64 0))))) .done) K3_23) K3_21
@[simp] def W3_24 := @C.wpe _ _ K3_24.eq_1
def K3_25 : Pl := .st (.act none (.px (some 13) (.mv (.v 18)))) .done
@[simp] def W3_25 := @Pl.wpe _ _ K3_25.eq_1
def K3_26 : C := .seq (.pl <| .st (.ext 16 3) <|
    .st (.act none (.px (some 16) (.mv (.v 9)))) <|
    .st (.act none (.px (some 17) (.mv (.v 13)))) <|
    .st (.act none (.ex (some 18) (.call fn_laws_heldBoolS [.v 16, .v 17]))) K3_25) K3_24
@[simp] def W3_26 := @C.wpe _ _ K3_26.eq_1
def K3_27 : C := .seq (.pl <| .st (.ext 16 0) <|
    .st (.act none (.px (some 13) (.mv (.c (.int .i64 1))))) .done) K3_26
@[simp] def W3_27 := @C.wpe _ _ K3_27.eq_1
def K3_28 : Pl := .st (.act none (.px (some 12) (.mv (.v 18)))) .done
@[simp] def W3_28 := @Pl.wpe _ _ K3_28.eq_1
def K3_29 : C := .seq (.pl <| .st (.ext 16 3) <|
    .st (.act none (.px (some 16) (.mv (.v 9)))) <|
    .st (.act none (.px (some 17) (.mv (.v 12)))) <|
    .st (.act none (.ex (some 18) (.call fn_laws_markBoolS [.v 16, .v 17]))) K3_28) K3_27
@[simp] def W3_29 := @C.wpe _ _ K3_29.eq_1
def K3_30 : C := .seq (.pl <| .st (.ext 16 0) <|
    .st (.act none (.px (some 12) (.mv (.c (.int .i64 1))))) .done) K3_29
@[simp] def W3_30 := @C.wpe _ _ K3_30.eq_1
def K3_31 : C := .seq (.pl <| .st (.ext 16 0) <|
    .st (.act none (.px (some 3) (.mv (.c (.bool false))))) .done) (.ret)
@[simp] def W3_31 := @C.wpe _ _ K3_31.eq_1
def K3_32 : C := .cond 16 (.v 28) K3_31 (.skip)
@[simp] def W3_32 := @C.wpe _ _ K3_32.eq_1
def K3_33 : Pl := .st (.act (some (.v 18, false)) (.px (some 22) (.un .not (.v 21)))) <|
    .st (.act none (.px (some 23) (.pick (.v 18) (.c (.bool true)) (.v 22)))) <|
    .st (.act none (.px (some 24) (.mv (.v 23)))) <|
    .st (.act (some (.v 24, false)) (.px (some 25) (.mv (.v 10)))) <|
    .st (.act (some (.v 24, false)) (.px (some 26) (.mv (.v 6)))) <|
    .st (.act (some (.v 24, false)) (.px (some 27) (.eqb true (.v 25) (.v 26)))) <|
    .st (.act none (.px (some 28) (.pick (.v 24) (.c (.bool true)) (.v 27)))) .done
@[simp] def W3_33 := @Pl.wpe _ _ K3_33.eq_1
def K3_34 : C := .seq (.seq (.pl <| .st (.ext 16 13) <|
    .st (.act none (.px (some 16) (.mv (.v 11)))) <|
    .st (.act none (.px (some 17) (.bin .lss (.v 16) (.c (.int .i64 0))))) <|
    .st (.act none (.px (some 18) (.mv (.v 17)))) <|
    .st (.act (some (.v 18, false)) (.px (some 19) (.mv (.v 9)))) <|
    .st (.act (some (.v 18, false)) (.px (some 20) (.mv (.v 5)))) <|
    .st (.act (some (.v 18, false)) (.ex (some 21) (.call fn_laws_eqBoolS [.v 19, .v 20]))) K3_33) K3_32) K3_30
@[simp] def W3_34 := @C.wpe _ _ K3_34.eq_1
def K3_35 : Pl := .st (.act none (.px (some 11) (.mv (.v 18)))) .done
@[simp] def W3_35 := @Pl.wpe _ _ K3_35.eq_1
def K3_36 : C := .seq (.pl <| .st (.ext 16 3) <|
    .st (.act none (.px (some 16) (.mv (.v 8)))) <|
    .st (.act none (.px (some 17) (.mv (.v 11)))) <|
    .st (.act none (.ex (some 18) (.call fn_laws_markExprS [.v 16, .v 17]))) K3_35) K3_34
@[simp] def W3_36 := @C.wpe _ _ K3_36.eq_1
def K3_37 : Pl := .st (.act none (.px (some 11) (.mv (.v 18)))) .done
@[simp] def W3_37 := @Pl.wpe _ _ K3_37.eq_1
def K3_38 : C := .seq (.pl <| .st (.ext 16 3) <|
    .st (.act none (.pget (some 16) none 7 0 (some 2))) <|
    .st (.act none (.px (some 17) (.mv (.v 11)))) <|
    .st (.act none (.ex (some 18) (.call fn_laws_markSystem [.v 16, .v 17]))) K3_37) K3_36
@[simp] def W3_38 := @C.wpe _ _ K3_38.eq_1
def K3_39 : C := .seq (.pl <| .st (.ext 16 0) <|
    .st (.act none (.px (some 11) (.mv (.c (.int .i64 1))))) .done) K3_38
@[simp] def W3_39 := @C.wpe _ _ K3_39.eq_1
def K3_40 : C := .seq (.pl <| .st (.ext 16 0) <|
    .st (.act none (.px (some 3) (.mv (.c (.bool false))))) .done) (.ret)
@[simp] def W3_40 := @C.wpe _ _ K3_40.eq_1
def K3_41 : C := .cond 16 (.v 20) K3_40 (.skip)
@[simp] def W3_41 := @C.wpe _ _ K3_41.eq_1
def K3_42 : Pl := .st (.act none (.px (some 20) (.un .not (.v 19)))) .done
@[simp] def W3_42 := @Pl.wpe _ _ K3_42.eq_1
def K3_43 : Pl := .st (.act none (.ex (some 19) (.call fn_laws_eqExprS [.v 16, .v 18]))) K3_42
@[simp] def W3_43 := @Pl.wpe _ _ K3_43.eq_1
def K3_44 : C := .seq (.seq (.pl <| .st (.ext 16 5) <|
    .st (.act none (.px (some 16) (.mv (.v 8)))) <|
    .st (.act none (.px (some 17) (.mv (.v 1)))) <|
    .st (.act none (.ex (some 18) (.call fn_laws_toExprS [.v 17]))) K3_43) K3_41) K3_39
@[simp] def W3_44 := @C.wpe _ _ K3_44.eq_1
def K3_45 : C := .seq (.pl <| .st (.ext 16 0) <|
    .st (.act none (.px (some 3) (.mv (.c (.bool false))))) .done) (.ret)
@[simp] def W3_45 := @C.wpe _ _ K3_45.eq_1
def K3_46 : C := .cond 16 (.v 20) K3_45 (.skip)
@[simp] def W3_46 := @C.wpe _ _ K3_46.eq_1
def K3_47 : Pl := .st (.act none (.px (some 20) (.un .not (.v 19)))) .done
@[simp] def W3_47 := @Pl.wpe _ _ K3_47.eq_1
def K3_48 : Pl := .st (.act none (.ex (some 19) (.call fn_laws_eqSystem [.v 16, .v 18]))) K3_47
@[simp] def W3_48 := @Pl.wpe _ _ K3_48.eq_1
def K3_49 : C := .seq (.seq (.pl <| .st (.ext 16 5) <|
    .st (.act none (.pget (some 16) none 7 0 (some 2))) <|
    .st (.act none (.pget (some 17) none 2 0 (some 2))) <|
    .st (.act none (.ex (some 18) (.call fn_laws_toSystem [.v 17]))) K3_48) K3_46) K3_44
@[simp] def W3_49 := @C.wpe _ _ K3_49.eq_1
def K3_50 : C := .seq (.pl <| .st (.ext 16 0) <|
    .st (.act none (.px (some 3) (.mv (.c (.bool false))))) .done) (.ret)
@[simp] def W3_50 := @C.wpe _ _ K3_50.eq_1
def K3_51 : C := .cond 16 (.v 24) K3_50 (.skip)
@[simp] def W3_51 := @C.wpe _ _ K3_51.eq_1
def K3_52 : Pl := .st (.act none (.px (some 19) (.un .not (.v 18)))) <|
    .st (.act none (.px (some 20) (.mv (.v 19)))) <|
    .st (.act (some (.v 20, false)) (.px (some 21) (.mv (.v 10)))) <|
    .st (.act (some (.v 20, false)) (.px (some 22) (.mv (.v 6)))) <|
    .st (.act (some (.v 20, false)) (.px (some 23) (.eqb true (.v 21) (.v 22)))) <|
    .st (.act none (.px (some 24) (.pick (.v 20) (.c (.bool true)) (.v 23)))) .done
@[simp] def W3_52 := @Pl.wpe _ _ K3_52.eq_1
def K3_53 : C := .seq (.seq (.pl <| .st (.ext 16 9) <|
    .st (.act none (.px (some 16) (.mv (.v 9)))) <|
    .st (.act none (.px (some 17) (.mv (.v 5)))) <|
    .st (.act none (.ex (some 18) (.call fn_laws_eqBoolS [.v 16, .v 17]))) K3_52) K3_51) K3_49
@[simp] def W3_53 := @C.wpe _ _ K3_53.eq_1
def K3_54 : Pl := .st (.act none (.px (some 19) (.mv (.v 18)))) <|
    .st (.act none (.px (some 20) (.extract 0 (.v 19)))) <|
    .st (.act none (.px (some 21) (.extract 1 (.v 19)))) <|
    .st (.act none (.px (some 9) (.mv (.v 20)))) <|
    .st (.act none (.px (some 10) (.mv (.v 21)))) .done
@[simp] def W3_54 := @Pl.wpe _ _ K3_54.eq_1
def K3_55 : C := .seq (.pl <| .st (.ext 16 6) <|
    .st (.act none (.pget (some 16) none 7 0 (some 2))) <|
    .st (.act none (.px (some 17) (.mv (.v 8)))) <|
    .st (.act none (.ex (some 18) (.call fn_impl_RelevantVars [.v 16, .v 17]))) K3_54) K3_53
@[simp] def W3_55 := @C.wpe _ _ K3_55.eq_1
def K3_56 : Pl := .st (.act none (.px (some 8) (.mv (.v 17)))) .done
@[simp] def W3_56 := @Pl.wpe _ _ K3_56.eq_1
def K3_57 : C := .seq (.pl <| .st (.ext 16 2) <|
    .st (.act none (.px (some 16) (.mv (.v 1)))) <|
    .st (.act none (.ex (some 17) (.call fn_laws_toExprS [.v 16]))) K3_56) K3_55
@[simp] def W3_57 := @C.wpe _ _ K3_57.eq_1
def K3_58 : Pl := .st (.act none (.pnew 7 (.c (.agg #[.slice none 0 0, .slice none 0 0])) [])) <|
    .st (.act none (.pset none 7 0 2 (.v 17))) .done
@[simp] def W3_58 := @Pl.wpe _ _ K3_58.eq_1
def K3_59 : C := .seq (.pl <| .st (.ext 16 2) <|
    .st (.act none (.pget (some 16) none 2 0 (some 2))) <|
    .st (.act none (.ex (some 17) (.call fn_laws_toSystem [.v 16]))) K3_58) K3_57
@[simp] def W3_59 := @C.wpe _ _ K3_59.eq_1
def K3_60 : Pl := .st (.act none (.px (some 21) (.mv (.v 20)))) <|
    .st (.act none (.px (some 22) (.extract 0 (.v 21)))) <|
    .st (.act none (.px (some 23) (.extract 1 (.v 21)))) <|
    .st (.act none (.px (some 5) (.mv (.v 22)))) <|
    .st (.act none (.px (some 6) (.mv (.v 23)))) .done
@[simp] def W3_60 := @Pl.wpe _ _ K3_60.eq_1
def K3_61 : Pl := .st (.act none (.ex (some 20) (.call fn_spec_RelevantVars [.v 17, .v 19]))) K3_60
@[simp] def W3_61 := @Pl.wpe _ _ K3_61.eq_1
def K3_62 : Pl := .st (.act none (.px (some 18) (.mv (.v 1)))) <|
    .st (.act none (.ex (some 19) (.call fn_laws_toExprS [.v 18]))) K3_61
@[simp] def W3_62 := @Pl.wpe _ _ K3_62.eq_1
def K3_63 : C := .seq (.pl <| .st (.ext 16 8) <|
    .st (.act none (.pget (some 16) none 2 0 (some 2))) <|
    .st (.act none (.ex (some 17) (.call fn_laws_toSystem [.v 16]))) K3_62) K3_59
@[simp] def W3_63 := @C.wpe _ _ K3_63.eq_1
def K3_64 : C := .seq (.pl <| .st (.ext 16 0) <|
    .st (.act none (.px (some 3) (.mv (.c (.bool true))))) .done) (.ret)
@[simp] def W3_64 := @C.wpe _ _ K3_64.eq_1
def K3_65 : C := .cond 16 (.v 17) K3_64 (.skip)
@[simp] def W3_65 := @C.wpe _ _ K3_65.eq_1
def K3_66 : C := .seq (.seq (.pl <| .st (.ext 16 2) <|
    .st (.act none (.px (some 16) (.mv (.v 4)))) <|
    .st (.act none (.px (some 17) (.bin .lss (.v 16) (.c (.int .i64 0))))) .done) K3_65) K3_63
@[simp] def W3_66 := @C.wpe _ _ K3_66.eq_1
def K3_67 : Pl := .st (.act none (.px (some 4) (.mv (.v 18)))) .done
@[simp] def W3_67 := @Pl.wpe _ _ K3_67.eq_1
def K3_68 : C := .seq (.pl <| .st (.ext 16 3) <|
    .st (.act none (.px (some 16) (.mv (.v 1)))) <|
    .st (.act none (.px (some 17) (.mv (.v 4)))) <|
    .st (.act none (.ex (some 18) (.call fn_laws_szExprS [.v 16, .v 17]))) K3_67) K3_66
@[simp] def W3_68 := @C.wpe _ _ K3_68.eq_1
def K3_69 : C := .seq (.pl <| .st (.ext 16 0) <|
    .st (.act none (.px (some 3) (.mv (.c (.bool true))))) .done) (.ret)
@[simp] def W3_69 := @C.wpe _ _ K3_69.eq_1
def K3_70 : C := .cond 16 (.v 17) K3_69 (.skip)
@[simp] def W3_70 := @C.wpe _ _ K3_70.eq_1
def K3_71 : C := .seq (.seq (.pl <| .st (.ext 16 2) <|
    .st (.act none (.px (some 16) (.mv (.v 4)))) <|
    .st (.act none (.px (some 17) (.bin .lss (.v 16) (.c (.int .i64 0))))) .done) K3_70) K3_68
@[simp] def W3_71 := @C.wpe _ _ K3_71.eq_1
def K3_72 : Pl := .st (.act none (.px (some 4) (.mv (.v 18)))) .done
@[simp] def W3_72 := @Pl.wpe _ _ K3_72.eq_1
def K3_73 : C := .seq (.pl <| .st (.ext 16 3) <|
    .st (.act none (.pget (some 16) none 2 0 (some 2))) <|
    .st (.act none (.px (some 17) (.mv (.v 4)))) <|
    .st (.act none (.ex (some 18) (.call fn_laws_szSystem [.v 16, .v 17]))) K3_72) K3_71
@[simp] def W3_73 := @C.wpe _ _ K3_73.eq_1
def K3_74 : C := .seq (.pl <| .st (.ext 16 0) <|
    .st (.act none (.px (some 4) (.mv (.c (.int .i64 1048576))))) .done) K3_73
@[simp] def W3_74 := @C.wpe _ _ K3_74.eq_1
def B_laws_FnExactRelevantVars : C := .seq (.pl <| .st (.ext 16 0) <|
    .st (.act none (.pnew 2 (.v 0) [])) <|
    .st (.act none (.px (some 3) (.mv (.c (.bool false))))) .done) K3_74
@[simp] def WB_laws_FnExactRelevantVars := @C.wpe _ _ B_laws_FnExactRelevantVars.eq_1
def R_laws_FnExactRelevantVars : FIR := ⟨B_laws_FnExactRelevantVars, 16, [(3, none)]⟩
theorem IR_laws_FnExactRelevantVars : cfun Try.prog H_laws_FnExactRelevantVars Try.f3 = some R_laws_FnExactRelevantVars := by kernel_rfl
theorem EN_laws_FnExactRelevantVars {args : List Value} {h : Heap} {k : Value → Heap → Prop} (hargs : args.length = 2) (hw : B_laws_FnExactRelevantVars.wp Try.prog (retQ [(3, none)] k) (env0 args 16) h) : CallE Try.prog fn_laws_FnExactRelevantVars args h k := enter Try.func3 rfl IR_laws_FnExactRelevantVars hargs hw

def H_laws_eqBoolS : Hint := ⟨[(0, false), (1, false), (4, false), (5, false)], [[2]]⟩
def K17_1 : C := .seq (.pl <| .st (.ext 4 0) <|
    .st (.act none (.px (some 2) (.mv (.c (.bool true))))) .done) (.ret)
@[simp] def W17_1 := @C.wpe _ _ K17_1.eq_1
def K17_2 : C := .pl <| .st (.ext 4 2) <|
    .st (.act none (.px (some 4) (.mv (.v 3)))) <|
    .st (.act none (.px (some 5) (.bin .add (.v 4) (.c (.int .i64 1))))) <|
    .st (.act none (.px (some 3) (.mv (.v 5)))) .done
@[simp] def W17_2 := @C.wpe _ _ K17_2.eq_1
def K17_3 : C := .seq (.pl <| .st (.ext 4 0) <|
    .st (.act none (.px (some 2) (.mv (.c (.bool false))))) .done) (.ret)
@[simp] def W17_3 := @C.wpe _ _ K17_3.eq_1
def K17_4 : C := .cond 4 (.v 12) K17_3 (.skip)
@[simp] def W17_4 := @C.wpe _ _ K17_4.eq_1
def K17_5 : C := .seq (.block 1 (.seq (.pl <| .st (.ext 4 9) <|
    .st (.act none (.px (some 4) (.mv (.v 0)))) <|
    .st (.act none (.px (some 5) (.mv (.v 3)))) <|
    .st (.act none (.px (some 6) (.ia 1 (.v 4) (.v 5)))) <|
    .st (.act none (.ld (some 7) (.v 6) none)) <|
    .st (.act none (.px (some 8) (.mv (.v 1)))) <|
    .st (.act none (.px (some 9) (.mv (.v 3)))) <|
    .st (.act none (.px (some 10) (.ia 1 (.v 8) (.v 9)))) <|
    .st (.act none (.ld (some 11) (.v 10) none)) <|
    .st (.act none (.px (some 12) (.eqb true (.v 7) (.v 11)))) .done) K17_4)) K17_2
@[simp] def W17_5 := @C.wpe _ _ K17_5.eq_1
def K17_6 : C := .cond 4 (.v 7) (.skip) (.exit 0)
@[simp] def W17_6 := @C.wpe _ _ K17_6.eq_1
def K17_7 : C := .seq (.seq (.pl <| .st (.ext 4 4) <|
    .st (.act none (.px (some 4) (.mv (.v 3)))) <|
    .st (.act none (.px (some 5) (.mv (.v 0)))) <|
    .st (.act none (.px (some 6) (.lenV (.v 5)))) <|
    .st (.act none (.px (some 7) (.bin .lss (.v 4) (.v 6)))) .done) K17_6) K17_5
@[simp] def W17_7 := @C.wpe _ _ K17_7.eq_1
def K17_8 : C := .block 0 (.loop 4 [2] K17_7)
@[simp] def W17_8 := @C.wpe _ _ K17_8.eq_1
def K17_9 : C := .seq (.seq (.pl <| .st (.ext 4 0) <|
    .st (.act none (.px (some 3) (.mv (.c (.int .i64 0))))) .done) K17_8) K17_1
@[simp] def W17_9 := @C.wpe _ _ K17_9.eq_1
def K17_10 : C := .seq (.pl <| .st (.ext 4 0) <|
    .st (.act none (.px (some 2) (.mv (.c (.bool false))))) .done) (.ret)
@[simp] def W17_10 := @C.wpe _ _ K17_10.eq_1
def K17_11 : C := .cond 4 (.v 8) K17_10 (.skip)
@[simp] def W17_11 := @C.wpe _ _ K17_11.eq_1
def K17_12 : C := .seq (.seq (.pl <| .st (.ext 4 5) <|
    .st (.act none (.px (some 4) (.mv (.v 0)))) <|
    .st (.act none (.px (some 5) (.lenV (.v 4)))) <|
    .st (.act none (.px (some 6) (.mv (.v 1)))) <|
    .st (.act none (.px (some 7) (.lenV (.v 6)))) <|
    .st (.act none (.px (some 8) (.bin .neq (.v 5) (.v 7)))) .done) K17_11) K17_9
@[simp] def W17_12 := @C.wpe _ _ K17_12.eq_1
def B_laws_eqBoolS : C := .seq (.pl <| .st (.ext 4 0) <|
    .st (.act none (.px (some 2) (.mv (.c (.bool false))))) .done) K17_12
@[simp] def WB_laws_eqBoolS := @C.wpe _ _ B_laws_eqBoolS.eq_1
def R_laws_eqBoolS : FIR := ⟨B_laws_eqBoolS, 4, [(2, none)]⟩
theorem IR_laws_eqBoolS : cfun Try.prog H_laws_eqBoolS Try.f17 = some R_laws_eqBoolS := by kernel_rfl
theorem EN_laws_eqBoolS {args : List Value} {h : Heap} {k : Value → Heap → Prop} (hargs : args.length = 2) (hw : B_laws_eqBoolS.wp Try.prog (retQ [(2, none)] k) (env0 args 4) h) : CallE Try.prog fn_laws_eqBoolS args h k := enter Try.func17 rfl IR_laws_eqBoolS hargs hw

def H_laws_heldBoolS : Hint := ⟨[(0, false), (1, false), (4, false), (5, false)], [[2]]⟩
def K23_1 : C := .seq (.pl <| .st (.ext 4 1) <|
    .st (.act none (.px (some 4) (.mv (.v 1)))) <|
    .st (.act none (.px (some 2) (.mv (.v 4)))) .done) (.ret)
@[simp] def W23_1 := @C.wpe _ _ K23_1.eq_1
def K23_2 : C := .pl <| .st (.ext 4 2) <|
    .st (.act none (.px (some 4) (.mv (.v 3)))) <|
    .st (.act none (.px (some 5) (.bin .add (.v 4) (.c (.int .i64 1))))) <|
    .st (.act none (.px (some 3) (.mv (.v 5)))) .done
@[simp] def W23_2 := @C.wpe _ _ K23_2.eq_1
def K23_3 : C := .pl <| .st (.ext 4 2) <|
    .st (.act none (.px (some 4) (.mv (.v 1)))) <|
    .st (.act none (.px (some 5) (.bin .add (.v 4) (.c (.int .i64 1))))) <|
    .st (.act none (.px (some 1) (.mv (.v 5)))) .done
@[simp] def W23_3 := @C.wpe _ _ K23_3.eq_1
def K23_4 : C := .seq (.pl <| .st (.ext 4 0) <|
    .st (.act none (.px (some 2) (.mv (.c (.int .i64 (-1)))))) .done) (.ret)
@[simp] def W23_4 := @C.wpe _ _ K23_4.eq_1
def K23_5 : C := .cond 4 (.v 11) K23_4 (.skip)
@[simp] def W23_5 := @C.wpe _ _ K23_5.eq_1
def K23_6 : C := .seq (.block 1 (.seq (.seq (.pl <| .st (.ext 4 8) <|
    .st (.act none (.px (some 4) (.mv (.v 0)))) <|
    .st (.act none (.px (some 5) (.mv (.v 3)))) <|
    .st (.act none (.px (some 6) (.ia 1 (.v 4) (.v 5)))) <|
    .st (.act none (.ld (some 7) (.v 6) none)) <|
    .st (.act none (.px (some 8) (.mv (.v 1)))) <|
    .st (.act none (.px (some 9) (.bin .rem (.v 8) (.c (.int .i64 3))))) <|
    .st (.act none (.px (some 10) (.bin .eql (.v 9) (.c (.int .i64 0))))) <|
    .st (.act none (.px (some 11) (.eqb true (.v 7) (.v 10)))) .done) K23_5) K23_3)) K23_2
@[simp] def W23_6 := @C.wpe _ _ K23_6.eq_1
def K23_7 : C := .cond 4 (.v 7) (.skip) (.exit 0)
@[simp] def W23_7 := @C.wpe _ _ K23_7.eq_1
def K23_8 : C := .seq (.seq (.pl <| .st (.ext 4 4) <|
    .st (.act none (.px (some 4) (.mv (.v 3)))) <|
    .st (.act none (.px (some 5) (.mv (.v 0)))) <|
    .st (.act none (.px (some 6) (.lenV (.v 5)))) <|
    .st (.act none (.px (some 7) (.bin .lss (.v 4) (.v 6)))) .done) K23_7) K23_6
@[simp] def W23_8 := @C.wpe _ _ K23_8.eq_1
def K23_9 : C := .block 0 (.loop 4 [2] K23_8)
@[simp] def W23_9 := @C.wpe _ _ K23_9.eq_1
def K23_10 : C := .seq (.seq (.pl <| .st (.ext 4 0) <|
    .st (.act none (.px (some 3) (.mv (.c (.int .i64 0))))) .done) K23_9) K23_1
@[simp] def W23_10 := @C.wpe _ _ K23_10.eq_1
def B_laws_heldBoolS : C := .seq (.pl <| .st (.ext 4 0) <|
    .st (.act none (.px (some 2) (.mv (.c (.int .i64 0))))) .done) K23_10
@[simp] def WB_laws_heldBoolS := @C.wpe _ _ B_laws_heldBoolS.eq_1
def R_laws_heldBoolS : FIR := ⟨B_laws_heldBoolS, 4, [(2, none)]⟩
theorem IR_laws_heldBoolS : cfun Try.prog H_laws_heldBoolS Try.f23 = some R_laws_heldBoolS := by kernel_rfl
theorem EN_laws_heldBoolS {args : List Value} {h : Heap} {k : Value → Heap → Prop} (hargs : args.length = 2) (hw : B_laws_heldBoolS.wp Try.prog (retQ [(2, none)] k) (env0 args 4) h) : CallE Try.prog fn_laws_heldBoolS args h k := enter Try.func23 rfl IR_laws_heldBoolS hargs hw

def H_laws_markBoolS : Hint := ⟨[(0, false), (1, false), (4, false), (5, false)], [[2]]⟩
def K22_1 : C := .seq (.pl <| .st (.ext 4 1) <|
    .st (.act none (.px (some 4) (.mv (.v 1)))) <|
    .st (.act none (.px (some 2) (.mv (.v 4)))) .done) (.ret)
@[simp] def W22_1 := @C.wpe _ _ K22_1.eq_1
def K22_2 : C := .pl <| .st (.ext 4 2) <|
    .st (.act none (.px (some 4) (.mv (.v 3)))) <|
    .st (.act none (.px (some 5) (.bin .add (.v 4) (.c (.int .i64 1))))) <|
    .st (.act none (.px (some 3) (.mv (.v 5)))) .done
@[simp] def W22_2 := @C.wpe _ _ K22_2.eq_1
def K22_3 : C := .pl <| .st (.ext 4 2) <|
    .st (.act none (.px (some 4) (.mv (.v 1)))) <|
    .st (.act none (.px (some 5) (.bin .add (.v 4) (.c (.int .i64 1))))) <|
    .st (.act none (.px (some 1) (.mv (.v 5)))) .done
@[simp] def W22_3 := @C.wpe _ _ K22_3.eq_1
def K22_4 : C := .seq (.block 1 (.seq (.pl <| .st (.ext 4 6) <|
    .st (.act none (.px (some 4) (.mv (.v 0)))) <|
    .st (.act none (.px (some 5) (.mv (.v 3)))) <|
    .st (.act none (.px (some 6) (.mv (.v 1)))) <|
    .st (.act none (.px (some 7) (.bin .rem (.v 6) (.c (.int .i64 3))))) <|
    .st (.act none (.px (some 8) (.bin .eql (.v 7) (.c (.int .i64 0))))) <|
    .st (.act none (.px (some 9) (.ia 1 (.v 4) (.v 5)))) <|
    .st (.act none (.ex none (.store 1 (.v 9) (.v 8)))) .done) K22_3)) K22_2
@[simp] def W22_4 := @C.wpe _ _ K22_4.eq_1
def K22_5 : C := .cond 4 (.v 7) (.skip) (.exit 0)
@[simp] def W22_5 := @C.wpe _ _ K22_5.eq_1
def K22_6 : C := .seq (.seq (.pl <| .st (.ext 4 4) <|
    .st (.act none (.px (some 4) (.mv (.v 3)))) <|
    .st (.act none (.px (some 5) (.mv (.v 0)))) <|
    .st (.act none (.px (some 6) (.lenV (.v 5)))) <|
    .st (.act none (.px (some 7) (.bin .lss (.v 4) (.v 6)))) .done) K22_5) K22_4
@[simp] def W22_6 := @C.wpe _ _ K22_6.eq_1
def K22_7 : C := .block 0 (.loop 4 [2] K22_6)
@[simp] def W22_7 := @C.wpe _ _ K22_7.eq_1
def K22_8 : C := .seq (.seq (.pl <| .st (.ext 4 0) <|
    .st (.act none (.px (some 3) (.mv (.c (.int .i64 0))))) .done) K22_7) K22_1
@[simp] def W22_8 := @C.wpe _ _ K22_8.eq_1
def B_laws_markBoolS : C := .seq (.pl <| .st (.ext 4 0) <|
    .st (.act none (.px (some 2) (.mv (.c (.int .i64 0))))) .done) K22_8
@[simp] def WB_laws_markBoolS := @C.wpe _ _ B_laws_markBoolS.eq_1
def R_laws_markBoolS : FIR := ⟨B_laws_markBoolS, 4, [(2, none)]⟩
theorem IR_laws_markBoolS : cfun Try.prog H_laws_markBoolS Try.f22 = some R_laws_markBoolS := by kernel_rfl
theorem EN_laws_markBoolS {args : List Value} {h : Heap} {k : Value → Heap → Prop} (hargs : args.length = 2) (hw : B_laws_markBoolS.wp Try.prog (retQ [(2, none)] k) (env0 args 4) h) : CallE Try.prog fn_laws_markBoolS args h k := enter Try.func22 rfl IR_laws_markBoolS hargs hw


end Go.Proofs.Ythgimpheeemooaa
