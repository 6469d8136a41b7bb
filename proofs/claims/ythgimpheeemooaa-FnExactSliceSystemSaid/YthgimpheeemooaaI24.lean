/-
  Bodies of functions in the small language, as a program printed them, and that each is what the translation gives.
-/
import Derived.Test.YthgimpheeemooaaI1
namespace Go.Proofs.Ythgimpheeemooaa
open Go
set_option linter.all false
set_option linter.defProp false
set_option maxRecDepth 1000000

def H_laws_FnExactSliceSystem : Hint := ⟨[(0, false), (1, false), (2, true), (4, false), (5, false), (6, true), (7, false), (8, true), (9, false), (10, true), (11, false), (12, false), (13, false), (14, false), (15, true), (16, false)], []⟩
def K6_1 : C := .seq (.pl <| .st (.ext 16 0) <|
    .st (.act none (.px (some 3) (.mv (.c (.bool true))))) .done) (.ret)
@[simp] def W6_1 := @C.wpe _ _ K6_1.eq_1
def K6_2 : C := .seq (.pl <| .st (.ext 16 0) <|
    .st (.act none (.px (some 3) (.mv (.c (.bool false))))) .done) (.ret)
@[simp] def W6_2 := @C.wpe _ _ K6_2.eq_1
def K6_3 : C := .cond 16 (.v 18) K6_2 (.skip)
@[simp] def W6_3 := @C.wpe _ _ K6_3.eq_1
def K6_4 : C := .seq (.seq (.pl <| .st (.ext 16 3) <|
    .st (.act none (.px (some 16) (.mv (.v 13)))) <|
    .st (.act none (.px (some 17) (.mv (.v 12)))) <|
    .st (.act none (.px (some 18) (.bin .neq (.v 16) (.v 17)))) .done) K6_3) K6_1
@[simp] def W6_4 := @C.wpe _ _ K6_4.eq_1
def K6_5 : C := .seq (.pl <| .st (.ext 16 0) <|
    .st (.act none (.px (some 3) (.mv (.c (.bool false))))) .done) (.ret)
@[simp] def W6_5 := @C.wpe _ _ K6_5.eq_1
def K6_6 : C := .cond 16 (.v 17) K6_5 (.skip)
@[simp] def W6_6 := @C.wpe _ _ K6_6.eq_1
def K6_7 : C := .seq (.seq (.pl <| .st (.ext 16 2) <|
    .st (.act none (.px (some 16) (.mv (.v 13)))) <|
    .st (.act none (.px (some 17) (.bin .lss (.v 16) (.c (.int .i64 0))))) .done) K6_6) K6_4
@[simp] def W6_7 := @C.wpe _ _ K6_7.eq_1
def K6_8 : Pl := .st (.act none (.px (some 13) (.mv (.v 18)))) .done
@[simp] def W6_8 := @Pl.wpe _ _ K6_8.eq_1
def K6_9 : C := .seq (.pl <| .st (.ext 16 3) <|
    .st (.act none (.pget (some 16) none 9 0 (some 2))) <|
    .st (.act none (.px (some 17) (.mv (.v 13)))) <|
    .st (.act none (.ex (some 18) (.call fn_laws_heldSystem [.v 16, .v 17]))) K6_8) K6_7
@[simp] def W6_9 := @C.wpe _ _ K6_9.eq_1
def K6_10 : C := .seq (.pl <| .st (.ext 16 0) <|
    .st (.act none (.px (some 13) (.mv (.c (.int .i64 1))))) .done) K6_9
@[simp] def W6_10 := @C.wpe _ _ K6_10.eq_1
def K6_11 : C := .seq (.pl <| .st (.ext 16 0) <|
    .st (.act none (.px (some 3) (.mv (.c (.bool false))))) .done) (.ret)
@[simp] def W6_11 := @C.wpe _ _ K6_11.eq_1
def K6_12 : C := .cond 16 (.v 24) K6_11 (.skip)
@[simp] def W6_12 := @C.wpe _ _ K6_12.eq_1
def K6_13 : Pl := .st (.act none (.px (some 19) (.un .not (.v 18)))) <|
    .st (.act none (.px (some 20) (.mv (.v 19)))) <|
    .st (.act (some (.v 20, false)) (.px (some 21) (.mv (.v 15)))) <|
    .st (.act (some (.v 20, false)) (.px (some 22) (.mv (.v 6)))) <|
    .st (.act (some (.v 20, false)) (.px (some 23) (.eqb true (.v 21) (.v 22)))) <|
    .st (.act none (.px (some 24) (.pick (.v 20) (.c (.bool true)) (.v 23)))) .done
@[simp] def W6_13 := @Pl.wpe _ _ K6_13.eq_1
def K6_14 : C := .seq (.seq (.pl <| .st (.ext 16 9) <|
    .st (.act none (.pget (some 16) none 14 0 (some 2))) <|
    .st (.act none (.pget (some 17) none 5 0 (some 2))) <|
    .st (.act none (.ex (some 18) (.call fn_laws_eqSystem [.v 16, .v 17]))) K6_13) K6_12) K6_10
@[simp] def W6_14 := @C.wpe _ _ K6_14.eq_1
def K6_15 : Pl := .st (.act none (.px (some 21) (.mv (.v 20)))) <|
    .st (.act none (.px (some 22) (.extract 0 (.v 21)))) <|
    .st (.act none (.px (some 23) (.extract 1 (.v 21)))) <|
    .st (.act none (.pnew 14 (.c (.agg #[.slice none 0 0, .slice none 0 0])) [])) <|
    .st (.act none (.pset none 14 0 2 (.v 22))) <|
    .st (.act none (.px (some 15) (.mv (.v 23)))) .done
@[simp] def W6_15 := @Pl.wpe _ _ K6_15.eq_1
def K6_16 : Pl := .st (.act none (.ex (some 20) (.call fn_impl_SliceSystem [.v 17, .v 19]))) K6_15
@[simp] def W6_16 := @Pl.wpe _ _ K6_16.eq_1
def K6_17 : Pl := .st (.act none (.px (some 18) (.mv (.v 1)))) <|
    .st (.act none (.ex (some 19) (.call fn_laws_toExprS [.v 18]))) K6_16
@[simp] def W6_17 := @Pl.wpe _ _ K6_17.eq_1
def K6_18 : C := .seq (.pl <| .st (.ext 16 8) <|
    .st (.act none (.pget (some 16) none 2 0 (some 2))) <|
    .st (.act none (.ex (some 17) (.call fn_laws_toSystem [.v 16]))) K6_17) K6_14
@[simp] def W6_18 := @C.wpe _ _ K6_18.eq_1
def K6_19 : C := .seq (.pl <| .st (.ext 16 0) <|
    .st (.act none (.px (some 3) (.mv (.c (.bool false))))) .done) (.ret)
@[simp] def W6_19 := @C.wpe _ _ K6_19.eq_1
def K6_20 : C := .cond 16 (.v 18) K6_19 (.skip)
@[simp] def W6_20 := @C.wpe _ _ K6_20.eq_1
def K6_21 : C := .seq (.seq (.pl <| .st (.ext 16 3) <|
    .st (.act none (.px (some 16) (.mv (.v 13)))) <|
    .st (.act none (.px (some 17) (.mv (.v 12)))) <|
    .st (.act none (.px (some 18) (.bin .neq (.v 16) (.v 17)))) .done) K6_20) K6_18
@[simp] def W6_21 := @C.wpe _ _ K6_21.eq_1
def K6_22 : C := .seq (.pl <| .st (.ext 16 0) <|
    .st (.act none (.px (some 3) (.mv (.c (.bool false))))) .done) (.ret)
@[simp] def W6_22 := @C.wpe _ _ K6_22.eq_1
def K6_23 : C := .cond 16 (.v 17) K6_22 (.skip)
@[simp] def W6_23 := @C.wpe _ _ K6_23.eq_1
def K6_24 : C := .seq (.seq (.pl <| .st (.ext 16 2) <|
    .st (.act none (.px (some 16) (.mv (.v 13)))) <|
    .st (.act none (.px (some 17) (.bin .lss (.v 16) (.c (.int .i64 0))))) .done) K6_23) K6_21
@[simp] def W6_24 := @C.wpe _ _ K6_24.eq_1
def K6_25 : Pl := .st (.act none (.px (some 13) (.mv (.v 18)))) .done
@[simp] def W6_25 := @Pl.wpe _ _ K6_25.eq_1
def K6_26 : C := .seq (.pl <| .st (.ext 16 3) <|
    .st (.act none (.pget (some 16) none 9 0 (some 2))) <|
    .st (.act none (.px (some 17) (.mv (.v 13)))) <|
    .st (.act none (.ex (some 18) (.call fn_laws_heldSystem [.v 16, .v 17]))) K6_25) K6_24
@[simp] def W6_26 := @C.wpe _ _ K6_26.eq_1
def K6_27 : C := .seq (.pl <| .st (.ext 16 0) <|
    .st (.act none (.px (some 13) (.mv (.c (.int .i64 1))))) .done) K6_26
@[simp] def W6_27 := @C.wpe _ _ K6_27.eq_1
def K6_28 : Pl := .st (.act none (.px (some 12) (.mv (.v 18)))) .done
@[simp] def W6_28 := @Pl.wpe _ _ K6_28.eq_1
def K6_29 : C := .seq (.pl <| .st (.ext 16 3) <|
    .st (.act none (.pget (some 16) none 9 0 (some 2))) <|
    .st (.act none (.px (some 17) (.mv (.v 12)))) <|
    .st (.act none (.ex (some 18) (.call fn_laws_markSystem [.v 16, .v 17]))) K6_28) K6_27
@[simp] def W6_29 := @C.wpe _ _ K6_29.eq_1
def K6_30 : C := .seq (.pl <| .st (.ext 16 0) <|
    .st (.act none (.px (some 12) (.mv (.c (.int .i64 1))))) .done) K6_29
@[simp] def W6_30 := @C.wpe _ _ K6_30.eq_1
def K6_31 : C := .seq (.pl <| .st (.ext 16 0) <|
    .st (.act none (.px (some 3) (.mv (.c (.bool false))))) .done) (.ret)
@[simp] def W6_31 := @C.wpe _ _ K6_31.eq_1
def K6_32 : C := .cond 16 (.v 28) K6_31 (.skip)
@[simp] def W6_32 := @C.wpe _ _ K6_32.eq_1
def K6_33 : Pl := .st (.act (some (.v 18, false)) (.px (some 22) (.un .not (.v 21)))) <|
    .st (.act none (.px (some 23) (.pick (.v 18) (.c (.bool true)) (.v 22)))) <|
    .st (.act none (.px (some 24) (.mv (.v 23)))) <|
    .st (.act (some (.v 24, false)) (.px (some 25) (.mv (.v 10)))) <|
    .st (.act (some (.v 24, false)) (.px (some 26) (.mv (.v 6)))) <|
    .st (.act (some (.v 24, false)) (.px (some 27) (.eqb true (.v 25) (.v 26)))) <|
    .st (.act none (.px (some 28) (.pick (.v 24) (.c (.bool true)) (.v 27)))) .done
@[simp] def W6_33 := @Pl.wpe _ _ K6_33.eq_1
def K6_34 : C := .seq (.seq (.pl <| .st (.ext 16 13) <|
    .st (.act none (.px (some 16) (.mv (.v 11)))) <|
    .st (.act none (.px (some 17) (.bin .lss (.v 16) (.c (.int .i64 0))))) <|
    .st (.act none (.px (some 18) (.mv (.v 17)))) <|
    .st (.act (some (.v 18, false)) (.pget (some 19) none 9 0 (some 2))) <|
    .st (.act (some (.v 18, false)) (.pget (some 20) none 5 0 (some 2))) <|
    .st (.act (some (.v 18, false)) (.ex (some 21) (.call fn_laws_eqSystem [.v 19, .v 20]))) K6_33) K6_32) K6_30
@[simp] def W6_34 := @C.wpe _ _ K6_34.eq_1
def K6_35 : Pl := .st (.act none (.px (some 11) (.mv (.v 18)))) .done
@[simp] def W6_35 := @Pl.wpe _ _ K6_35.eq_1
def K6_36 : C := .seq (.pl <| .st (.ext 16 3) <|
    .st (.act none (.px (some 16) (.mv (.v 8)))) <|
    .st (.act none (.px (some 17) (.mv (.v 11)))) <|
    .st (.act none (.ex (some 18) (.call fn_laws_markExprS [.v 16, .v 17]))) K6_35) K6_34
@[simp] def W6_36 := @C.wpe _ _ K6_36.eq_1
def K6_37 : Pl := .st (.act none (.px (some 11) (.mv (.v 18)))) .done
@[simp] def W6_37 := @Pl.wpe _ _ K6_37.eq_1
def K6_38 : C := .seq (.pl <| .st (.ext 16 3) <|
    .st (.act none (.pget (some 16) none 7 0 (some 2))) <|
    .st (.act none (.px (some 17) (.mv (.v 11)))) <|
    .st (.act none (.ex (some 18) (.call fn_laws_markSystem [.v 16, .v 17]))) K6_37) K6_36
@[simp] def W6_38 := @C.wpe _ _ K6_38.eq_1
def K6_39 : C := .seq (.pl <| .st (.ext 16 0) <|
    .st (.act none (.px (some 11) (.mv (.c (.int .i64 1))))) .done) K6_38
@[simp] def W6_39 := @C.wpe _ _ K6_39.eq_1
def K6_40 : C := .seq (.pl <| .st (.ext 16 0) <|
    .st (.act none (.px (some 3) (.mv (.c (.bool false))))) .done) (.ret)
@[simp] def W6_40 := @C.wpe _ _ K6_40.eq_1
def K6_41 : C := .cond 16 (.v 20) K6_40 (.skip)
@[simp] def W6_41 := @C.wpe _ _ K6_41.eq_1
def K6_42 : Pl := .st (.act none (.px (some 20) (.un .not (.v 19)))) .done
@[simp] def W6_42 := @Pl.wpe _ _ K6_42.eq_1
def K6_43 : Pl := .st (.act none (.ex (some 19) (.call fn_laws_eqExprS [.v 16, .v 18]))) K6_42
@[simp] def W6_43 := @Pl.wpe _ _ K6_43.eq_1
def K6_44 : C := .seq (.seq (.pl <| .st (.ext 16 5) <|
    .st (.act none (.px (some 16) (.mv (.v 8)))) <|
    .st (.act none (.px (some 17) (.mv (.v 1)))) <|
    .st (.act none (.ex (some 18) (.call fn_laws_toExprS [.v 17]))) K6_43) K6_41) K6_39
@[simp] def W6_44 := @C.wpe _ _ K6_44.eq_1
def K6_45 : C := .seq (.pl <| .st (.ext 16 0) <|
    .st (.act none (.px (some 3) (.mv (.c (.bool false))))) .done) (.ret)
@[simp] def W6_45 := @C.wpe _ _ K6_45.eq_1
def K6_46 : C := .cond 16 (.v 20) K6_45 (.skip)
@[simp] def W6_46 := @C.wpe _ _ K6_46.eq_1
def K6_47 : Pl := .st (.act none (.px (some 20) (.un .not (.v 19)))) .done
@[simp] def W6_47 := @Pl.wpe _ _ K6_47.eq_1
def K6_48 : Pl := .st (.act none (.ex (some 19) (.call fn_laws_eqSystem [.v 16, .v 18]))) K6_47
@[simp] def W6_48 := @Pl.wpe _ _ K6_48.eq_1
def K6_49 : C := .seq (.seq (.pl <| .st (.ext 16 5) <|
    .st (.act none (.pget (some 16) none 7 0 (some 2))) <|
    .st (.act none (.pget (some 17) none 2 0 (some 2))) <|
    .st (.act none (.ex (some 18) (.call fn_laws_toSystem [.v 17]))) K6_48) K6_46) K6_44
@[simp] def W6_49 := @C.wpe _ _ K6_49.eq_1
def K6_50 : C := .seq (.pl <| .st (.ext 16 0) <|
    .st (.act none (.px (some 3) (.mv (.c (.bool false))))) .done) (.ret)
@[simp] def W6_50 := @C.wpe _ _ K6_50.eq_1
def K6_51 : C := .cond 16 (.v 24) K6_50 (.skip)
@[simp] def W6_51 := @C.wpe _ _ K6_51.eq_1
def K6_52 : Pl := .st (.act none (.px (some 19) (.un .not (.v 18)))) <|
    .st (.act none (.px (some 20) (.mv (.v 19)))) <|
    .st (.act (some (.v 20, false)) (.px (some 21) (.mv (.v 10)))) <|
    .st (.act (some (.v 20, false)) (.px (some 22) (.mv (.v 6)))) <|
    .st (.act (some (.v 20, false)) (.px (some 23) (.eqb true (.v 21) (.v 22)))) <|
    .st (.act none (.px (some 24) (.pick (.v 20) (.c (.bool true)) (.v 23)))) .done
@[simp] def W6_52 := @Pl.wpe _ _ K6_52.eq_1
def K6_53 : C := .seq (.seq (.pl <| .st (.ext 16 9) <|
    .st (.act none (.pget (some 16) none 9 0 (some 2))) <|
    .st (.act none (.pget (some 17) none 5 0 (some 2))) <|
    .st (.act none (.ex (some 18) (.call fn_laws_eqSystem [.v 16, .v 17]))) K6_52) K6_51) K6_49
@[simp] def W6_53 := @C.wpe _ _ K6_53.eq_1
def K6_54 : Pl := .st (.act none (.px (some 19) (.mv (.v 18)))) <|
    .st (.act none (.px (some 20) (.extract 0 (.v 19)))) <|
    .st (.act none (.px (some 21) (.extract 1 (.v 19)))) <|
    .st (.act none (.pnew 9 (.c (.agg #[.slice none 0 0, .slice none 0 0])) [])) <|
    .st (.act none (.pset none 9 0 2 (.v 20))) <|
    .st (.act none (.px (some 10) (.mv (.v 21)))) .done
@[simp] def W6_54 := @Pl.wpe _ _ K6_54.eq_1
def K6_55 : C := .seq (.pl <| .st (.ext 16 6) <|
    .st (.act none (.pget (some 16) none 7 0 (some 2))) <|
    .st (.act none (.px (some 17) (.mv (.v 8)))) <|
    .st (.act none (.ex (some 18) (.call fn_impl_SliceSystem [.v 16, .v 17]))) K6_54) K6_53
@[simp] def W6_55 := @C.wpe _ _ K6_55.eq_1
def K6_56 : Pl := .st (.act none (.px (some 8) (.mv (.v 17)))) .done
@[simp] def W6_56 := @Pl.wpe _ _ K6_56.eq_1
def K6_57 : C := .seq (.pl <| .st (.ext 16 2) <|
    .st (.act none (.px (some 16) (.mv (.v 1)))) <|
    .st (.act none (.ex (some 17) (.call fn_laws_toExprS [.v 16]))) K6_56) K6_55
@[simp] def W6_57 := @C.wpe _ _ K6_57.eq_1
def K6_58 : Pl := .st (.act none (.pnew 7 (.c (.agg #[.slice none 0 0, .slice none 0 0])) [])) <|
    .st (.act none (.pset none 7 0 2 (.v 17))) .done
@[simp] def W6_58 := @Pl.wpe _ _ K6_58.eq_1
def K6_59 : C := .seq (.pl <| .st (.ext 16 2) <|
    .st (.act none (.pget (some 16) none 2 0 (some 2))) <|
    .st (.act none (.ex (some 17) (.call fn_laws_toSystem [.v 16]))) K6_58) K6_57
@[simp] def W6_59 := @C.wpe _ _ K6_59.eq_1
def K6_60 : Pl := .st (.act none (.px (some 21) (.mv (.v 20)))) <|
    .st (.act none (.px (some 22) (.extract 0 (.v 21)))) <|
    .st (.act none (.px (some 23) (.extract 1 (.v 21)))) <|
    .st (.act none (.pnew 5 (.c (.agg #[.slice none 0 0, .slice none 0 0])) [])) <|
    .st (.act none (.pset none 5 0 2 (.v 22))) <|
    .st (.act none (.px (some 6) (.mv (.v 23)))) .done
@[simp] def W6_60 := @Pl.wpe _ _ K6_60.eq_1
def K6_61 : Pl := .st (.act none (.ex (some 20) (.call fn_spec_SliceSystem [.v 17, .v 19]))) K6_60
@[simp] def W6_61 := @Pl.wpe _ _ K6_61.eq_1
def K6_62 : Pl := .st (.act none (.px (some 18) (.mv (.v 1)))) <|
    .st (.act none (.ex (some 19) (.call fn_laws_toExprS [.v 18]))) K6_61
@[simp] def W6_62 := @Pl.wpe _ _ K6_62.eq_1
def K6_63 : C := .seq (.pl <| .st (.ext 16 8) <|
    .st (.act none (.pget (some 16) none 2 0 (some 2))) <|
    .st (.act none (.ex (some 17) (.call fn_laws_toSystem [.v 16]))) K6_62) K6_59
@[simp] def W6_63 := @C.wpe _ _ K6_63.eq_1
def K6_64 : C := .seq (.pl <| .st (.ext 16 0) <|
    .st (.act none (.px (some 3) (.mv (.c (.bool true))))) .done) (.ret)
@[simp] def W6_64 := @C.wpe _ _ K6_64.eq_1
def K6_65 : C := .cond 16 (.v 17) K6_64 (.skip)
@[simp] def W6_65 := @C.wpe _ _ K6_65.eq_1
def K6_66 : C := .seq (.seq (.pl <| .st (.ext 16 2) <|
    .st (.act none (.px (some 16) (.mv (.v 4)))) <|
    .st (.act none (.px (some 17) (.bin .lss (.v 16) (.c (.int .i64 0))))) .done) K6_65) K6_63
@[simp] def W6_66 := @C.wpe _ _ K6_66.eq_1
def K6_67 : Pl := .st (.act none (.px (some 4) (.mv (.v 18)))) .done
@[simp] def W6_67 := @Pl.wpe _ _ K6_67.eq_1
def K6_68 : C := .seq (.pl <| .st (.ext 16 3) <|
    .st (.act none (.px (some 16) (.mv (.v 1)))) <|
    .st (.act none (.px (some 17) (.mv (.v 4)))) <|
    .st (.act none (.ex (some 18) (.call fn_laws_szExprS [.v 16, .v 17]))) K6_67) K6_66
@[simp] def W6_68 := @C.wpe _ _ K6_68.eq_1
def K6_69 : C := .seq (.pl <| .st (.ext 16 0) <|
    .st (.act none (.px (some 3) (.mv (.c (.bool true))))) .done) (.ret)
@[simp] def W6_69 := @C.wpe _ _ K6_69.eq_1
def K6_70 : C := .cond 16 (.v 17) K6_69 (.skip)
@[simp] def W6_70 := @C.wpe _ _ K6_70.eq_1
def K6_71 : C := .seq (.seq (.pl <| .st (.ext 16 2) <|
    .st (.act none (.px (some 16) (.mv (.v 4)))) <|
    .st (.act none (.px (some 17) (.bin .lss (.v 16) (.c (.int .i64 0))))) .done) K6_70) K6_68
@[simp] def W6_71 := @C.wpe _ _ K6_71.eq_1
def K6_72 : Pl := .st (.act none (.px (some 4) (.mv (.v 18)))) .done
@[simp] def W6_72 := @Pl.wpe _ _ K6_72.eq_1
def K6_73 : C := .seq (.pl <| .st (.ext 16 3) <|
    .st (.act none (.pget (some 16) none 2 0 (some 2))) <|
    .st (.act none (.px (some 17) (.mv (.v 4)))) <|
    .st (.act none (.ex (some 18) (.call fn_laws_szSystem [.v 16, .v 17]))) K6_72) K6_71
@[simp] def W6_73 := @C.wpe _ _ K6_73.eq_1
def K6_74 : C := .seq (.pl <| .st (.ext 16 0) <|
    .st (.act none (.px (some 4) (.mv (.c (.int .i64 1048576))))) .done) K6_73
@[simp] def W6_74 := @C.wpe _ _ K6_74.eq_1
def B_laws_FnExactSliceSystem : C := .seq (.pl <| .st (.ext 16 0) <|
    .st (.act none (.pnew 2 (.v 0) [])) <|
    .st (.act none (.px (some 3) (.mv (.c (.bool false))))) .done) K6_74
@[simp] def WB_laws_FnExactSliceSystem := @C.wpe _ _ B_laws_FnExactSliceSystem.eq_1
def R_laws_FnExactSliceSystem : FIR := ⟨B_laws_FnExactSliceSystem, 16, [(3, none)]⟩
theorem IR_laws_FnExactSliceSystem : cfun Try.prog H_laws_FnExactSliceSystem Try.f6 = some R_laws_FnExactSliceSystem := by kernel_rfl
theorem EN_laws_FnExactSliceSystem {args : List Value} {h : Heap} {k : Value → Heap → Prop} (hargs : args.length = 2) (hw : B_laws_FnExactSliceSystem.wp Try.prog (retQ [(3, none)] k) (env0 args 16) h) : CallE Try.prog fn_laws_FnExactSliceSystem args h k := enter Try.func6 rfl IR_laws_FnExactSliceSystem hargs hw

def H_laws_heldEdgeS : Hint := ⟨[(0, false), (1, false), (4, false), (5, false)], [[2]]⟩
def K136_1 : C := .seq (.pl <| .st (.ext 4 1) <|
    .st (.act none (.px (some 4) (.mv (.v 1)))) <|
    .st (.act none (.px (some 2) (.mv (.v 4)))) .done) (.ret)
@[simp] def W136_1 := @C.wpe _ _ K136_1.eq_1
def K136_2 : C := .pl <| .st (.ext 4 2) <|
    .st (.act none (.px (some 4) (.mv (.v 3)))) <|
    .st (.act none (.px (some 5) (.bin .add (.v 4) (.c (.int .i64 1))))) <|
    .st (.act none (.px (some 3) (.mv (.v 5)))) .done
@[simp] def W136_2 := @C.wpe _ _ K136_2.eq_1
def K136_3 : C := .pl <| .st (.ext 4 2) <|
    .st (.act none (.px (some 4) (.mv (.v 1)))) <|
    .st (.act none (.px (some 5) (.bin .add (.v 4) (.c (.int .i64 1))))) <|
    .st (.act none (.px (some 1) (.mv (.v 5)))) .done
@[simp] def W136_3 := @C.wpe _ _ K136_3.eq_1
def K136_4 : C := .seq (.pl <| .st (.ext 4 0) <|
    .st (.act none (.px (some 2) (.mv (.c (.int .i64 (-1)))))) .done) (.ret)
@[simp] def W136_4 := @C.wpe _ _ K136_4.eq_1
def K136_5 : C := .cond 4 (.v 10) K136_4 (.skip)
@[simp] def W136_5 := @C.wpe _ _ K136_5.eq_1
def K136_6 : C := .seq (.seq (.pl <| .st (.ext 4 7) <|
    .st (.act none (.px (some 4) (.mv (.v 0)))) <|
    .st (.act none (.px (some 5) (.mv (.v 3)))) <|
    .st (.act none (.px (some 6) (.ia 10 (.v 4) (.v 5)))) <|
    .st (.act none (.px (some 7) (.fa 9 (.v 6)))) <|
    .st (.act none (.ld (some 8) (.v 7) none)) <|
    .st (.act none (.px (some 9) (.mv (.v 1)))) <|
    .st (.act none (.px (some 10) (.bin .neq (.v 8) (.v 9)))) .done) K136_5) K136_3
@[simp] def W136_6 := @C.wpe _ _ K136_6.eq_1
def K136_7 : C := .seq (.pl <| .st (.ext 4 0) <|
    .st (.act none (.px (some 2) (.mv (.c (.int .i64 (-1)))))) .done) (.ret)
@[simp] def W136_7 := @C.wpe _ _ K136_7.eq_1
def K136_8 : C := .cond 4 (.v 5) K136_7 (.skip)
@[simp] def W136_8 := @C.wpe _ _ K136_8.eq_1
def K136_9 : C := .seq (.seq (.pl <| .st (.ext 4 2) <|
    .st (.act none (.px (some 4) (.mv (.v 1)))) <|
    .st (.act none (.px (some 5) (.bin .lss (.v 4) (.c (.int .i64 0))))) .done) K136_8) K136_6
@[simp] def W136_9 := @C.wpe _ _ K136_9.eq_1
def K136_10 : Pl := .st (.act none (.px (some 1) (.mv (.v 11)))) .done
@[simp] def W136_10 := @Pl.wpe _ _ K136_10.eq_1
def K136_11 : C := .seq (.pl <| .st (.ext 4 8) <|
    .st (.act none (.px (some 4) (.mv (.v 0)))) <|
    .st (.act none (.px (some 5) (.mv (.v 3)))) <|
    .st (.act none (.px (some 6) (.ia 10 (.v 4) (.v 5)))) <|
    .st (.act none (.px (some 7) (.fa 6 (.v 6)))) <|
    .st (.act none (.px (some 8) (.fa 2 (.v 7)))) <|
    .st (.act none (.ld (some 9) (.v 8) none)) <|
    .st (.act none (.px (some 10) (.mv (.v 1)))) <|
    .st (.act none (.ex (some 11) (.call fn_laws_heldExprS [.v 9, .v 10]))) K136_10) K136_9
@[simp] def W136_11 := @C.wpe _ _ K136_11.eq_1
def K136_12 : C := .seq (.pl <| .st (.ext 4 2) <|
    .st (.act none (.px (some 4) (.mv (.v 1)))) <|
    .st (.act none (.px (some 5) (.bin .add (.v 4) (.c (.int .i64 1))))) <|
    .st (.act none (.px (some 1) (.mv (.v 5)))) .done) K136_11
@[simp] def W136_12 := @C.wpe _ _ K136_12.eq_1
def K136_13 : C := .seq (.pl <| .st (.ext 4 0) <|
    .st (.act none (.px (some 2) (.mv (.c (.int .i64 (-1)))))) .done) (.ret)
@[simp] def W136_13 := @C.wpe _ _ K136_13.eq_1
def K136_14 : C := .cond 4 (.v 11) K136_13 (.skip)
@[simp] def W136_14 := @C.wpe _ _ K136_14.eq_1
def K136_15 : C := .seq (.seq (.pl <| .st (.ext 4 8) <|
    .st (.act none (.px (some 4) (.mv (.v 0)))) <|
    .st (.act none (.px (some 5) (.mv (.v 3)))) <|
    .st (.act none (.px (some 6) (.ia 10 (.v 4) (.v 5)))) <|
    .st (.act none (.px (some 7) (.fa 6 (.v 6)))) <|
    .st (.act none (.px (some 8) (.fa 1 (.v 7)))) <|
    .st (.act none (.ld (some 9) (.v 8) none)) <|
    .st (.act none (.px (some 10) (.mv (.v 1)))) <|
    .st (.act none (.px (some 11) (.bin .neq (.v 9) (.v 10)))) .done) K136_14) K136_12
@[simp] def W136_15 := @C.wpe _ _ K136_15.eq_1
def K136_16 : C := .seq (.pl <| .st (.ext 4 2) <|
    .st (.act none (.px (some 4) (.mv (.v 1)))) <|
    .st (.act none (.px (some 5) (.bin .add (.v 4) (.c (.int .i64 1))))) <|
    .st (.act none (.px (some 1) (.mv (.v 5)))) .done) K136_15
@[simp] def W136_16 := @C.wpe _ _ K136_16.eq_1
def K136_17 : C := .seq (.pl <| .st (.ext 4 0) <|
    .st (.act none (.px (some 2) (.mv (.c (.int .i64 (-1)))))) .done) (.ret)
@[simp] def W136_17 := @C.wpe _ _ K136_17.eq_1
def K136_18 : C := .cond 4 (.v 11) K136_17 (.skip)
@[simp] def W136_18 := @C.wpe _ _ K136_18.eq_1
def K136_19 : C := .seq (.seq (.pl <| .st (.ext 4 8) <|
    .st (.act none (.px (some 4) (.mv (.v 0)))) <|
    .st (.act none (.px (some 5) (.mv (.v 3)))) <|
    .st (.act none (.px (some 6) (.ia 10 (.v 4) (.v 5)))) <|
    .st (.act none (.px (some 7) (.fa 6 (.v 6)))) <|
    .st (.act none (.px (some 8) (.fa 0 (.v 7)))) <|
    .st (.act none (.ld (some 9) (.v 8) none)) <|
    .st (.act none (.px (some 10) (.mv (.v 1)))) <|
    .st (.act none (.px (some 11) (.bin .neq (.v 9) (.v 10)))) .done) K136_18) K136_16
@[simp] def W136_19 := @C.wpe _ _ K136_19.eq_1
def K136_20 : C := .seq (.pl <| .st (.ext 4 2) <|
    .st (.act none (.px (some 4) (.mv (.v 1)))) <|
    .st (.act none (.px (some 5) (.bin .add (.v 4) (.c (.int .i64 1))))) <|
    .st (.act none (.px (some 1) (.mv (.v 5)))) .done) K136_19
@[simp] def W136_20 := @C.wpe _ _ K136_20.eq_1
def K136_21 : C := .seq (.pl <| .st (.ext 4 0) <|
    .st (.act none (.px (some 2) (.mv (.c (.int .i64 (-1)))))) .done) (.ret)
@[simp] def W136_21 := @C.wpe _ _ K136_21.eq_1
def K136_22 : C := .cond 4 (.v 10) K136_21 (.skip)
@[simp] def W136_22 := @C.wpe _ _ K136_22.eq_1
def K136_23 : C := .seq (.seq (.pl <| .st (.ext 4 7) <|
    .st (.act none (.px (some 4) (.mv (.v 0)))) <|
    .st (.act none (.px (some 5) (.mv (.v 3)))) <|
    .st (.act none (.px (some 6) (.ia 10 (.v 4) (.v 5)))) <|
    .st (.act none (.px (some 7) (.fa 5 (.v 6)))) <|
    .st (.act none (.ld (some 8) (.v 7) none)) <|
    .st (.act none (.px (some 9) (.mv (.v 1)))) <|
    .st (.act none (.px (some 10) (.bin .neq (.v 8) (.v 9)))) .done) K136_22) K136_20
@[simp] def W136_23 := @C.wpe _ _ K136_23.eq_1
def K136_24 : C := .seq (.pl <| .st (.ext 4 0) <|
    .st (.act none (.px (some 2) (.mv (.c (.int .i64 (-1)))))) .done) (.ret)
@[simp] def W136_24 := @C.wpe _ _ K136_24.eq_1
def K136_25 : C := .cond 4 (.v 5) K136_24 (.skip)
@[simp] def W136_25 := @C.wpe _ _ K136_25.eq_1
def K136_26 : C := .seq (.seq (.pl <| .st (.ext 4 2) <|
    .st (.act none (.px (some 4) (.mv (.v 1)))) <|
    .st (.act none (.px (some 5) (.bin .lss (.v 4) (.c (.int .i64 0))))) .done) K136_25) K136_23
@[simp] def W136_26 := @C.wpe _ _ K136_26.eq_1
def K136_27 : Pl := .st (.act none (.px (some 1) (.mv (.v 11)))) .done
@[simp] def W136_27 := @Pl.wpe _ _ K136_27.eq_1
def K136_28 : C := .seq (.pl <| .st (.ext 4 8) <|
    .st (.act none (.px (some 4) (.mv (.v 0)))) <|
    .st (.act none (.px (some 5) (.mv (.v 3)))) <|
    .st (.act none (.px (some 6) (.ia 10 (.v 4) (.v 5)))) <|
    .st (.act none (.px (some 7) (.fa 2 (.v 6)))) <|
    .st (.act none (.px (some 8) (.fa 2 (.v 7)))) <|
    .st (.act none (.ld (some 9) (.v 8) none)) <|
    .st (.act none (.px (some 10) (.mv (.v 1)))) <|
    .st (.act none (.ex (some 11) (.call fn_laws_heldExprS [.v 9, .v 10]))) K136_27) K136_26
@[simp] def W136_28 := @C.wpe _ _ K136_28.eq_1
def K136_29 : C := .seq (.pl <| .st (.ext 4 2) <|
    .st (.act none (.px (some 4) (.mv (.v 1)))) <|
    .st (.act none (.px (some 5) (.bin .add (.v 4) (.c (.int .i64 1))))) <|
    .st (.act none (.px (some 1) (.mv (.v 5)))) .done) K136_28
@[simp] def W136_29 := @C.wpe _ _ K136_29.eq_1
def K136_30 : C := .seq (.pl <| .st (.ext 4 0) <|
    .st (.act none (.px (some 2) (.mv (.c (.int .i64 (-1)))))) .done) (.ret)
@[simp] def W136_30 := @C.wpe _ _ K136_30.eq_1
def K136_31 : C := .cond 4 (.v 11) K136_30 (.skip)
@[simp] def W136_31 := @C.wpe _ _ K136_31.eq_1
def K136_32 : C := .seq (.seq (.pl <| .st (.ext 4 8) <|
    .st (.act none (.px (some 4) (.mv (.v 0)))) <|
    .st (.act none (.px (some 5) (.mv (.v 3)))) <|
    .st (.act none (.px (some 6) (.ia 10 (.v 4) (.v 5)))) <|
    .st (.act none (.px (some 7) (.fa 2 (.v 6)))) <|
    .st (.act none (.px (some 8) (.fa 1 (.v 7)))) <|
    .st (.act none (.ld (some 9) (.v 8) none)) <|
    .st (.act none (.px (some 10) (.mv (.v 1)))) <|
    .st (.act none (.px (some 11) (.bin .neq (.v 9) (.v 10)))) .done) K136_31) K136_29
@[simp] def W136_32 := @C.wpe _ _ K136_32.eq_1
def K136_33 : C := .seq (.pl <| .st (.ext 4 2) <|
    .st (.act none (.px (some 4) (.mv (.v 1)))) <|
    .st (.act none (.px (some 5) (.bin .add (.v 4) (.c (.int .i64 1))))) <|
    .st (.act none (.px (some 1) (.mv (.v 5)))) .done) K136_32
@[simp] def W136_33 := @C.wpe _ _ K136_33.eq_1
def K136_34 : C := .seq (.pl <| .st (.ext 4 0) <|
    .st (.act none (.px (some 2) (.mv (.c (.int .i64 (-1)))))) .done) (.ret)
@[simp] def W136_34 := @C.wpe _ _ K136_34.eq_1
def K136_35 : C := .cond 4 (.v 11) K136_34 (.skip)
@[simp] def W136_35 := @C.wpe _ _ K136_35.eq_1
def K136_36 : C := .seq (.seq (.pl <| .st (.ext 4 8) <|
    .st (.act none (.px (some 4) (.mv (.v 0)))) <|
    .st (.act none (.px (some 5) (.mv (.v 3)))) <|
    .st (.act none (.px (some 6) (.ia 10 (.v 4) (.v 5)))) <|
    .st (.act none (.px (some 7) (.fa 2 (.v 6)))) <|
    .st (.act none (.px (some 8) (.fa 0 (.v 7)))) <|
    .st (.act none (.ld (some 9) (.v 8) none)) <|
    .st (.act none (.px (some 10) (.mv (.v 1)))) <|
    .st (.act none (.px (some 11) (.bin .neq (.v 9) (.v 10)))) .done) K136_35) K136_33
@[simp] def W136_36 := @C.wpe _ _ K136_36.eq_1
def K136_37 : C := .seq (.pl <| .st (.ext 4 2) <|
    .st (.act none (.px (some 4) (.mv (.v 1)))) <|
    .st (.act none (.px (some 5) (.bin .add (.v 4) (.c (.int .i64 1))))) <|
    .st (.act none (.px (some 1) (.mv (.v 5)))) .done) K136_36
@[simp] def W136_37 := @C.wpe _ _ K136_37.eq_1
def K136_38 : C := .seq (.pl <| .st (.ext 4 0) <|
    .st (.act none (.px (some 2) (.mv (.c (.int .i64 (-1)))))) .done) (.ret)
@[simp] def W136_38 := @C.wpe _ _ K136_38.eq_1
def K136_39 : C := .cond 4 (.v 10) K136_38 (.skip)
@[simp] def W136_39 := @C.wpe _ _ K136_39.eq_1
def K136_40 : C := .seq (.seq (.pl <| .st (.ext 4 7) <|
    .st (.act none (.px (some 4) (.mv (.v 0)))) <|
    .st (.act none (.px (some 5) (.mv (.v 3)))) <|
    .st (.act none (.px (some 6) (.ia 10 (.v 4) (.v 5)))) <|
    .st (.act none (.px (some 7) (.fa 1 (.v 6)))) <|
    .st (.act none (.ld (some 8) (.v 7) none)) <|
    .st (.act none (.px (some 9) (.mv (.v 1)))) <|
    .st (.act none (.px (some 10) (.bin .neq (.v 8) (.v 9)))) .done) K136_39) K136_37
@[simp] def W136_40 := @C.wpe _ _ K136_40.eq_1
def K136_41 : C := .seq (.pl <| .st (.ext 4 2) <|
    .st (.act none (.px (some 4) (.mv (.v 1)))) <|
    .st (.act none (.px (some 5) (.bin .add (.v 4) (.c (.int .i64 1))))) <|
    .st (.act none (.px (some 1) (.mv (.v 5)))) .done) K136_40
@[simp] def W136_41 := @C.wpe _ _ K136_41.eq_1
def K136_42 : C := .seq (.pl <| .st (.ext 4 0) <|
    .st (.act none (.px (some 2) (.mv (.c (.int .i64 (-1)))))) .done) (.ret)
@[simp] def W136_42 := @C.wpe _ _ K136_42.eq_1
def K136_43 : C := .cond 4 (.v 10) K136_42 (.skip)
@[simp] def W136_43 := @C.wpe _ _ K136_43.eq_1
def K136_44 : C := .seq (.block 1 (.seq (.seq (.pl <| .st (.ext 4 7) <|
    .st (.act none (.px (some 4) (.mv (.v 0)))) <|
    .st (.act none (.px (some 5) (.mv (.v 3)))) <|
    .st (.act none (.px (some 6) (.ia 10 (.v 4) (.v 5)))) <|
    .st (.act none (.px (some 7) (.fa 0 (.v 6)))) <|
    .st (.act none (.ld (some 8) (.v 7) none)) <|
    .st (.act none (.px (some 9) (.mv (.v 1)))) <|
    .st (.act none (.px (some 10) (.bin .neq (.v 8) (.v 9)))) .done) K136_43) K136_41)) K136_2
@[simp] def W136_44 := @C.wpe _ _ K136_44.eq_1
def K136_45 : C := .cond 4 (.v 7) (.skip) (.exit 0)
@[simp] def W136_45 := @C.wpe _ _ K136_45.eq_1
def K136_46 : C := .seq (.seq (.pl <| .st (.ext 4 4) <|
    .st (.act none (.px (some 4) (.mv (.v 3)))) <|
    .st (.act none (.px (some 5) (.mv (.v 0)))) <|
    .st (.act none (.px (some 6) (.lenV (.v 5)))) <|
    .st (.act none (.px (some 7) (.bin .lss (.v 4) (.v 6)))) .done) K136_45) K136_44
@[simp] def W136_46 := @C.wpe _ _ K136_46.eq_1
def K136_47 : C := .block 0 (.loop 4 [2] K136_46)
@[simp] def W136_47 := @C.wpe _ _ K136_47.eq_1
def K136_48 : C := .seq (.seq (.pl <| .st (.ext 4 0) <|
    .st (.act none (.px (some 3) (.mv (.c (.int .i64 0))))) .done) K136_47) K136_1
@[simp] def W136_48 := @C.wpe _ _ K136_48.eq_1
def B_laws_heldEdgeS : C := .seq (.pl <| .st (.ext 4 0) <|
    .st (.act none (.px (some 2) (.mv (.c (.int .i64 0))))) .done) K136_48
@[simp] def WB_laws_heldEdgeS := @C.wpe _ _ B_laws_heldEdgeS.eq_1
def R_laws_heldEdgeS : FIR := ⟨B_laws_heldEdgeS, 4, [(2, none)]⟩
theorem IR_laws_heldEdgeS : cfun Try.prog H_laws_heldEdgeS Try.f136 = some R_laws_heldEdgeS := by kernel_rfl
theorem EN_laws_heldEdgeS {args : List Value} {h : Heap} {k : Value → Heap → Prop} (hargs : args.length = 2) (hw : B_laws_heldEdgeS.wp Try.prog (retQ [(2, none)] k) (env0 args 4) h) : CallE Try.prog fn_laws_heldEdgeS args h k := enter Try.func136 rfl IR_laws_heldEdgeS hargs hw

def H_laws_heldExprS : Hint := ⟨[(0, false), (1, false), (4, false), (5, false)], [[2]]⟩
def K172_1 : C := .seq (.pl <| .st (.ext 4 1) <|
    .st (.act none (.px (some 4) (.mv (.v 1)))) <|
    .st (.act none (.px (some 2) (.mv (.v 4)))) .done) (.ret)
@[simp] def W172_1 := @C.wpe _ _ K172_1.eq_1
def K172_2 : C := .pl <| .st (.ext 4 2) <|
    .st (.act none (.px (some 4) (.mv (.v 3)))) <|
    .st (.act none (.px (some 5) (.bin .add (.v 4) (.c (.int .i64 1))))) <|
    .st (.act none (.px (some 3) (.mv (.v 5)))) .done
@[simp] def W172_2 := @C.wpe _ _ K172_2.eq_1
def K172_3 : C := .seq (.pl <| .st (.ext 4 0) <|
    .st (.act none (.px (some 2) (.mv (.c (.int .i64 (-1)))))) .done) (.ret)
@[simp] def W172_3 := @C.wpe _ _ K172_3.eq_1
def K172_4 : C := .cond 4 (.v 5) K172_3 (.skip)
@[simp] def W172_4 := @C.wpe _ _ K172_4.eq_1
def K172_5 : C := .seq (.pl <| .st (.ext 4 2) <|
    .st (.act none (.px (some 4) (.mv (.v 1)))) <|
    .st (.act none (.px (some 5) (.bin .lss (.v 4) (.c (.int .i64 0))))) .done) K172_4
@[simp] def W172_5 := @C.wpe _ _ K172_5.eq_1
def K172_6 : Pl := .st (.act none (.px (some 1) (.mv (.v 10)))) .done
@[simp] def W172_6 := @Pl.wpe _ _ K172_6.eq_1
def K172_7 : C := .seq (.pl <| .st (.ext 4 7) <|
    .st (.act none (.px (some 4) (.mv (.v 0)))) <|
    .st (.act none (.px (some 5) (.mv (.v 3)))) <|
    .st (.act none (.px (some 6) (.ia 3 (.v 4) (.v 5)))) <|
    .st (.act none (.px (some 7) (.fa 2 (.v 6)))) <|
    .st (.act none (.ld (some 8) (.v 7) none)) <|
    .st (.act none (.px (some 9) (.mv (.v 1)))) <|
    .st (.act none (.ex (some 10) (.call fn_laws_heldExprS [.v 8, .v 9]))) K172_6) K172_5
@[simp] def W172_7 := @C.wpe _ _ K172_7.eq_1
def K172_8 : C := .seq (.pl <| .st (.ext 4 2) <|
    .st (.act none (.px (some 4) (.mv (.v 1)))) <|
    .st (.act none (.px (some 5) (.bin .add (.v 4) (.c (.int .i64 1))))) <|
    .st (.act none (.px (some 1) (.mv (.v 5)))) .done) K172_7
@[simp] def W172_8 := @C.wpe _ _ K172_8.eq_1
def K172_9 : C := .seq (.pl <| .st (.ext 4 0) <|
    .st (.act none (.px (some 2) (.mv (.c (.int .i64 (-1)))))) .done) (.ret)
@[simp] def W172_9 := @C.wpe _ _ K172_9.eq_1
def K172_10 : C := .cond 4 (.v 10) K172_9 (.skip)
@[simp] def W172_10 := @C.wpe _ _ K172_10.eq_1
def K172_11 : C := .seq (.seq (.pl <| .st (.ext 4 7) <|
    .st (.act none (.px (some 4) (.mv (.v 0)))) <|
    .st (.act none (.px (some 5) (.mv (.v 3)))) <|
    .st (.act none (.px (some 6) (.ia 3 (.v 4) (.v 5)))) <|
    .st (.act none (.px (some 7) (.fa 1 (.v 6)))) <|
    .st (.act none (.ld (some 8) (.v 7) none)) <|
    .st (.act none (.px (some 9) (.mv (.v 1)))) <|
    .st (.act none (.px (some 10) (.bin .neq (.v 8) (.v 9)))) .done) K172_10) K172_8
@[simp] def W172_11 := @C.wpe _ _ K172_11.eq_1
def K172_12 : C := .seq (.pl <| .st (.ext 4 2) <|
    .st (.act none (.px (some 4) (.mv (.v 1)))) <|
    .st (.act none (.px (some 5) (.bin .add (.v 4) (.c (.int .i64 1))))) <|
    .st (.act none (.px (some 1) (.mv (.v 5)))) .done) K172_11
@[simp] def W172_12 := @C.wpe _ _ K172_12.eq_1
def K172_13 : C := .seq (.pl <| .st (.ext 4 0) <|
    .st (.act none (.px (some 2) (.mv (.c (.int .i64 (-1)))))) .done) (.ret)
@[simp] def W172_13 := @C.wpe _ _ K172_13.eq_1
def K172_14 : C := .cond 4 (.v 10) K172_13 (.skip)
@[simp] def W172_14 := @C.wpe _ _ K172_14.eq_1
def K172_15 : C := .seq (.block 1 (.seq (.seq (.pl <| .st (.ext 4 7) <|
    .st (.act none (.px (some 4) (.mv (.v 0)))) <|
    .st (.act none (.px (some 5) (.mv (.v 3)))) <|
    .st (.act none (.px (some 6) (.ia 3 (.v 4) (.v 5)))) <|
    .st (.act none (.px (some 7) (.fa 0 (.v 6)))) <|
    .st (.act none (.ld (some 8) (.v 7) none)) <|
    .st (.act none (.px (some 9) (.mv (.v 1)))) <|
    .st (.act none (.px (some 10) (.bin .neq (.v 8) (.v 9)))) .done) K172_14) K172_12)) K172_2
@[simp] def W172_15 := @C.wpe _ _ K172_15.eq_1
def K172_16 : C := .cond 4 (.v 7) (.skip) (.exit 0)
@[simp] def W172_16 := @C.wpe _ _ K172_16.eq_1
def K172_17 : C := .seq (.seq (.pl <| .st (.ext 4 4) <|
    .st (.act none (.px (some 4) (.mv (.v 3)))) <|
    .st (.act none (.px (some 5) (.mv (.v 0)))) <|
    .st (.act none (.px (some 6) (.lenV (.v 5)))) <|
    .st (.act none (.px (some 7) (.bin .lss (.v 4) (.v 6)))) .done) K172_16) K172_15
@[simp] def W172_17 := @C.wpe _ _ K172_17.eq_1
def K172_18 : C := .block 0 (.loop 4 [2] K172_17)
@[simp] def W172_18 := @C.wpe _ _ K172_18.eq_1
def K172_19 : C := .seq (.seq (.pl <| .st (.ext 4 0) <|
    .st (.act none (.px (some 3) (.mv (.c (.int .i64 0))))) .done) K172_18) K172_1
@[simp] def W172_19 := @C.wpe _ _ K172_19.eq_1
def B_laws_heldExprS : C := .seq (.pl <| .st (.ext 4 0) <|
    .st (.act none (.px (some 2) (.mv (.c (.int .i64 0))))) .done) K172_19
@[simp] def WB_laws_heldExprS := @C.wpe _ _ B_laws_heldExprS.eq_1
def R_laws_heldExprS : FIR := ⟨B_laws_heldExprS, 4, [(2, none)]⟩
theorem IR_laws_heldExprS : cfun Try.prog H_laws_heldExprS Try.f172 = some R_laws_heldExprS := by kernel_rfl
theorem EN_laws_heldExprS {args : List Value} {h : Heap} {k : Value → Heap → Prop} (hargs : args.length = 2) (hw : B_laws_heldExprS.wp Try.prog (retQ [(2, none)] k) (env0 args 4) h) : CallE Try.prog fn_laws_heldExprS args h k := enter Try.func172 rfl IR_laws_heldExprS hargs hw

def H_laws_heldProcessS : Hint := ⟨[(0, false), (1, false), (4, false), (5, false)], [[2]]⟩
def K88_1 : C := .seq (.pl <| .st (.ext 4 1) <|
    .st (.act none (.px (some 4) (.mv (.v 1)))) <|
    .st (.act none (.px (some 2) (.mv (.v 4)))) .done) (.ret)
@[simp] def W88_1 := @C.wpe _ _ K88_1.eq_1
def K88_2 : C := .pl <| .st (.ext 4 2) <|
    .st (.act none (.px (some 4) (.mv (.v 3)))) <|
    .st (.act none (.px (some 5) (.bin .add (.v 4) (.c (.int .i64 1))))) <|
    .st (.act none (.px (some 3) (.mv (.v 5)))) .done
@[simp] def W88_2 := @C.wpe _ _ K88_2.eq_1
def K88_3 : C := .seq (.pl <| .st (.ext 4 0) <|
    .st (.act none (.px (some 2) (.mv (.c (.int .i64 (-1)))))) .done) (.ret)
@[simp] def W88_3 := @C.wpe _ _ K88_3.eq_1
def K88_4 : C := .cond 4 (.v 5) K88_3 (.skip)
@[simp] def W88_4 := @C.wpe _ _ K88_4.eq_1
def K88_5 : C := .seq (.pl <| .st (.ext 4 2) <|
    .st (.act none (.px (some 4) (.mv (.v 1)))) <|
    .st (.act none (.px (some 5) (.bin .lss (.v 4) (.c (.int .i64 0))))) .done) K88_4
@[simp] def W88_5 := @C.wpe _ _ K88_5.eq_1
def K88_6 : Pl := .st (.act none (.px (some 1) (.mv (.v 10)))) .done
@[simp] def W88_6 := @Pl.wpe _ _ K88_6.eq_1
def K88_7 : C := .seq (.pl <| .st (.ext 4 7) <|
    .st (.act none (.px (some 4) (.mv (.v 0)))) <|
    .st (.act none (.px (some 5) (.mv (.v 3)))) <|
    .st (.act none (.px (some 6) (.ia 2 (.v 4) (.v 5)))) <|
    .st (.act none (.px (some 7) (.fa 1 (.v 6)))) <|
    .st (.act none (.ld (some 8) (.v 7) none)) <|
    .st (.act none (.px (some 9) (.mv (.v 1)))) <|
    .st (.act none (.ex (some 10) (.call fn_laws_heldEdgeS [.v 8, .v 9]))) K88_6) K88_5
@[simp] def W88_7 := @C.wpe _ _ K88_7.eq_1
def K88_8 : C := .seq (.pl <| .st (.ext 4 2) <|
    .st (.act none (.px (some 4) (.mv (.v 1)))) <|
    .st (.act none (.px (some 5) (.bin .add (.v 4) (.c (.int .i64 1))))) <|
    .st (.act none (.px (some 1) (.mv (.v 5)))) .done) K88_7
@[simp] def W88_8 := @C.wpe _ _ K88_8.eq_1
def K88_9 : C := .seq (.pl <| .st (.ext 4 0) <|
    .st (.act none (.px (some 2) (.mv (.c (.int .i64 (-1)))))) .done) (.ret)
@[simp] def W88_9 := @C.wpe _ _ K88_9.eq_1
def K88_10 : C := .cond 4 (.v 10) K88_9 (.skip)
@[simp] def W88_10 := @C.wpe _ _ K88_10.eq_1
def K88_11 : C := .seq (.block 1 (.seq (.seq (.pl <| .st (.ext 4 7) <|
    .st (.act none (.px (some 4) (.mv (.v 0)))) <|
    .st (.act none (.px (some 5) (.mv (.v 3)))) <|
    .st (.act none (.px (some 6) (.ia 2 (.v 4) (.v 5)))) <|
    .st (.act none (.px (some 7) (.fa 0 (.v 6)))) <|
    .st (.act none (.ld (some 8) (.v 7) none)) <|
    .st (.act none (.px (some 9) (.mv (.v 1)))) <|
    .st (.act none (.px (some 10) (.bin .neq (.v 8) (.v 9)))) .done) K88_10) K88_8)) K88_2
@[simp] def W88_11 := @C.wpe _ _ K88_11.eq_1
def K88_12 : C := .cond 4 (.v 7) (.skip) (.exit 0)
@[simp] def W88_12 := @C.wpe _ _ K88_12.eq_1
def K88_13 : C := .seq (.seq (.pl <| .st (.ext 4 4) <|
    .st (.act none (.px (some 4) (.mv (.v 3)))) <|
    .st (.act none (.px (some 5) (.mv (.v 0)))) <|
    .st (.act none (.px (some 6) (.lenV (.v 5)))) <|
    .st (.act none (.px (some 7) (.bin .lss (.v 4) (.v 6)))) .done) K88_12) K88_11
@[simp] def W88_13 := @C.wpe _ _ K88_13.eq_1
def K88_14 : C := .block 0 (.loop 4 [2] K88_13)
@[simp] def W88_14 := @C.wpe _ _ K88_14.eq_1
def K88_15 : C := .seq (.seq (.pl <| .st (.ext 4 0) <|
    .st (.act none (.px (some 3) (.mv (.c (.int .i64 0))))) .done) K88_14) K88_1
@[simp] def W88_15 := @C.wpe _ _ K88_15.eq_1
def B_laws_heldProcessS : C := .seq (.pl <| .st (.ext 4 0) <|
    .st (.act none (.px (some 2) (.mv (.c (.int .i64 0))))) .done) K88_15
@[simp] def WB_laws_heldProcessS := @C.wpe _ _ B_laws_heldProcessS.eq_1
def R_laws_heldProcessS : FIR := ⟨B_laws_heldProcessS, 4, [(2, none)]⟩
theorem IR_laws_heldProcessS : cfun Try.prog H_laws_heldProcessS Try.f88 = some R_laws_heldProcessS := by kernel_rfl
theorem EN_laws_heldProcessS {args : List Value} {h : Heap} {k : Value → Heap → Prop} (hargs : args.length = 2) (hw : B_laws_heldProcessS.wp Try.prog (retQ [(2, none)] k) (env0 args 4) h) : CallE Try.prog fn_laws_heldProcessS args h k := enter Try.func88 rfl IR_laws_heldProcessS hargs hw

def H_laws_heldSystem : Hint := ⟨[(0, false), (1, false), (2, true), (4, false)], []⟩
def K42_1 : C := .seq (.pl <| .st (.ext 4 1) <|
    .st (.act none (.px (some 4) (.mv (.v 1)))) <|
    .st (.act none (.px (some 3) (.mv (.v 4)))) .done) (.ret)
@[simp] def W42_1 := @C.wpe _ _ K42_1.eq_1
def K42_2 : C := .seq (.pl <| .st (.ext 4 0) <|
    .st (.act none (.px (some 3) (.mv (.c (.int .i64 (-1)))))) .done) (.ret)
@[simp] def W42_2 := @C.wpe _ _ K42_2.eq_1
def K42_3 : C := .cond 4 (.v 5) K42_2 (.skip)
@[simp] def W42_3 := @C.wpe _ _ K42_3.eq_1
def K42_4 : C := .seq (.seq (.pl <| .st (.ext 4 2) <|
    .st (.act none (.px (some 4) (.mv (.v 1)))) <|
    .st (.act none (.px (some 5) (.bin .lss (.v 4) (.c (.int .i64 0))))) .done) K42_3) K42_1
@[simp] def W42_4 := @C.wpe _ _ K42_4.eq_1
def K42_5 : Pl := .st (.act none (.px (some 1) (.mv (.v 7)))) .done
@[simp] def W42_5 := @Pl.wpe _ _ K42_5.eq_1
def K42_6 : C := .seq (.pl <| .st (.ext 4 4) <|
    .st (.act none (.als 4 none 2)) <|
    .st (.act none (.pget (some 5) (some 4) 2 1 none)) <|
    .st (.act none (.px (some 6) (.mv (.v 1)))) <|
    .st (.act none (.ex (some 7) (.call fn_laws_heldProcessS [.v 5, .v 6]))) K42_5) K42_4
@[simp] def W42_6 := @C.wpe _ _ K42_6.eq_1
def K42_7 : C := .seq (.pl <| .st (.ext 4 0) <|
    .st (.act none (.px (some 3) (.mv (.c (.int .i64 (-1)))))) .done) (.ret)
@[simp] def W42_7 := @C.wpe _ _ K42_7.eq_1
def K42_8 : C := .cond 4 (.v 5) K42_7 (.skip)
@[simp] def W42_8 := @C.wpe _ _ K42_8.eq_1
def K42_9 : C := .seq (.seq (.pl <| .st (.ext 4 2) <|
    .st (.act none (.px (some 4) (.mv (.v 1)))) <|
    .st (.act none (.px (some 5) (.bin .lss (.v 4) (.c (.int .i64 0))))) .done) K42_8) K42_6
@[simp] def W42_9 := @C.wpe _ _ K42_9.eq_1
def K42_10 : Pl := .st (.act none (.px (some 1) (.mv (.v 7)))) .done
@[simp] def W42_10 := @Pl.wpe _ _ K42_10.eq_1
def K42_11 : C := .seq (.pl <| .st (.ext 4 4) <|
    .st (.act none (.als 4 none 2)) <|
    .st (.act none (.pget (some 5) (some 4) 2 0 none)) <|
    .st (.act none (.px (some 6) (.mv (.v 1)))) <|
    .st (.act none (.ex (some 7) (.call fn_laws_heldIntS [.v 5, .v 6]))) K42_10) K42_9
@[simp] def W42_11 := @C.wpe _ _ K42_11.eq_1
def B_laws_heldSystem : C := .seq (.pl <| .st (.ext 4 0) <|
    .st (.act none (.pnew 2 (.v 0) [])) <|
    .st (.act none (.px (some 3) (.mv (.c (.int .i64 0))))) .done) K42_11
@[simp] def WB_laws_heldSystem := @C.wpe _ _ B_laws_heldSystem.eq_1
def R_laws_heldSystem : FIR := ⟨B_laws_heldSystem, 4, [(3, none)]⟩
theorem IR_laws_heldSystem : cfun Try.prog H_laws_heldSystem Try.f42 = some R_laws_heldSystem := by kernel_rfl
theorem EN_laws_heldSystem {args : List Value} {h : Heap} {k : Value → Heap → Prop} (hargs : args.length = 2) (hw : B_laws_heldSystem.wp Try.prog (retQ [(3, none)] k) (env0 args 4) h) : CallE Try.prog fn_laws_heldSystem args h k := enter Try.func42 rfl IR_laws_heldSystem hargs hw


end Go.Proofs.Ythgimpheeemooaa
