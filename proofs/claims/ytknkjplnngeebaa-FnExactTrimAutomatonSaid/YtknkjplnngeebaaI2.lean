/-
  More bodies of functions in the small language, as a program printed them.
-/
import Derived.Test.YtknkjplnngeebaaI1
namespace Go.Proofs.Ytknkjplnngeebaa
open Go
set_option linter.all false
set_option linter.defProp false
set_option maxRecDepth 1000000

def H_laws_FnExactTrimAutomaton : Hint := ⟨[(0, false), (1, true), (2, false), (3, false), (4, true), (5, false), (6, true), (7, true), (8, false), (9, false), (10, false), (11, false), (12, true), (13, false)], []⟩
def K3_1 : C := .seq (.pl <| .st (.ext 14 0) <|
    .st (.act none (.px (some 2) (.mv (.c (.bool true))))) .done) (.ret)
@[simp] def W3_1 := @C.wpe _ _ K3_1.eq_1
def K3_2 : C := .seq (.pl <| .st (.ext 14 0) <|
    .st (.act none (.px (some 2) (.mv (.c (.bool false))))) .done) (.ret)
@[simp] def W3_2 := @C.wpe _ _ K3_2.eq_1
def K3_3 : C := .cond 14 (.v 16) K3_2 (.skip)
@[simp] def W3_3 := @C.wpe _ _ K3_3.eq_1
def K3_4 : C := .seq (.seq (.pl <| .st (.ext 14 3) <|
    .st (.act none (.px (some 14) (.mv (.v 11)))) <|
    .st (.act none (.px (some 15) (.mv (.v 10)))) <|
    .st (.act none (.px (some 16) (.bin .neq (.v 14) (.v 15)))) .done) K3_3) K3_1
@[simp] def W3_4 := @C.wpe _ _ K3_4.eq_1
def K3_5 : C := .seq (.pl <| .st (.ext 14 0) <|
    .st (.act none (.px (some 2) (.mv (.c (.bool false))))) .done) (.ret)
@[simp] def W3_5 := @C.wpe _ _ K3_5.eq_1
def K3_6 : C := .cond 14 (.v 15) K3_5 (.skip)
@[simp] def W3_6 := @C.wpe _ _ K3_6.eq_1
def K3_7 : C := .seq (.seq (.pl <| .st (.ext 14 2) <|
    .st (.act none (.px (some 14) (.mv (.v 11)))) <|
    .st (.act none (.px (some 15) (.bin .lss (.v 14) (.c (.int .i64 0))))) .done) K3_6) K3_4
@[simp] def W3_7 := @C.wpe _ _ K3_7.eq_1
def K3_8 : Pl := .st (.act none (.px (some 11) (.mv (.v 16)))) .done
@[simp] def W3_8 := @Pl.wpe _ _ K3_8.eq_1
def K3_9 : C := .seq (.pl <| .st (.ext 14 3) <|
    .st (.act none (.pget (some 14) none 7 0 (some 3))) <|
    .st (.act none (.px (some 15) (.mv (.v 11)))) <|
    .st (.act none (.ex (some 16) (.call fn_laws_heldAutomaton [.v 14, .v 15]))) K3_8) K3_7
@[simp] def W3_9 := @C.wpe _ _ K3_9.eq_1
def K3_10 : C := .seq (.pl <| .st (.ext 14 0) <|
    .st (.act none (.px (some 11) (.mv (.c (.int .i64 1))))) .done) K3_9
@[simp] def W3_10 := @C.wpe _ _ K3_10.eq_1
def K3_11 : C := .seq (.pl <| .st (.ext 14 0) <|
    .st (.act none (.px (some 2) (.mv (.c (.bool false))))) .done) (.ret)
@[simp] def W3_11 := @C.wpe _ _ K3_11.eq_1
def K3_12 : C := .cond 14 (.v 22) K3_11 (.skip)
@[simp] def W3_12 := @C.wpe _ _ K3_12.eq_1
def K3_13 : Pl := .st (.act none (.px (some 17) (.un .not (.v 16)))) <|
    .st (.act none (.px (some 18) (.mv (.v 17)))) <|
    .st (.act (some (.v 18, false)) (.px (some 19) (.mv (.v 13)))) <|
    .st (.act (some (.v 18, false)) (.px (some 20) (.mv (.v 5)))) <|
    .st (.act (some (.v 18, false)) (.px (some 21) (.eqb true (.v 19) (.v 20)))) <|
    .st (.act none (.px (some 22) (.pick (.v 18) (.c (.bool true)) (.v 21)))) .done
@[simp] def W3_13 := @Pl.wpe _ _ K3_13.eq_1
def K3_14 : C := .seq (.seq (.pl <| .st (.ext 14 9) <|
    .st (.act none (.pget (some 14) none 12 0 (some 3))) <|
    .st (.act none (.pget (some 15) none 4 0 (some 3))) <|
    .st (.act none (.ex (some 16) (.call fn_laws_eqAutomaton [.v 14, .v 15]))) K3_13) K3_12) K3_10
@[simp] def W3_14 := @C.wpe _ _ K3_14.eq_1
def K3_15 : Pl := .st (.act none (.px (some 17) (.mv (.v 16)))) <|
    .st (.act none (.px (some 18) (.extract 0 (.v 17)))) <|
    .st (.act none (.px (some 19) (.extract 1 (.v 17)))) <|
    .st (.act none (.pnew 12 (.c (.agg #[.slice none 0 0, .slice none 0 0, .slice none 0 0])) [])) <|
    .st (.act none (.pset none 12 0 3 (.v 18))) <|
    .st (.act none (.px (some 13) (.mv (.v 19)))) .done
@[simp] def W3_15 := @Pl.wpe _ _ K3_15.eq_1
def K3_16 : Pl := .st (.act none (.ex (some 16) (.call fn_impl_TrimAutomaton [.v 15]))) K3_15
@[simp] def W3_16 := @Pl.wpe _ _ K3_16.eq_1
def K3_17 : C := .seq (.pl <| .st (.ext 14 6) <|
    .st (.act none (.pget (some 14) none 1 0 (some 3))) <|
    .st (.act none (.ex (some 15) (.call fn_laws_toAutomaton [.v 14]))) K3_16) K3_14
@[simp] def W3_17 := @C.wpe _ _ K3_17.eq_1
def K3_18 : C := .seq (.pl <| .st (.ext 14 0) <|
    .st (.act none (.px (some 2) (.mv (.c (.bool false))))) .done) (.ret)
@[simp] def W3_18 := @C.wpe _ _ K3_18.eq_1
def K3_19 : C := .cond 14 (.v 16) K3_18 (.skip)
@[simp] def W3_19 := @C.wpe _ _ K3_19.eq_1
def K3_20 : C := .seq (.seq (.pl <| .st (.ext 14 3) <|
    .st (.act none (.px (some 14) (.mv (.v 11)))) <|
    .st (.act none (.px (some 15) (.mv (.v 10)))) <|
    .st (.act none (.px (some 16) (.bin .neq (.v 14) (.v 15)))) .done) K3_19) K3_17
@[simp] def W3_20 := @C.wpe _ _ K3_20.eq_1
def K3_21 : C := .seq (.pl <| .st (.ext 14 0) <|
    .st (.act none (.px (some 2) (.mv (.c (.bool false))))) .done) (.ret)
@[simp] def W3_21 := @C.wpe _ _ K3_21.eq_1
def K3_22 : C := .cond 14 (.v 15) K3_21 (.skip)
@[simp] def W3_22 := @C.wpe _ _ K3_22.eq_1
def K3_23 : C := .seq (.seq (.pl <| .st (.ext 14 2) <|
    .st (.act none (.px (some 14) (.mv (.v 11)))) <|
    .st (.act none (.px (some 15) (.bin .lss (.v 14) (.c (.int .i64 0))))) .done) K3_22) K3_20
@[simp] def W3_23 := @C.wpe _ _ K3_23.eq_1
def K3_24 : Pl := .st (.act none (.px (some 11) (.mv (.v 16)))) .done
@[simp] def W3_24 := @Pl.wpe _ _ K3_24.eq_1
def K3_25 : C := .seq (.pl <| .st (.ext 14 3) <|
    .st (.act none (.pget (some 14) none 7 0 (some 3))) <|
    .st (.act none (.px (some 15) (.mv (.v 11)))) <|
    .st (.act none (.ex (some 16) (.call fn_laws_heldAutomaton [.v 14, .v 15]))) K3_24) K3_23
@[simp] def W3_25 := @C.wpe _ _ K3_25.eq_1
def K3_26 : C := .seq (.pl <| .st (.ext 14 0) <|
    .st (.act none (.px (some 11) (.mv (.c (.int .i64 1))))) .done) K3_25
@[simp] def W3_26 := @C.wpe _ _ K3_26.eq_1
def K3_27 : Pl := .st (.act none (.px (some 10) (.mv (.v 16)))) .done
@[simp] def W3_27 := @Pl.wpe _ _ K3_27.eq_1
def K3_28 : C := .seq (.pl <| .st (.ext 14 3) <|
    .st (.act none (.pget (some 14) none 7 0 (some 3))) <|
    .st (.act none (.px (some 15) (.mv (.v 10)))) <|
    .st (.act none (.ex (some 16) (.call fn_laws_markAutomaton [.v 14, .v 15]))) K3_27) K3_26
@[simp] def W3_28 := @C.wpe _ _ K3_28.eq_1
def K3_29 : C := .seq (.pl <| .st (.ext 14 0) <|
    .st (.act none (.px (some 10) (.mv (.c (.int .i64 1))))) .done) K3_28
@[simp] def W3_29 := @C.wpe _ _ K3_29.eq_1
def K3_30 : C := .seq (.pl <| .st (.ext 14 0) <|
    .st (.act none (.px (some 2) (.mv (.c (.bool false))))) .done) (.ret)
@[simp] def W3_30 := @C.wpe _ _ K3_30.eq_1
def K3_31 : C := .cond 14 (.v 26) K3_30 (.skip)
@[simp] def W3_31 := @C.wpe _ _ K3_31.eq_1
def K3_32 : Pl := .st (.act (some (.v 16, false)) (.px (some 20) (.un .not (.v 19)))) <|
    .st (.act none (.px (some 21) (.pick (.v 16) (.c (.bool true)) (.v 20)))) <|
    .st (.act none (.px (some 22) (.mv (.v 21)))) <|
    .st (.act (some (.v 22, false)) (.px (some 23) (.mv (.v 8)))) <|
    .st (.act (some (.v 22, false)) (.px (some 24) (.mv (.v 5)))) <|
    .st (.act (some (.v 22, false)) (.px (some 25) (.eqb true (.v 23) (.v 24)))) <|
    .st (.act none (.px (some 26) (.pick (.v 22) (.c (.bool true)) (.v 25)))) .done
@[simp] def W3_32 := @Pl.wpe _ _ K3_32.eq_1
def K3_33 : C := .seq (.seq (.pl <| .st (.ext 14 13) <|
    .st (.act none (.px (some 14) (.mv (.v 9)))) <|
    .st (.act none (.px (some 15) (.bin .lss (.v 14) (.c (.int .i64 0))))) <|
    .st (.act none (.px (some 16) (.mv (.v 15)))) <|
    .st (.act (some (.v 16, false)) (.pget (some 17) none 7 0 (some 3))) <|
    .st (.act (some (.v 16, false)) (.pget (some 18) none 4 0 (some 3))) <|
    .st (.act (some (.v 16, false)) (.ex (some 19) (.call fn_laws_eqAutomaton [.v 17, .v 18]))) K3_32) K3_31) K3_29
@[simp] def W3_33 := @C.wpe _ _ K3_33.eq_1
def K3_34 : Pl := .st (.act none (.px (some 9) (.mv (.v 16)))) .done
@[simp] def W3_34 := @Pl.wpe _ _ K3_34.eq_1
def K3_35 : C := .seq (.pl <| .st (.ext 14 3) <|
    .st (.act none (.pget (some 14) none 6 0 (some 3))) <|
    .st (.act none (.px (some 15) (.mv (.v 9)))) <|
    .st (.act none (.ex (some 16) (.call fn_laws_markAutomaton [.v 14, .v 15]))) K3_34) K3_33
@[simp] def W3_35 := @C.wpe _ _ K3_35.eq_1
def K3_36 : C := .seq (.pl <| .st (.ext 14 0) <|
    .st (.act none (.px (some 9) (.mv (.c (.int .i64 1))))) .done) K3_35
@[simp] def W3_36 := @C.wpe _ _ K3_36.eq_1
def K3_37 : C := .seq (.pl <| .st (.ext 14 0) <|
    .st (.act none (.px (some 2) (.mv (.c (.bool false))))) .done) (.ret)
@[simp] def W3_37 := @C.wpe _ _ K3_37.eq_1
def K3_38 : C := .cond 14 (.v 18) K3_37 (.skip)
@[simp] def W3_38 := @C.wpe _ _ K3_38.eq_1
def K3_39 : Pl := .st (.act none (.px (some 18) (.un .not (.v 17)))) .done
@[simp] def W3_39 := @Pl.wpe _ _ K3_39.eq_1
def K3_40 : Pl := .st (.act none (.ex (some 17) (.call fn_laws_eqAutomaton [.v 14, .v 16]))) K3_39
@[simp] def W3_40 := @Pl.wpe _ _ K3_40.eq_1
def K3_41 : C := .seq (.seq (.pl <| .st (.ext 14 5) <|
    .st (.act none (.pget (some 14) none 6 0 (some 3))) <|
    .st (.act none (.pget (some 15) none 1 0 (some 3))) <|
    .st (.act none (.ex (some 16) (.call fn_laws_toAutomaton [.v 15]))) K3_40) K3_38) K3_36
@[simp] def W3_41 := @C.wpe _ _ K3_41.eq_1
def K3_42 : C := .seq (.pl <| .st (.ext 14 0) <|
    .st (.act none (.px (some 2) (.mv (.c (.bool false))))) .done) (.ret)
@[simp] def W3_42 := @C.wpe _ _ K3_42.eq_1
def K3_43 : C := .cond 14 (.v 22) K3_42 (.skip)
@[simp] def W3_43 := @C.wpe _ _ K3_43.eq_1
def K3_44 : Pl := .st (.act none (.px (some 17) (.un .not (.v 16)))) <|
    .st (.act none (.px (some 18) (.mv (.v 17)))) <|
    .st (.act (some (.v 18, false)) (.px (some 19) (.mv (.v 8)))) <|
    .st (.act (some (.v 18, false)) (.px (some 20) (.mv (.v 5)))) <|
    .st (.act (some (.v 18, false)) (.px (some 21) (.eqb true (.v 19) (.v 20)))) <|
    .st (.act none (.px (some 22) (.pick (.v 18) (.c (.bool true)) (.v 21)))) .done
@[simp] def W3_44 := @Pl.wpe _ _ K3_44.eq_1
def K3_45 : C := .seq (.seq (.pl <| .st (.ext 14 9) <|
    .st (.act none (.pget (some 14) none 7 0 (some 3))) <|
    .st (.act none (.pget (some 15) none 4 0 (some 3))) <|
    .st (.act none (.ex (some 16) (.call fn_laws_eqAutomaton [.v 14, .v 15]))) K3_44) K3_43) K3_41
@[simp] def W3_45 := @C.wpe _ _ K3_45.eq_1
def K3_46 : Pl := .st (.act none (.px (some 16) (.mv (.v 15)))) <|
    .st (.act none (.px (some 17) (.extract 0 (.v 16)))) <|
    .st (.act none (.px (some 18) (.extract 1 (.v 16)))) <|
    .st (.act none (.pnew 7 (.c (.agg #[.slice none 0 0, .slice none 0 0, .slice none 0 0])) [])) <|
    .st (.act none (.pset none 7 0 3 (.v 17))) <|
    .st (.act none (.px (some 8) (.mv (.v 18)))) .done
@[simp] def W3_46 := @Pl.wpe _ _ K3_46.eq_1
def K3_47 : C := .seq (.pl <| .st (.ext 14 5) <|
    .st (.act none (.pget (some 14) none 6 0 (some 3))) <|
    .st (.act none (.ex (some 15) (.call fn_impl_TrimAutomaton [.v 14]))) K3_46) K3_45
@[simp] def W3_47 := @C.wpe _ _ K3_47.eq_1
def K3_48 : Pl := .st (.act none (.pnew 6 (.c (.agg #[.slice none 0 0, .slice none 0 0, .slice none 0 0])) [])) <|
    .st (.act none (.pset none 6 0 3 (.v 15))) .done
@[simp] def W3_48 := @Pl.wpe _ _ K3_48.eq_1
def K3_49 : C := .seq (.pl <| .st (.ext 14 2) <|
    .st (.act none (.pget (some 14) none 1 0 (some 3))) <|
    .st (.act none (.ex (some 15) (.call fn_laws_toAutomaton [.v 14]))) K3_48) K3_47
@[simp] def W3_49 := @C.wpe _ _ K3_49.eq_1
def K3_50 : Pl := .st (.act none (.px (some 17) (.mv (.v 16)))) <|
    .st (.act none (.px (some 18) (.extract 0 (.v 17)))) <|
    .st (.act none (.px (some 19) (.extract 1 (.v 17)))) <|
    .st (.act none (.pnew 4 (.c (.agg #[.slice none 0 0, .slice none 0 0, .slice none 0 0])) [])) <|
    .st (.act none (.pset none 4 0 3 (.v 18))) <|
    .st (.act none (.px (some 5) (.mv (.v 19)))) .done
@[simp] def W3_50 := @Pl.wpe _ _ K3_50.eq_1
def K3_51 : Pl := .st (.act none (.ex (some 16) (.call fn_spec_TrimAutomaton [.v 15]))) K3_50
@[simp] def W3_51 := @Pl.wpe _ _ K3_51.eq_1
def K3_52 : C := .seq (.pl <| .st (.ext 14 6) <|
    .st (.act none (.pget (some 14) none 1 0 (some 3))) <|
    .st (.act none (.ex (some 15) (.call fn_laws_toAutomaton [.v 14]))) K3_51) K3_49
@[simp] def W3_52 := @C.wpe _ _ K3_52.eq_1
def K3_53 : C := .seq (.pl <| .st (.ext 14 0) <|
    .st (.act none (.px (some 2) (.mv (.c (.bool true))))) .done) (.ret)
@[simp] def W3_53 := @C.wpe _ _ K3_53.eq_1
def K3_54 : C := .cond 14 (.v 15) K3_53 (.skip)
@[simp] def W3_54 := @C.wpe _ _ K3_54.eq_1
def K3_55 : C := .seq (.seq (.pl <| .st (.ext 14 2) <|
    .st (.act none (.px (some 14) (.mv (.v 3)))) <|
    .st (.act none (.px (some 15) (.bin .lss (.v 14) (.c (.int .i64 0))))) .done) K3_54) K3_52
@[simp] def W3_55 := @C.wpe _ _ K3_55.eq_1
def K3_56 : Pl := .st (.act none (.px (some 3) (.mv (.v 16)))) .done
@[simp] def W3_56 := @Pl.wpe _ _ K3_56.eq_1
def K3_57 : C := .seq (.pl <| .st (.ext 14 3) <|
    .st (.act none (.pget (some 14) none 1 0 (some 3))) <|
    .st (.act none (.px (some 15) (.mv (.v 3)))) <|
    .st (.act none (.ex (some 16) (.call fn_laws_szAutomaton [.v 14, .v 15]))) K3_56) K3_55
@[simp] def W3_57 := @C.wpe _ _ K3_57.eq_1
def K3_58 : C := .seq (.pl <| .st (.ext 14 0) <|
    .st (.act none (.px (some 3) (.mv (.c (.int .i64 1048576))))) .done) K3_57
@[simp] def W3_58 := @C.wpe _ _ K3_58.eq_1
def B_laws_FnExactTrimAutomaton : C := .seq (.pl <| .st (.ext 14 0) <|
    .st (.act none (.pnew 1 (.v 0) [])) <|
    .st (.act none (.px (some 2) (.mv (.c (.bool false))))) .done) K3_58
@[simp] def WB_laws_FnExactTrimAutomaton := @C.wpe _ _ B_laws_FnExactTrimAutomaton.eq_1
def R_laws_FnExactTrimAutomaton : FIR := ⟨B_laws_FnExactTrimAutomaton, 14, [(2, none)]⟩
theorem IR_laws_FnExactTrimAutomaton : cfun Try.prog H_laws_FnExactTrimAutomaton Try.f3 = some R_laws_FnExactTrimAutomaton := by kernel_rfl
theorem EN_laws_FnExactTrimAutomaton {args : List Value} {h : Heap} {k : Value → Heap → Prop} (hargs : args.length = 1) (hw : B_laws_FnExactTrimAutomaton.wp Try.prog (retQ [(2, none)] k) (env0 args 14) h) : CallE Try.prog fn_laws_FnExactTrimAutomaton args h k := enter Try.func3 rfl IR_laws_FnExactTrimAutomaton hargs hw

def H_laws_eqAutomaton : Hint := ⟨[(0, false), (1, false), (2, true), (3, true), (4, false)], []⟩
def K12_1 : C := .seq (.pl <| .st (.ext 5 0) <|
    .st (.act none (.px (some 4) (.mv (.c (.bool true))))) .done) (.ret)
@[simp] def W12_1 := @C.wpe _ _ K12_1.eq_1
def K12_2 : C := .seq (.pl <| .st (.ext 5 0) <|
    .st (.act none (.px (some 4) (.mv (.c (.bool false))))) .done) (.ret)
@[simp] def W12_2 := @C.wpe _ _ K12_2.eq_1
def K12_3 : C := .cond 5 (.v 10) K12_2 (.skip)
@[simp] def W12_3 := @C.wpe _ _ K12_3.eq_1
def K12_4 : Pl := .st (.act none (.px (some 10) (.un .not (.v 9)))) .done
@[simp] def W12_4 := @Pl.wpe _ _ K12_4.eq_1
def K12_5 : C := .seq (.seq (.pl <| .st (.ext 5 6) <|
    .st (.act none (.als 5 none 2)) <|
    .st (.act none (.pget (some 6) (some 5) 2 2 none)) <|
    .st (.act none (.als 7 none 3)) <|
    .st (.act none (.pget (some 8) (some 7) 3 2 none)) <|
    .st (.act none (.ex (some 9) (.call fn_laws_eqTransitionS [.v 6, .v 8]))) K12_4) K12_3) K12_1
@[simp] def W12_5 := @C.wpe _ _ K12_5.eq_1
def K12_6 : C := .seq (.pl <| .st (.ext 5 0) <|
    .st (.act none (.px (some 4) (.mv (.c (.bool false))))) .done) (.ret)
@[simp] def W12_6 := @C.wpe _ _ K12_6.eq_1
def K12_7 : C := .cond 5 (.v 10) K12_6 (.skip)
@[simp] def W12_7 := @C.wpe _ _ K12_7.eq_1
def K12_8 : Pl := .st (.act none (.px (some 10) (.un .not (.v 9)))) .done
@[simp] def W12_8 := @Pl.wpe _ _ K12_8.eq_1
def K12_9 : C := .seq (.seq (.pl <| .st (.ext 5 6) <|
    .st (.act none (.als 5 none 2)) <|
    .st (.act none (.pget (some 6) (some 5) 2 1 none)) <|
    .st (.act none (.als 7 none 3)) <|
    .st (.act none (.pget (some 8) (some 7) 3 1 none)) <|
    .st (.act none (.ex (some 9) (.call fn_laws_eqBoolS [.v 6, .v 8]))) K12_8) K12_7) K12_5
@[simp] def W12_9 := @C.wpe _ _ K12_9.eq_1
def K12_10 : C := .seq (.pl <| .st (.ext 5 0) <|
    .st (.act none (.px (some 4) (.mv (.c (.bool false))))) .done) (.ret)
@[simp] def W12_10 := @C.wpe _ _ K12_10.eq_1
def K12_11 : C := .cond 5 (.v 10) K12_10 (.skip)
@[simp] def W12_11 := @C.wpe _ _ K12_11.eq_1
def K12_12 : Pl := .st (.act none (.px (some 10) (.un .not (.v 9)))) .done
@[simp] def W12_12 := @Pl.wpe _ _ K12_12.eq_1
def K12_13 : C := .seq (.seq (.pl <| .st (.ext 5 6) <|
    .st (.act none (.als 5 none 2)) <|
    .st (.act none (.pget (some 6) (some 5) 2 0 none)) <|
    .st (.act none (.als 7 none 3)) <|
    .st (.act none (.pget (some 8) (some 7) 3 0 none)) <|
    .st (.act none (.ex (some 9) (.call fn_laws_eqIntS [.v 6, .v 8]))) K12_12) K12_11) K12_9
@[simp] def W12_13 := @C.wpe _ _ K12_13.eq_1
def B_laws_eqAutomaton : C := .seq (.pl <| .st (.ext 5 0) <|
    .st (.act none (.pnew 2 (.v 0) [])) <|
    .st (.act none (.pnew 3 (.v 1) [])) <|
    .st (.act none (.px (some 4) (.mv (.c (.bool false))))) .done) K12_13
@[simp] def WB_laws_eqAutomaton := @C.wpe _ _ B_laws_eqAutomaton.eq_1
def R_laws_eqAutomaton : FIR := ⟨B_laws_eqAutomaton, 5, [(4, none)]⟩
theorem IR_laws_eqAutomaton : cfun Try.prog H_laws_eqAutomaton Try.f12 = some R_laws_eqAutomaton := by kernel_rfl
theorem EN_laws_eqAutomaton {args : List Value} {h : Heap} {k : Value → Heap → Prop} (hargs : args.length = 2) (hw : B_laws_eqAutomaton.wp Try.prog (retQ [(4, none)] k) (env0 args 5) h) : CallE Try.prog fn_laws_eqAutomaton args h k := enter Try.func12 rfl IR_laws_eqAutomaton hargs hw

def H_laws_eqBoolS : Hint := ⟨[(0, false), (1, false), (4, false), (5, false)], [[2]]⟩
def K39_1 : C := .seq (.pl <| .st (.ext 4 0) <|
    .st (.act none (.px (some 2) (.mv (.c (.bool true))))) .done) (.ret)
@[simp] def W39_1 := @C.wpe _ _ K39_1.eq_1
def K39_2 : C := .pl <| .st (.ext 4 2) <|
    .st (.act none (.px (some 4) (.mv (.v 3)))) <|
    .st (.act none (.px (some 5) (.bin .add (.v 4) (.c (.int .i64 1))))) <|
    .st (.act none (.px (some 3) (.mv (.v 5)))) .done
@[simp] def W39_2 := @C.wpe _ _ K39_2.eq_1
def K39_3 : C := .seq (.pl <| .st (.ext 4 0) <|
    .st (.act none (.px (some 2) (.mv (.c (.bool false))))) .done) (.ret)
@[simp] def W39_3 := @C.wpe _ _ K39_3.eq_1
def K39_4 : C := .cond 4 (.v 12) K39_3 (.skip)
@[simp] def W39_4 := @C.wpe _ _ K39_4.eq_1
def K39_5 : C := .seq (.block 1 (.seq (.pl <| .st (.ext 4 9) <|
    .st (.act none (.px (some 4) (.mv (.v 0)))) <|
    .st (.act none (.px (some 5) (.mv (.v 3)))) <|
    .st (.act none (.px (some 6) (.ia 1 (.v 4) (.v 5)))) <|
    .st (.act none (.ld (some 7) (.v 6) none)) <|
    .st (.act none (.px (some 8) (.mv (.v 1)))) <|
    .st (.act none (.px (some 9) (.mv (.v 3)))) <|
    .st (.act none (.px (some 10) (.ia 1 (.v 8) (.v 9)))) <|
    .st (.act none (.ld (some 11) (.v 10) none)) <|
    .st (.act none (.px (some 12) (.eqb true (.v 7) (.v 11)))) .done) K39_4)) K39_2
@[simp] def W39_5 := @C.wpe _ _ K39_5.eq_1
def K39_6 : C := .cond 4 (.v 7) (.skip) (.exit 0)
@[simp] def W39_6 := @C.wpe _ _ K39_6.eq_1
def K39_7 : C := .seq (.seq (.pl <| .st (.ext 4 4) <|
    .st (.act none (.px (some 4) (.mv (.v 3)))) <|
    .st (.act none (.px (some 5) (.mv (.v 0)))) <|
    .st (.act none (.px (some 6) (.lenV (.v 5)))) <|
    .st (.act none (.px (some 7) (.bin .lss (.v 4) (.v 6)))) .done) K39_6) K39_5
@[simp] def W39_7 := @C.wpe _ _ K39_7.eq_1
def K39_8 : C := .block 0 (.loop 4 [2] K39_7)
@[simp] def W39_8 := @C.wpe _ _ K39_8.eq_1
def K39_9 : C := .seq (.seq (.pl <| .st (.ext 4 0) <|
    .st (.act none (.px (some 3) (.mv (.c (.int .i64 0))))) .done) K39_8) K39_1
@[simp] def W39_9 := @C.wpe _ _ K39_9.eq_1
def K39_10 : C := .seq (.pl <| .st (.ext 4 0) <|
    .st (.act none (.px (some 2) (.mv (.c (.bool false))))) .done) (.ret)
@[simp] def W39_10 := @C.wpe _ _ K39_10.eq_1
def K39_11 : C := .cond 4 (.v 8) K39_10 (.skip)
@[simp] def W39_11 := @C.wpe _ _ K39_11.eq_1
def K39_12 : C := .seq (.seq (.pl <| .st (.ext 4 5) <|
    .st (.act none (.px (some 4) (.mv (.v 0)))) <|
    .st (.act none (.px (some 5) (.lenV (.v 4)))) <|
    .st (.act none (.px (some 6) (.mv (.v 1)))) <|
    .st (.act none (.px (some 7) (.lenV (.v 6)))) <|
    .st (.act none (.px (some 8) (.bin .neq (.v 5) (.v 7)))) .done) K39_11) K39_9
@[simp] def W39_12 := @C.wpe _ _ K39_12.eq_1
def B_laws_eqBoolS : C := .seq (.pl <| .st (.ext 4 0) <|
    .st (.act none (.px (some 2) (.mv (.c (.bool false))))) .done) K39_12
@[simp] def WB_laws_eqBoolS := @C.wpe _ _ B_laws_eqBoolS.eq_1
def R_laws_eqBoolS : FIR := ⟨B_laws_eqBoolS, 4, [(2, none)]⟩
theorem IR_laws_eqBoolS : cfun Try.prog H_laws_eqBoolS Try.f39 = some R_laws_eqBoolS := by kernel_rfl
theorem EN_laws_eqBoolS {args : List Value} {h : Heap} {k : Value → Heap → Prop} (hargs : args.length = 2) (hw : B_laws_eqBoolS.wp Try.prog (retQ [(2, none)] k) (env0 args 4) h) : CallE Try.prog fn_laws_eqBoolS args h k := enter Try.func39 rfl IR_laws_eqBoolS hargs hw

def H_laws_eqIntS : Hint := ⟨[(0, false), (1, false), (4, false), (5, false)], [[2]]⟩
def K18_1 : C := .seq (.pl <| .st (.ext 4 0) <|
    .st (.act none (.px (some 2) (.mv (.c (.bool true))))) .done) (.ret)
@[simp] def W18_1 := @C.wpe _ _ K18_1.eq_1
def K18_2 : C := .pl <| .st (.ext 4 2) <|
    .st (.act none (.px (some 4) (.mv (.v 3)))) <|
    .st (.act none (.px (some 5) (.bin .add (.v 4) (.c (.int .i64 1))))) <|
    .st (.act none (.px (some 3) (.mv (.v 5)))) .done
@[simp] def W18_2 := @C.wpe _ _ K18_2.eq_1
def K18_3 : C := .seq (.pl <| .st (.ext 4 0) <|
    .st (.act none (.px (some 2) (.mv (.c (.bool false))))) .done) (.ret)
@[simp] def W18_3 := @C.wpe _ _ K18_3.eq_1
def K18_4 : C := .cond 4 (.v 12) K18_3 (.skip)
@[simp] def W18_4 := @C.wpe _ _ K18_4.eq_1
def K18_5 : C := .seq (.block 1 (.seq (.pl <| .st (.ext 4 9) <|
    .st (.act none (.px (some 4) (.mv (.v 0)))) <|
    .st (.act none (.px (some 5) (.mv (.v 3)))) <|
    .st (.act none (.px (some 6) (.ia 1 (.v 4) (.v 5)))) <|
    .st (.act none (.ld (some 7) (.v 6) none)) <|
    .st (.act none (.px (some 8) (.mv (.v 1)))) <|
    .st (.act none (.px (some 9) (.mv (.v 3)))) <|
    .st (.act none (.px (some 10) (.ia 1 (.v 8) (.v 9)))) <|
    .st (.act none (.ld (some 11) (.v 10) none)) <|
    .st (.act none (.px (some 12) (.bin .neq (.v 7) (.v 11)))) .done) K18_4)) K18_2
@[simp] def W18_5 := @C.wpe _ _ K18_5.eq_1
def K18_6 : C := .cond 4 (.v 7) (.skip) (.exit 0)
@[simp] def W18_6 := @C.wpe _ _ K18_6.eq_1
def K18_7 : C := .seq (.seq (.pl <| .st (.ext 4 4) <|
    .st (.act none (.px (some 4) (.mv (.v 3)))) <|
    .st (.act none (.px (some 5) (.mv (.v 0)))) <|
    .st (.act none (.px (some 6) (.lenV (.v 5)))) <|
    .st (.act none (.px (some 7) (.bin .lss (.v 4) (.v 6)))) .done) K18_6) K18_5
@[simp] def W18_7 := @C.wpe _ _ K18_7.eq_1
def K18_8 : C := .block 0 (.loop 4 [2] K18_7)
@[simp] def W18_8 := @C.wpe _ _ K18_8.eq_1
def K18_9 : C := .seq (.seq (.pl <| .st (.ext 4 0) <|
    .st (.act none (.px (some 3) (.mv (.c (.int .i64 0))))) .done) K18_8) K18_1
@[simp] def W18_9 := @C.wpe _ _ K18_9.eq_1
def K18_10 : C := .seq (.pl <| .st (.ext 4 0) <|
    .st (.act none (.px (some 2) (.mv (.c (.bool false))))) .done) (.ret)
@[simp] def W18_10 := @C.wpe _ _ K18_10.eq_1
def K18_11 : C := .cond 4 (.v 8) K18_10 (.skip)
@[simp] def W18_11 := @C.wpe _ _ K18_11.eq_1
def K18_12 : C := .seq (.seq (.pl <| .st (.ext 4 5) <|
    .st (.act none (.px (some 4) (.mv (.v 0)))) <|
    .st (.act none (.px (some 5) (.lenV (.v 4)))) <|
    .st (.act none (.px (some 6) (.mv (.v 1)))) <|
    .st (.act none (.px (some 7) (.lenV (.v 6)))) <|
    .st (.act none (.px (some 8) (.bin .neq (.v 5) (.v 7)))) .done) K18_11) K18_9
@[simp] def W18_12 := @C.wpe _ _ K18_12.eq_1
def B_laws_eqIntS : C := .seq (.pl <| .st (.ext 4 0) <|
    .st (.act none (.px (some 2) (.mv (.c (.bool false))))) .done) K18_12
@[simp] def WB_laws_eqIntS := @C.wpe _ _ B_laws_eqIntS.eq_1
def R_laws_eqIntS : FIR := ⟨B_laws_eqIntS, 4, [(2, none)]⟩
theorem IR_laws_eqIntS : cfun Try.prog H_laws_eqIntS Try.f18 = some R_laws_eqIntS := by kernel_rfl
theorem EN_laws_eqIntS {args : List Value} {h : Heap} {k : Value → Heap → Prop} (hargs : args.length = 2) (hw : B_laws_eqIntS.wp Try.prog (retQ [(2, none)] k) (env0 args 4) h) : CallE Try.prog fn_laws_eqIntS args h k := enter Try.func18 rfl IR_laws_eqIntS hargs hw

def H_laws_eqLasso : Hint := ⟨[(0, false), (1, false), (2, true), (3, true), (4, false)], []⟩
def K27_1 : C := .seq (.pl <| .st (.ext 5 0) <|
    .st (.act none (.px (some 4) (.mv (.c (.bool true))))) .done) (.ret)
@[simp] def W27_1 := @C.wpe _ _ K27_1.eq_1
def K27_2 : C := .seq (.pl <| .st (.ext 5 0) <|
    .st (.act none (.px (some 4) (.mv (.c (.bool false))))) .done) (.ret)
@[simp] def W27_2 := @C.wpe _ _ K27_2.eq_1
def K27_3 : C := .cond 5 (.v 10) K27_2 (.skip)
@[simp] def W27_3 := @C.wpe _ _ K27_3.eq_1
def K27_4 : Pl := .st (.act none (.px (some 10) (.un .not (.v 9)))) .done
@[simp] def W27_4 := @Pl.wpe _ _ K27_4.eq_1
def K27_5 : C := .seq (.seq (.pl <| .st (.ext 5 6) <|
    .st (.act none (.als 5 none 2)) <|
    .st (.act none (.pget (some 6) (some 5) 2 1 none)) <|
    .st (.act none (.als 7 none 3)) <|
    .st (.act none (.pget (some 8) (some 7) 3 1 none)) <|
    .st (.act none (.ex (some 9) (.call fn_laws_eqIntS [.v 6, .v 8]))) K27_4) K27_3) K27_1
@[simp] def W27_5 := @C.wpe _ _ K27_5.eq_1
def K27_6 : C := .seq (.pl <| .st (.ext 5 0) <|
    .st (.act none (.px (some 4) (.mv (.c (.bool false))))) .done) (.ret)
@[simp] def W27_6 := @C.wpe _ _ K27_6.eq_1
def K27_7 : C := .cond 5 (.v 10) K27_6 (.skip)
@[simp] def W27_7 := @C.wpe _ _ K27_7.eq_1
def K27_8 : Pl := .st (.act none (.px (some 10) (.un .not (.v 9)))) .done
@[simp] def W27_8 := @Pl.wpe _ _ K27_8.eq_1
def K27_9 : C := .seq (.seq (.pl <| .st (.ext 5 6) <|
    .st (.act none (.als 5 none 2)) <|
    .st (.act none (.pget (some 6) (some 5) 2 0 none)) <|
    .st (.act none (.als 7 none 3)) <|
    .st (.act none (.pget (some 8) (some 7) 3 0 none)) <|
    .st (.act none (.ex (some 9) (.call fn_laws_eqIntS [.v 6, .v 8]))) K27_8) K27_7) K27_5
@[simp] def W27_9 := @C.wpe _ _ K27_9.eq_1
def B_laws_eqLasso : C := .seq (.pl <| .st (.ext 5 0) <|
    .st (.act none (.pnew 2 (.v 0) [])) <|
    .st (.act none (.pnew 3 (.v 1) [])) <|
    .st (.act none (.px (some 4) (.mv (.c (.bool false))))) .done) K27_9
@[simp] def WB_laws_eqLasso := @C.wpe _ _ B_laws_eqLasso.eq_1
def R_laws_eqLasso : FIR := ⟨B_laws_eqLasso, 5, [(4, none)]⟩
theorem IR_laws_eqLasso : cfun Try.prog H_laws_eqLasso Try.f27 = some R_laws_eqLasso := by kernel_rfl
theorem EN_laws_eqLasso {args : List Value} {h : Heap} {k : Value → Heap → Prop} (hargs : args.length = 2) (hw : B_laws_eqLasso.wp Try.prog (retQ [(4, none)] k) (env0 args 5) h) : CallE Try.prog fn_laws_eqLasso args h k := enter Try.func27 rfl IR_laws_eqLasso hargs hw

def H_laws_eqTransition : Hint := ⟨[(0, false), (1, false), (2, true), (3, true), (4, false)], []⟩
def K72_1 : C := .seq (.pl <| .st (.ext 5 0) <|
    .st (.act none (.px (some 4) (.mv (.c (.bool true))))) .done) (.ret)
@[simp] def W72_1 := @C.wpe _ _ K72_1.eq_1
def K72_2 : C := .seq (.pl <| .st (.ext 5 0) <|
    .st (.act none (.px (some 4) (.mv (.c (.bool false))))) .done) (.ret)
@[simp] def W72_2 := @C.wpe _ _ K72_2.eq_1
def K72_3 : C := .cond 5 (.v 9) K72_2 (.skip)
@[simp] def W72_3 := @C.wpe _ _ K72_3.eq_1
def K72_4 : C := .seq (.seq (.pl <| .st (.ext 5 5) <|
    .st (.act none (.als 5 none 2)) <|
    .st (.act none (.pget (some 6) (some 5) 2 3 none)) <|
    .st (.act none (.als 7 none 3)) <|
    .st (.act none (.pget (some 8) (some 7) 3 3 none)) <|
    .st (.act none (.px (some 9) (.bin .neq (.v 6) (.v 8)))) .done) K72_3) K72_1
@[simp] def W72_4 := @C.wpe _ _ K72_4.eq_1
def K72_5 : C := .seq (.pl <| .st (.ext 5 0) <|
    .st (.act none (.px (some 4) (.mv (.c (.bool false))))) .done) (.ret)
@[simp] def W72_5 := @C.wpe _ _ K72_5.eq_1
def K72_6 : C := .cond 5 (.v 9) K72_5 (.skip)
@[simp] def W72_6 := @C.wpe _ _ K72_6.eq_1
def K72_7 : C := .seq (.seq (.pl <| .st (.ext 5 5) <|
    .st (.act none (.als 5 none 2)) <|
    .st (.act none (.pget (some 6) (some 5) 2 2 none)) <|
    .st (.act none (.als 7 none 3)) <|
    .st (.act none (.pget (some 8) (some 7) 3 2 none)) <|
    .st (.act none (.px (some 9) (.bin .neq (.v 6) (.v 8)))) .done) K72_6) K72_4
@[simp] def W72_7 := @C.wpe _ _ K72_7.eq_1
def K72_8 : C := .seq (.pl <| .st (.ext 5 0) <|
    .st (.act none (.px (some 4) (.mv (.c (.bool false))))) .done) (.ret)
@[simp] def W72_8 := @C.wpe _ _ K72_8.eq_1
def K72_9 : C := .cond 5 (.v 9) K72_8 (.skip)
@[simp] def W72_9 := @C.wpe _ _ K72_9.eq_1
def K72_10 : C := .seq (.seq (.pl <| .st (.ext 5 5) <|
    .st (.act none (.als 5 none 2)) <|
    .st (.act none (.pget (some 6) (some 5) 2 1 none)) <|
    .st (.act none (.als 7 none 3)) <|
    .st (.act none (.pget (some 8) (some 7) 3 1 none)) <|
    .st (.act none (.px (some 9) (.bin .neq (.v 6) (.v 8)))) .done) K72_9) K72_7
@[simp] def W72_10 := @C.wpe _ _ K72_10.eq_1
def K72_11 : C := .seq (.pl <| .st (.ext 5 0) <|
    .st (.act none (.px (some 4) (.mv (.c (.bool false))))) .done) (.ret)
@[simp] def W72_11 := @C.wpe _ _ K72_11.eq_1
def K72_12 : C := .cond 5 (.v 9) K72_11 (.skip)
@[simp] def W72_12 := @C.wpe _ _ K72_12.eq_1
def K72_13 : C := .seq (.seq (.pl <| .st (.ext 5 5) <|
    .st (.act none (.als 5 none 2)) <|
    .st (.act none (.pget (some 6) (some 5) 2 0 none)) <|
    .st (.act none (.als 7 none 3)) <|
    .st (.act none (.pget (some 8) (some 7) 3 0 none)) <|
    .st (.act none (.px (some 9) (.bin .neq (.v 6) (.v 8)))) .done) K72_12) K72_10
@[simp] def W72_13 := @C.wpe _ _ K72_13.eq_1
def B_laws_eqTransition : C := .seq (.pl <| .st (.ext 5 0) <|
    .st (.act none (.pnew 2 (.v 0) [])) <|
    .st (.act none (.pnew 3 (.v 1) [])) <|
    .st (.act none (.px (some 4) (.mv (.c (.bool false))))) .done) K72_13
@[simp] def WB_laws_eqTransition := @C.wpe _ _ B_laws_eqTransition.eq_1
def R_laws_eqTransition : FIR := ⟨B_laws_eqTransition, 5, [(4, none)]⟩
theorem IR_laws_eqTransition : cfun Try.prog H_laws_eqTransition Try.f72 = some R_laws_eqTransition := by kernel_rfl
theorem EN_laws_eqTransition {args : List Value} {h : Heap} {k : Value → Heap → Prop} (hargs : args.length = 2) (hw : B_laws_eqTransition.wp Try.prog (retQ [(4, none)] k) (env0 args 5) h) : CallE Try.prog fn_laws_eqTransition args h k := enter Try.func72 rfl IR_laws_eqTransition hargs hw

def H_laws_eqTransitionS : Hint := ⟨[(0, false), (1, false), (4, false), (5, false)], [[2]]⟩
def K40_1 : C := .seq (.pl <| .st (.ext 4 0) <|
    .st (.act none (.px (some 2) (.mv (.c (.bool true))))) .done) (.ret)
@[simp] def W40_1 := @C.wpe _ _ K40_1.eq_1
def K40_2 : C := .pl <| .st (.ext 4 2) <|
    .st (.act none (.px (some 4) (.mv (.v 3)))) <|
    .st (.act none (.px (some 5) (.bin .add (.v 4) (.c (.int .i64 1))))) <|
    .st (.act none (.px (some 3) (.mv (.v 5)))) .done
@[simp] def W40_2 := @C.wpe _ _ K40_2.eq_1
def K40_3 : C := .seq (.pl <| .st (.ext 4 0) <|
    .st (.act none (.px (some 2) (.mv (.c (.bool false))))) .done) (.ret)
@[simp] def W40_3 := @C.wpe _ _ K40_3.eq_1
def K40_4 : C := .cond 4 (.v 13) K40_3 (.skip)
@[simp] def W40_4 := @C.wpe _ _ K40_4.eq_1
def K40_5 : Pl := .st (.act none (.px (some 13) (.un .not (.v 12)))) .done
@[simp] def W40_5 := @Pl.wpe _ _ K40_5.eq_1
def K40_6 : C := .seq (.block 1 (.seq (.pl <| .st (.ext 4 10) <|
    .st (.act none (.px (some 4) (.mv (.v 0)))) <|
    .st (.act none (.px (some 5) (.mv (.v 3)))) <|
    .st (.act none (.px (some 6) (.ia 4 (.v 4) (.v 5)))) <|
    .st (.act none (.ld (some 7) (.v 6) (some 4))) <|
    .st (.act none (.px (some 8) (.mv (.v 1)))) <|
    .st (.act none (.px (some 9) (.mv (.v 3)))) <|
    .st (.act none (.px (some 10) (.ia 4 (.v 8) (.v 9)))) <|
    .st (.act none (.ld (some 11) (.v 10) (some 4))) <|
    .st (.act none (.ex (some 12) (.call fn_laws_eqTransition [.v 7, .v 11]))) K40_5) K40_4)) K40_2
@[simp] def W40_6 := @C.wpe _ _ K40_6.eq_1
def K40_7 : C := .cond 4 (.v 7) (.skip) (.exit 0)
@[simp] def W40_7 := @C.wpe _ _ K40_7.eq_1
def K40_8 : C := .seq (.seq (.pl <| .st (.ext 4 4) <|
    .st (.act none (.px (some 4) (.mv (.v 3)))) <|
    .st (.act none (.px (some 5) (.mv (.v 0)))) <|
    .st (.act none (.px (some 6) (.lenV (.v 5)))) <|
    .st (.act none (.px (some 7) (.bin .lss (.v 4) (.v 6)))) .done) K40_7) K40_6
@[simp] def W40_8 := @C.wpe _ _ K40_8.eq_1
def K40_9 : C := .block 0 (.loop 4 [2] K40_8)
@[simp] def W40_9 := @C.wpe _ _ K40_9.eq_1
def K40_10 : C := .seq (.seq (.pl <| .st (.ext 4 0) <|
    .st (.act none (.px (some 3) (.mv (.c (.int .i64 0))))) .done) K40_9) K40_1
@[simp] def W40_10 := @C.wpe _ _ K40_10.eq_1
def K40_11 : C := .seq (.pl <| .st (.ext 4 0) <|
    .st (.act none (.px (some 2) (.mv (.c (.bool false))))) .done) (.ret)
@[simp] def W40_11 := @C.wpe _ _ K40_11.eq_1
def K40_12 : C := .cond 4 (.v 8) K40_11 (.skip)
@[simp] def W40_12 := @C.wpe _ _ K40_12.eq_1
def K40_13 : C := .seq (.seq (.pl <| .st (.ext 4 5) <|
    .st (.act none (.px (some 4) (.mv (.v 0)))) <|
    .st (.act none (.px (some 5) (.lenV (.v 4)))) <|
    .st (.act none (.px (some 6) (.mv (.v 1)))) <|
    .st (.act none (.px (some 7) (.lenV (.v 6)))) <|
    .st (.act none (.px (some 8) (.bin .neq (.v 5) (.v 7)))) .done) K40_12) K40_10
@[simp] def W40_13 := @C.wpe _ _ K40_13.eq_1
def B_laws_eqTransitionS : C := .seq (.pl <| .st (.ext 4 0) <|
    .st (.act none (.px (some 2) (.mv (.c (.bool false))))) .done) K40_13
@[simp] def WB_laws_eqTransitionS := @C.wpe _ _ B_laws_eqTransitionS.eq_1
def R_laws_eqTransitionS : FIR := ⟨B_laws_eqTransitionS, 4, [(2, none)]⟩
theorem IR_laws_eqTransitionS : cfun Try.prog H_laws_eqTransitionS Try.f40 = some R_laws_eqTransitionS := by kernel_rfl
theorem EN_laws_eqTransitionS {args : List Value} {h : Heap} {k : Value → Heap → Prop} (hargs : args.length = 2) (hw : B_laws_eqTransitionS.wp Try.prog (retQ [(2, none)] k) (env0 args 4) h) : CallE Try.prog fn_laws_eqTransitionS args h k := enter Try.func40 rfl IR_laws_eqTransitionS hargs hw

def H_laws_heldAutomaton : Hint := ⟨[(0, false), (1, false), (2, true), (4, false)], []⟩
def K14_1 : C := .seq (.pl <| .st (.ext 4 1) <|
    .st (.act none (.px (some 4) (.mv (.v 1)))) <|
    .st (.act none (.px (some 3) (.mv (.v 4)))) .done) (.ret)
@[simp] def W14_1 := @C.wpe _ _ K14_1.eq_1
def K14_2 : C := .seq (.pl <| .st (.ext 4 0) <|
    .st (.act none (.px (some 3) (.mv (.c (.int .i64 (-1)))))) .done) (.ret)
@[simp] def W14_2 := @C.wpe _ _ K14_2.eq_1
def K14_3 : C := .cond 4 (.v 5) K14_2 (.skip)
@[simp] def W14_3 := @C.wpe _ _ K14_3.eq_1
def K14_4 : C := .seq (.seq (.pl <| .st (.ext 4 2) <|
    .st (.act none (.px (some 4) (.mv (.v 1)))) <|
    .st (.act none (.px (some 5) (.bin .lss (.v 4) (.c (.int .i64 0))))) .done) K14_3) K14_1
@[simp] def W14_4 := @C.wpe _ _ K14_4.eq_1
def K14_5 : Pl := .st (.act none (.px (some 1) (.mv (.v 7)))) .done
@[simp] def W14_5 := @Pl.wpe _ _ K14_5.eq_1
def K14_6 : C := .seq (.pl <| .st (.ext 4 4) <|
    .st (.act none (.als 4 none 2)) <|
    .st (.act none (.pget (some 5) (some 4) 2 2 none)) <|
    .st (.act none (.px (some 6) (.mv (.v 1)))) <|
    .st (.act none (.ex (some 7) (.call fn_laws_heldTransitionS [.v 5, .v 6]))) K14_5) K14_4
@[simp] def W14_6 := @C.wpe _ _ K14_6.eq_1
def K14_7 : C := .seq (.pl <| .st (.ext 4 0) <|
    .st (.act none (.px (some 3) (.mv (.c (.int .i64 (-1)))))) .done) (.ret)
@[simp] def W14_7 := @C.wpe _ _ K14_7.eq_1
def K14_8 : C := .cond 4 (.v 5) K14_7 (.skip)
@[simp] def W14_8 := @C.wpe _ _ K14_8.eq_1
def K14_9 : C := .seq (.seq (.pl <| .st (.ext 4 2) <|
    .st (.act none (.px (some 4) (.mv (.v 1)))) <|
    .st (.act none (.px (some 5) (.bin .lss (.v 4) (.c (.int .i64 0))))) .done) K14_8) K14_6
@[simp] def W14_9 := @C.wpe _ _ K14_9.eq_1
def K14_10 : Pl := .st (.act none (.px (some 1) (.mv (.v 7)))) .done
@[simp] def W14_10 := @Pl.wpe _ _ K14_10.eq_1
def K14_11 : C := .seq (.pl <| .st (.ext 4 4) <|
    .st (.act none (.als 4 none 2)) <|
    .st (.act none (.pget (some 5) (some 4) 2 1 none)) <|
    .st (.act none (.px (some 6) (.mv (.v 1)))) <|
    .st (.act none (.ex (some 7) (.call fn_laws_heldBoolS [.v 5, .v 6]))) K14_10) K14_9
@[simp] def W14_11 := @C.wpe _ _ K14_11.eq_1
def K14_12 : C := .seq (.pl <| .st (.ext 4 0) <|
    .st (.act none (.px (some 3) (.mv (.c (.int .i64 (-1)))))) .done) (.ret)
@[simp] def W14_12 := @C.wpe _ _ K14_12.eq_1
def K14_13 : C := .cond 4 (.v 5) K14_12 (.skip)
@[simp] def W14_13 := @C.wpe _ _ K14_13.eq_1
def K14_14 : C := .seq (.seq (.pl <| .st (.ext 4 2) <|
    .st (.act none (.px (some 4) (.mv (.v 1)))) <|
    .st (.act none (.px (some 5) (.bin .lss (.v 4) (.c (.int .i64 0))))) .done) K14_13) K14_11
@[simp] def W14_14 := @C.wpe _ _ K14_14.eq_1
def K14_15 : Pl := .st (.act none (.px (some 1) (.mv (.v 7)))) .done
@[simp] def W14_15 := @Pl.wpe _ _ K14_15.eq_1
def K14_16 : C := .seq (.pl <| .st (.ext 4 4) <|
    .st (.act none (.als 4 none 2)) <|
    .st (.act none (.pget (some 5) (some 4) 2 0 none)) <|
    .st (.act none (.px (some 6) (.mv (.v 1)))) <|
    .st (.act none (.ex (some 7) (.call fn_laws_heldIntS [.v 5, .v 6]))) K14_15) K14_14
@[simp] def W14_16 := @C.wpe _ _ K14_16.eq_1
def B_laws_heldAutomaton : C := .seq (.pl <| .st (.ext 4 0) <|
    .st (.act none (.pnew 2 (.v 0) [])) <|
    .st (.act none (.px (some 3) (.mv (.c (.int .i64 0))))) .done) K14_16
@[simp] def WB_laws_heldAutomaton := @C.wpe _ _ B_laws_heldAutomaton.eq_1
def R_laws_heldAutomaton : FIR := ⟨B_laws_heldAutomaton, 4, [(3, none)]⟩
theorem IR_laws_heldAutomaton : cfun Try.prog H_laws_heldAutomaton Try.f14 = some R_laws_heldAutomaton := by kernel_rfl
theorem EN_laws_heldAutomaton {args : List Value} {h : Heap} {k : Value → Heap → Prop} (hargs : args.length = 2) (hw : B_laws_heldAutomaton.wp Try.prog (retQ [(3, none)] k) (env0 args 4) h) : CallE Try.prog fn_laws_heldAutomaton args h k := enter Try.func14 rfl IR_laws_heldAutomaton hargs hw

def H_laws_heldBoolS : Hint := ⟨[(0, false), (1, false), (4, false), (5, false)], [[2]]⟩
def K43_1 : C := .seq (.pl <| .st (.ext 4 1) <|
    .st (.act none (.px (some 4) (.mv (.v 1)))) <|
    .st (.act none (.px (some 2) (.mv (.v 4)))) .done) (.ret)
@[simp] def W43_1 := @C.wpe _ _ K43_1.eq_1
def K43_2 : C := .pl <| .st (.ext 4 2) <|
    .st (.act none (.px (some 4) (.mv (.v 3)))) <|
    .st (.act none (.px (some 5) (.bin .add (.v 4) (.c (.int .i64 1))))) <|
    .st (.act none (.px (some 3) (.mv (.v 5)))) .done
@[simp] def W43_2 := @C.wpe _ _ K43_2.eq_1
def K43_3 : C := .pl <| .st (.ext 4 2) <|
    .st (.act none (.px (some 4) (.mv (.v 1)))) <|
    .st (.act none (.px (some 5) (.bin .add (.v 4) (.c (.int .i64 1))))) <|
    .st (.act none (.px (some 1) (.mv (.v 5)))) .done
@[simp] def W43_3 := @C.wpe _ _ K43_3.eq_1
def K43_4 : C := .seq (.pl <| .st (.ext 4 0) <|
    .st (.act none (.px (some 2) (.mv (.c (.int .i64 (-1)))))) .done) (.ret)
@[simp] def W43_4 := @C.wpe _ _ K43_4.eq_1
def K43_5 : C := .cond 4 (.v 11) K43_4 (.skip)
@[simp] def W43_5 := @C.wpe _ _ K43_5.eq_1
def K43_6 : C := .seq (.block 1 (.seq (.seq (.pl <| .st (.ext 4 8) <|
    .st (.act none (.px (some 4) (.mv (.v 0)))) <|
    .st (.act none (.px (some 5) (.mv (.v 3)))) <|
    .st (.act none (.px (some 6) (.ia 1 (.v 4) (.v 5)))) <|
    .st (.act none (.ld (some 7) (.v 6) none)) <|
    .st (.act none (.px (some 8) (.mv (.v 1)))) <|
    .st (.act none (.px (some 9) (.bin .rem (.v 8) (.c (.int .i64 3))))) <|
    .st (.act none (.px (some 10) (.bin .eql (.v 9) (.c (.int .i64 0))))) <|
    .st (.act none (.px (some 11) (.eqb true (.v 7) (.v 10)))) .done) K43_5) K43_3)) K43_2
@[simp] def W43_6 := @C.wpe _ _ K43_6.eq_1
def K43_7 : C := .cond 4 (.v 7) (.skip) (.exit 0)
@[simp] def W43_7 := @C.wpe _ _ K43_7.eq_1
def K43_8 : C := .seq (.seq (.pl <| .st (.ext 4 4) <|
    .st (.act none (.px (some 4) (.mv (.v 3)))) <|
    .st (.act none (.px (some 5) (.mv (.v 0)))) <|
    .st (.act none (.px (some 6) (.lenV (.v 5)))) <|
    .st (.act none (.px (some 7) (.bin .lss (.v 4) (.v 6)))) .done) K43_7) K43_6
@[simp] def W43_8 := @C.wpe _ _ K43_8.eq_1
def K43_9 : C := .block 0 (.loop 4 [2] K43_8)
@[simp] def W43_9 := @C.wpe _ _ K43_9.eq_1
def K43_10 : C := .seq (.seq (.pl <| .st (.ext 4 0) <|
    .st (.act none (.px (some 3) (.mv (.c (.int .i64 0))))) .done) K43_9) K43_1
@[simp] def W43_10 := @C.wpe _ _ K43_10.eq_1
def B_laws_heldBoolS : C := .seq (.pl <| .st (.ext 4 0) <|
    .st (.act none (.px (some 2) (.mv (.c (.int .i64 0))))) .done) K43_10
@[simp] def WB_laws_heldBoolS := @C.wpe _ _ B_laws_heldBoolS.eq_1
def R_laws_heldBoolS : FIR := ⟨B_laws_heldBoolS, 4, [(2, none)]⟩
theorem IR_laws_heldBoolS : cfun Try.prog H_laws_heldBoolS Try.f43 = some R_laws_heldBoolS := by kernel_rfl
theorem EN_laws_heldBoolS {args : List Value} {h : Heap} {k : Value → Heap → Prop} (hargs : args.length = 2) (hw : B_laws_heldBoolS.wp Try.prog (retQ [(2, none)] k) (env0 args 4) h) : CallE Try.prog fn_laws_heldBoolS args h k := enter Try.func43 rfl IR_laws_heldBoolS hargs hw

def H_laws_heldIntS : Hint := ⟨[(0, false), (1, false), (4, false), (5, false)], [[2]]⟩
def K20_1 : C := .seq (.pl <| .st (.ext 4 1) <|
    .st (.act none (.px (some 4) (.mv (.v 1)))) <|
    .st (.act none (.px (some 2) (.mv (.v 4)))) .done) (.ret)
@[simp] def W20_1 := @C.wpe _ _ K20_1.eq_1
def K20_2 : C := .pl <| .st (.ext 4 2) <|
    .st (.act none (.px (some 4) (.mv (.v 3)))) <|
    .st (.act none (.px (some 5) (.bin .add (.v 4) (.c (.int .i64 1))))) <|
    .st (.act none (.px (some 3) (.mv (.v 5)))) .done
@[simp] def W20_2 := @C.wpe _ _ K20_2.eq_1
def K20_3 : C := .pl <| .st (.ext 4 2) <|
    .st (.act none (.px (some 4) (.mv (.v 1)))) <|
    .st (.act none (.px (some 5) (.bin .add (.v 4) (.c (.int .i64 1))))) <|
    .st (.act none (.px (some 1) (.mv (.v 5)))) .done
@[simp] def W20_3 := @C.wpe _ _ K20_3.eq_1
def K20_4 : C := .seq (.pl <| .st (.ext 4 0) <|
    .st (.act none (.px (some 2) (.mv (.c (.int .i64 (-1)))))) .done) (.ret)
@[simp] def W20_4 := @C.wpe _ _ K20_4.eq_1
def K20_5 : C := .cond 4 (.v 9) K20_4 (.skip)
@[simp] def W20_5 := @C.wpe _ _ K20_5.eq_1
def K20_6 : C := .seq (.block 1 (.seq (.seq (.pl <| .st (.ext 4 6) <|
    .st (.act none (.px (some 4) (.mv (.v 0)))) <|
    .st (.act none (.px (some 5) (.mv (.v 3)))) <|
    .st (.act none (.px (some 6) (.ia 1 (.v 4) (.v 5)))) <|
    .st (.act none (.ld (some 7) (.v 6) none)) <|
    .st (.act none (.px (some 8) (.mv (.v 1)))) <|
    .st (.act none (.px (some 9) (.bin .neq (.v 7) (.v 8)))) .done) K20_5) K20_3)) K20_2
@[simp] def W20_6 := @C.wpe _ _ K20_6.eq_1
def K20_7 : C := .cond 4 (.v 7) (.skip) (.exit 0)
@[simp] def W20_7 := @C.wpe _ _ K20_7.eq_1
def K20_8 : C := .seq (.seq (.pl <| .st (.ext 4 4) <|
    .st (.act none (.px (some 4) (.mv (.v 3)))) <|
    .st (.act none (.px (some 5) (.mv (.v 0)))) <|
    .st (.act none (.px (some 6) (.lenV (.v 5)))) <|
    .st (.act none (.px (some 7) (.bin .lss (.v 4) (.v 6)))) .done) K20_7) K20_6
@[simp] def W20_8 := @C.wpe _ _ K20_8.eq_1
def K20_9 : C := .block 0 (.loop 4 [2] K20_8)
@[simp] def W20_9 := @C.wpe _ _ K20_9.eq_1
def K20_10 : C := .seq (.seq (.pl <| .st (.ext 4 0) <|
    .st (.act none (.px (some 3) (.mv (.c (.int .i64 0))))) .done) K20_9) K20_1
@[simp] def W20_10 := @C.wpe _ _ K20_10.eq_1
def B_laws_heldIntS : C := .seq (.pl <| .st (.ext 4 0) <|
    .st (.act none (.px (some 2) (.mv (.c (.int .i64 0))))) .done) K20_10
@[simp] def WB_laws_heldIntS := @C.wpe _ _ B_laws_heldIntS.eq_1
def R_laws_heldIntS : FIR := ⟨B_laws_heldIntS, 4, [(2, none)]⟩
theorem IR_laws_heldIntS : cfun Try.prog H_laws_heldIntS Try.f20 = some R_laws_heldIntS := by kernel_rfl
theorem EN_laws_heldIntS {args : List Value} {h : Heap} {k : Value → Heap → Prop} (hargs : args.length = 2) (hw : B_laws_heldIntS.wp Try.prog (retQ [(2, none)] k) (env0 args 4) h) : CallE Try.prog fn_laws_heldIntS args h k := enter Try.func20 rfl IR_laws_heldIntS hargs hw

def H_laws_heldLasso : Hint := ⟨[(0, false), (1, false), (2, true), (4, false)], []⟩
def K29_1 : C := .seq (.pl <| .st (.ext 4 1) <|
    .st (.act none (.px (some 4) (.mv (.v 1)))) <|
    .st (.act none (.px (some 3) (.mv (.v 4)))) .done) (.ret)
@[simp] def W29_1 := @C.wpe _ _ K29_1.eq_1
def K29_2 : C := .seq (.pl <| .st (.ext 4 0) <|
    .st (.act none (.px (some 3) (.mv (.c (.int .i64 (-1)))))) .done) (.ret)
@[simp] def W29_2 := @C.wpe _ _ K29_2.eq_1
def K29_3 : C := .cond 4 (.v 5) K29_2 (.skip)
@[simp] def W29_3 := @C.wpe _ _ K29_3.eq_1
def K29_4 : C := .seq (.seq (.pl <| .st (.ext 4 2) <|
    .st (.act none (.px (some 4) (.mv (.v 1)))) <|
    .st (.act none (.px (some 5) (.bin .lss (.v 4) (.c (.int .i64 0))))) .done) K29_3) K29_1
@[simp] def W29_4 := @C.wpe _ _ K29_4.eq_1
def K29_5 : Pl := .st (.act none (.px (some 1) (.mv (.v 7)))) .done
@[simp] def W29_5 := @Pl.wpe _ _ K29_5.eq_1
def K29_6 : C := .seq (.pl <| .st (.ext 4 4) <|
    .st (.act none (.als 4 none 2)) <|
    .st (.act none (.pget (some 5) (some 4) 2 1 none)) <|
    .st (.act none (.px (some 6) (.mv (.v 1)))) <|
    .st (.act none (.ex (some 7) (.call fn_laws_heldIntS [.v 5, .v 6]))) K29_5) K29_4
@[simp] def W29_6 := @C.wpe _ _ K29_6.eq_1
def K29_7 : C := .seq (.pl <| .st (.ext 4 0) <|
    .st (.act none (.px (some 3) (.mv (.c (.int .i64 (-1)))))) .done) (.ret)
@[simp] def W29_7 := @C.wpe _ _ K29_7.eq_1
def K29_8 : C := .cond 4 (.v 5) K29_7 (.skip)
@[simp] def W29_8 := @C.wpe _ _ K29_8.eq_1
def K29_9 : C := .seq (.seq (.pl <| .st (.ext 4 2) <|
    .st (.act none (.px (some 4) (.mv (.v 1)))) <|
    .st (.act none (.px (some 5) (.bin .lss (.v 4) (.c (.int .i64 0))))) .done) K29_8) K29_6
@[simp] def W29_9 := @C.wpe _ _ K29_9.eq_1
def K29_10 : Pl := .st (.act none (.px (some 1) (.mv (.v 7)))) .done
@[simp] def W29_10 := @Pl.wpe _ _ K29_10.eq_1
def K29_11 : C := .seq (.pl <| .st (.ext 4 4) <|
    .st (.act none (.als 4 none 2)) <|
    .st (.act none (.pget (some 5) (some 4) 2 0 none)) <|
    .st (.act none (.px (some 6) (.mv (.v 1)))) <|
    .st (.act none (.ex (some 7) (.call fn_laws_heldIntS [.v 5, .v 6]))) K29_10) K29_9
@[simp] def W29_11 := @C.wpe _ _ K29_11.eq_1
def B_laws_heldLasso : C := .seq (.pl <| .st (.ext 4 0) <|
    .st (.act none (.pnew 2 (.v 0) [])) <|
    .st (.act none (.px (some 3) (.mv (.c (.int .i64 0))))) .done) K29_11
@[simp] def WB_laws_heldLasso := @C.wpe _ _ B_laws_heldLasso.eq_1
def R_laws_heldLasso : FIR := ⟨B_laws_heldLasso, 4, [(3, none)]⟩
theorem IR_laws_heldLasso : cfun Try.prog H_laws_heldLasso Try.f29 = some R_laws_heldLasso := by kernel_rfl
theorem EN_laws_heldLasso {args : List Value} {h : Heap} {k : Value → Heap → Prop} (hargs : args.length = 2) (hw : B_laws_heldLasso.wp Try.prog (retQ [(3, none)] k) (env0 args 4) h) : CallE Try.prog fn_laws_heldLasso args h k := enter Try.func29 rfl IR_laws_heldLasso hargs hw

def H_laws_heldTransitionS : Hint := ⟨[(0, false), (1, false), (4, false), (5, false)], [[2]]⟩
def K44_1 : C := .seq (.pl <| .st (.ext 4 1) <|
    .st (.act none (.px (some 4) (.mv (.v 1)))) <|
    .st (.act none (.px (some 2) (.mv (.v 4)))) .done) (.ret)
@[simp] def W44_1 := @C.wpe _ _ K44_1.eq_1
def K44_2 : C := .pl <| .st (.ext 4 2) <|
    .st (.act none (.px (some 4) (.mv (.v 3)))) <|
    .st (.act none (.px (some 5) (.bin .add (.v 4) (.c (.int .i64 1))))) <|
    .st (.act none (.px (some 3) (.mv (.v 5)))) .done
@[simp] def W44_2 := @C.wpe _ _ K44_2.eq_1
def K44_3 : C := .pl <| .st (.ext 4 2) <|
    .st (.act none (.px (some 4) (.mv (.v 1)))) <|
    .st (.act none (.px (some 5) (.bin .add (.v 4) (.c (.int .i64 1))))) <|
    .st (.act none (.px (some 1) (.mv (.v 5)))) .done
@[simp] def W44_3 := @C.wpe _ _ K44_3.eq_1
def K44_4 : C := .seq (.pl <| .st (.ext 4 0) <|
    .st (.act none (.px (some 2) (.mv (.c (.int .i64 (-1)))))) .done) (.ret)
@[simp] def W44_4 := @C.wpe _ _ K44_4.eq_1
def K44_5 : C := .cond 4 (.v 10) K44_4 (.skip)
@[simp] def W44_5 := @C.wpe _ _ K44_5.eq_1
def K44_6 : C := .seq (.seq (.pl <| .st (.ext 4 7) <|
    .st (.act none (.px (some 4) (.mv (.v 0)))) <|
    .st (.act none (.px (some 5) (.mv (.v 3)))) <|
    .st (.act none (.px (some 6) (.ia 4 (.v 4) (.v 5)))) <|
    .st (.act none (.px (some 7) (.fa 3 (.v 6)))) <|
    .st (.act none (.ld (some 8) (.v 7) none)) <|
    .st (.act none (.px (some 9) (.mv (.v 1)))) <|
    .st (.act none (.px (some 10) (.bin .neq (.v 8) (.v 9)))) .done) K44_5) K44_3
@[simp] def W44_6 := @C.wpe _ _ K44_6.eq_1
def K44_7 : C := .seq (.pl <| .st (.ext 4 2) <|
    .st (.act none (.px (some 4) (.mv (.v 1)))) <|
    .st (.act none (.px (some 5) (.bin .add (.v 4) (.c (.int .i64 1))))) <|
    .st (.act none (.px (some 1) (.mv (.v 5)))) .done) K44_6
@[simp] def W44_7 := @C.wpe _ _ K44_7.eq_1
def K44_8 : C := .seq (.pl <| .st (.ext 4 0) <|
    .st (.act none (.px (some 2) (.mv (.c (.int .i64 (-1)))))) .done) (.ret)
@[simp] def W44_8 := @C.wpe _ _ K44_8.eq_1
def K44_9 : C := .cond 4 (.v 10) K44_8 (.skip)
@[simp] def W44_9 := @C.wpe _ _ K44_9.eq_1
def K44_10 : C := .seq (.seq (.pl <| .st (.ext 4 7) <|
    .st (.act none (.px (some 4) (.mv (.v 0)))) <|
    .st (.act none (.px (some 5) (.mv (.v 3)))) <|
    .st (.act none (.px (some 6) (.ia 4 (.v 4) (.v 5)))) <|
    .st (.act none (.px (some 7) (.fa 2 (.v 6)))) <|
    .st (.act none (.ld (some 8) (.v 7) none)) <|
    .st (.act none (.px (some 9) (.mv (.v 1)))) <|
    .st (.act none (.px (some 10) (.bin .neq (.v 8) (.v 9)))) .done) K44_9) K44_7
@[simp] def W44_10 := @C.wpe _ _ K44_10.eq_1
def K44_11 : C := .seq (.pl <| .st (.ext 4 2) <|
    .st (.act none (.px (some 4) (.mv (.v 1)))) <|
    .st (.act none (.px (some 5) (.bin .add (.v 4) (.c (.int .i64 1))))) <|
    .st (.act none (.px (some 1) (.mv (.v 5)))) .done) K44_10
@[simp] def W44_11 := @C.wpe _ _ K44_11.eq_1
def K44_12 : C := .seq (.pl <| .st (.ext 4 0) <|
    .st (.act none (.px (some 2) (.mv (.c (.int .i64 (-1)))))) .done) (.ret)
@[simp] def W44_12 := @C.wpe _ _ K44_12.eq_1
def K44_13 : C := .cond 4 (.v 10) K44_12 (.skip)
@[simp] def W44_13 := @C.wpe _ _ K44_13.eq_1
def K44_14 : C := .seq (.seq (.pl <| .st (.ext 4 7) <|
    .st (.act none (.px (some 4) (.mv (.v 0)))) <|
    .st (.act none (.px (some 5) (.mv (.v 3)))) <|
    .st (.act none (.px (some 6) (.ia 4 (.v 4) (.v 5)))) <|
    .st (.act none (.px (some 7) (.fa 1 (.v 6)))) <|
    .st (.act none (.ld (some 8) (.v 7) none)) <|
    .st (.act none (.px (some 9) (.mv (.v 1)))) <|
    .st (.act none (.px (some 10) (.bin .neq (.v 8) (.v 9)))) .done) K44_13) K44_11
@[simp] def W44_14 := @C.wpe _ _ K44_14.eq_1
def K44_15 : C := .seq (.pl <| .st (.ext 4 2) <|
    .st (.act none (.px (some 4) (.mv (.v 1)))) <|
    .st (.act none (.px (some 5) (.bin .add (.v 4) (.c (.int .i64 1))))) <|
    .st (.act none (.px (some 1) (.mv (.v 5)))) .done) K44_14
@[simp] def W44_15 := @C.wpe _ _ K44_15.eq_1
def K44_16 : C := .seq (.pl <| .st (.ext 4 0) <|
    .st (.act none (.px (some 2) (.mv (.c (.int .i64 (-1)))))) .done) (.ret)
@[simp] def W44_16 := @C.wpe _ _ K44_16.eq_1
def K44_17 : C := .cond 4 (.v 10) K44_16 (.skip)
@[simp] def W44_17 := @C.wpe _ _ K44_17.eq_1
def K44_18 : C := .seq (.block 1 (.seq (.seq (.pl <| .st (.ext 4 7) <|
    .st (.act none (.px (some 4) (.mv (.v 0)))) <|
    .st (.act none (.px (some 5) (.mv (.v 3)))) <|
    .st (.act none (.px (some 6) (.ia 4 (.v 4) (.v 5)))) <|
    .st (.act none (.px (some 7) (.fa 0 (.v 6)))) <|
    .st (.act none (.ld (some 8) (.v 7) none)) <|
    .st (.act none (.px (some 9) (.mv (.v 1)))) <|
    .st (.act none (.px (some 10) (.bin .neq (.v 8) (.v 9)))) .done) K44_17) K44_15)) K44_2
@[simp] def W44_18 := @C.wpe _ _ K44_18.eq_1
def K44_19 : C := .cond 4 (.v 7) (.skip) (.exit 0)
@[simp] def W44_19 := @C.wpe _ _ K44_19.eq_1
def K44_20 : C := .seq (.seq (.pl <| .st (.ext 4 4) <|
    .st (.act none (.px (some 4) (.mv (.v 3)))) <|
    .st (.act none (.px (some 5) (.mv (.v 0)))) <|
    .st (.act none (.px (some 6) (.lenV (.v 5)))) <|
    .st (.act none (.px (some 7) (.bin .lss (.v 4) (.v 6)))) .done) K44_19) K44_18
@[simp] def W44_20 := @C.wpe _ _ K44_20.eq_1
def K44_21 : C := .block 0 (.loop 4 [2] K44_20)
@[simp] def W44_21 := @C.wpe _ _ K44_21.eq_1
def K44_22 : C := .seq (.seq (.pl <| .st (.ext 4 0) <|
    .st (.act none (.px (some 3) (.mv (.c (.int .i64 0))))) .done) K44_21) K44_1
@[simp] def W44_22 := @C.wpe _ _ K44_22.eq_1
def B_laws_heldTransitionS : C := .seq (.pl <| .st (.ext 4 0) <|
    .st (.act none (.px (some 2) (.mv (.c (.int .i64 0))))) .done) K44_22
@[simp] def WB_laws_heldTransitionS := @C.wpe _ _ B_laws_heldTransitionS.eq_1
def R_laws_heldTransitionS : FIR := ⟨B_laws_heldTransitionS, 4, [(2, none)]⟩
theorem IR_laws_heldTransitionS : cfun Try.prog H_laws_heldTransitionS Try.f44 = some R_laws_heldTransitionS := by kernel_rfl
theorem EN_laws_heldTransitionS {args : List Value} {h : Heap} {k : Value → Heap → Prop} (hargs : args.length = 2) (hw : B_laws_heldTransitionS.wp Try.prog (retQ [(2, none)] k) (env0 args 4) h) : CallE Try.prog fn_laws_heldTransitionS args h k := enter Try.func44 rfl IR_laws_heldTransitionS hargs hw

def H_laws_markAutomaton : Hint := ⟨[(0, false), (1, false), (2, true), (4, false)], []⟩
def K13_1 : C := .seq (.pl <| .st (.ext 4 1) <|
    .st (.act none (.px (some 4) (.mv (.v 1)))) <|
    .st (.act none (.px (some 3) (.mv (.v 4)))) .done) (.ret)
@[simp] def W13_1 := @C.wpe _ _ K13_1.eq_1
def K13_2 : Pl := .st (.act none (.px (some 1) (.mv (.v 7)))) .done
@[simp] def W13_2 := @Pl.wpe _ _ K13_2.eq_1
def K13_3 : C := .seq (.pl <| .st (.ext 4 4) <|
    .st (.act none (.als 4 none 2)) <|
    .st (.act none (.pget (some 5) (some 4) 2 2 none)) <|
    .st (.act none (.px (some 6) (.mv (.v 1)))) <|
    .st (.act none (.ex (some 7) (.call fn_laws_markTransitionS [.v 5, .v 6]))) K13_2) K13_1
@[simp] def W13_3 := @C.wpe _ _ K13_3.eq_1
def K13_4 : Pl := .st (.act none (.px (some 1) (.mv (.v 7)))) .done
@[simp] def W13_4 := @Pl.wpe _ _ K13_4.eq_1
def K13_5 : C := .seq (.pl <| .st (.ext 4 4) <|
    .st (.act none (.als 4 none 2)) <|
    .st (.act none (.pget (some 5) (some 4) 2 1 none)) <|
    .st (.act none (.px (some 6) (.mv (.v 1)))) <|
    .st (.act none (.ex (some 7) (.call fn_laws_markBoolS [.v 5, .v 6]))) K13_4) K13_3
@[simp] def W13_5 := @C.wpe _ _ K13_5.eq_1
def K13_6 : Pl := .st (.act none (.px (some 1) (.mv (.v 7)))) .done
@[simp] def W13_6 := @Pl.wpe _ _ K13_6.eq_1
def K13_7 : C := .seq (.pl <| .st (.ext 4 4) <|
    .st (.act none (.als 4 none 2)) <|
    .st (.act none (.pget (some 5) (some 4) 2 0 none)) <|
    .st (.act none (.px (some 6) (.mv (.v 1)))) <|
    .st (.act none (.ex (some 7) (.call fn_laws_markIntS [.v 5, .v 6]))) K13_6) K13_5
@[simp] def W13_7 := @C.wpe _ _ K13_7.eq_1
def B_laws_markAutomaton : C := .seq (.pl <| .st (.ext 4 0) <|
    .st (.act none (.pnew 2 (.v 0) [])) <|
    .st (.act none (.px (some 3) (.mv (.c (.int .i64 0))))) .done) K13_7
@[simp] def WB_laws_markAutomaton := @C.wpe _ _ B_laws_markAutomaton.eq_1
def R_laws_markAutomaton : FIR := ⟨B_laws_markAutomaton, 4, [(3, none)]⟩
theorem IR_laws_markAutomaton : cfun Try.prog H_laws_markAutomaton Try.f13 = some R_laws_markAutomaton := by kernel_rfl
theorem EN_laws_markAutomaton {args : List Value} {h : Heap} {k : Value → Heap → Prop} (hargs : args.length = 2) (hw : B_laws_markAutomaton.wp Try.prog (retQ [(3, none)] k) (env0 args 4) h) : CallE Try.prog fn_laws_markAutomaton args h k := enter Try.func13 rfl IR_laws_markAutomaton hargs hw

def H_laws_markBoolS : Hint := ⟨[(0, false), (1, false), (4, false), (5, false)], [[2]]⟩
def K41_1 : C := .seq (.pl <| .st (.ext 4 1) <|
    .st (.act none (.px (some 4) (.mv (.v 1)))) <|
    .st (.act none (.px (some 2) (.mv (.v 4)))) .done) (.ret)
@[simp] def W41_1 := @C.wpe _ _ K41_1.eq_1
def K41_2 : C := .pl <| .st (.ext 4 2) <|
    .st (.act none (.px (some 4) (.mv (.v 3)))) <|
    .st (.act none (.px (some 5) (.bin .add (.v 4) (.c (.int .i64 1))))) <|
    .st (.act none (.px (some 3) (.mv (.v 5)))) .done
@[simp] def W41_2 := @C.wpe _ _ K41_2.eq_1
def K41_3 : C := .pl <| .st (.ext 4 2) <|
    .st (.act none (.px (some 4) (.mv (.v 1)))) <|
    .st (.act none (.px (some 5) (.bin .add (.v 4) (.c (.int .i64 1))))) <|
    .st (.act none (.px (some 1) (.mv (.v 5)))) .done
@[simp] def W41_3 := @C.wpe _ _ K41_3.eq_1
def K41_4 : C := .seq (.block 1 (.seq (.pl <| .st (.ext 4 6) <|
    .st (.act none (.px (some 4) (.mv (.v 0)))) <|
    .st (.act none (.px (some 5) (.mv (.v 3)))) <|
    .st (.act none (.px (some 6) (.mv (.v 1)))) <|
    .st (.act none (.px (some 7) (.bin .rem (.v 6) (.c (.int .i64 3))))) <|
    .st (.act none (.px (some 8) (.bin .eql (.v 7) (.c (.int .i64 0))))) <|
    .st (.act none (.px (some 9) (.ia 1 (.v 4) (.v 5)))) <|
    .st (.act none (.ex none (.store 1 (.v 9) (.v 8)))) .done) K41_3)) K41_2
@[simp] def W41_4 := @C.wpe _ _ K41_4.eq_1
def K41_5 : C := .cond 4 (.v 7) (.skip) (.exit 0)
@[simp] def W41_5 := @C.wpe _ _ K41_5.eq_1
def K41_6 : C := .seq (.seq (.pl <| .st (.ext 4 4) <|
    .st (.act none (.px (some 4) (.mv (.v 3)))) <|
    .st (.act none (.px (some 5) (.mv (.v 0)))) <|
    .st (.act none (.px (some 6) (.lenV (.v 5)))) <|
    .st (.act none (.px (some 7) (.bin .lss (.v 4) (.v 6)))) .done) K41_5) K41_4
@[simp] def W41_6 := @C.wpe _ _ K41_6.eq_1
def K41_7 : C := .block 0 (.loop 4 [2] K41_6)
@[simp] def W41_7 := @C.wpe _ _ K41_7.eq_1
def K41_8 : C := .seq (.seq (.pl <| .st (.ext 4 0) <|
    .st (.act none (.px (some 3) (.mv (.c (.int .i64 0))))) .done) K41_7) K41_1
@[simp] def W41_8 := @C.wpe _ _ K41_8.eq_1
def B_laws_markBoolS : C := .seq (.pl <| .st (.ext 4 0) <|
    .st (.act none (.px (some 2) (.mv (.c (.int .i64 0))))) .done) K41_8
@[simp] def WB_laws_markBoolS := @C.wpe _ _ B_laws_markBoolS.eq_1
def R_laws_markBoolS : FIR := ⟨B_laws_markBoolS, 4, [(2, none)]⟩
theorem IR_laws_markBoolS : cfun Try.prog H_laws_markBoolS Try.f41 = some R_laws_markBoolS := by kernel_rfl
theorem EN_laws_markBoolS {args : List Value} {h : Heap} {k : Value → Heap → Prop} (hargs : args.length = 2) (hw : B_laws_markBoolS.wp Try.prog (retQ [(2, none)] k) (env0 args 4) h) : CallE Try.prog fn_laws_markBoolS args h k := enter Try.func41 rfl IR_laws_markBoolS hargs hw

def H_laws_markIntS : Hint := ⟨[(0, false), (1, false), (4, false), (5, false)], [[2]]⟩
def K19_1 : C := .seq (.pl <| .st (.ext 4 1) <|
    .st (.act none (.px (some 4) (.mv (.v 1)))) <|
    .st (.act none (.px (some 2) (.mv (.v 4)))) .done) (.ret)
@[simp] def W19_1 := @C.wpe _ _ K19_1.eq_1
def K19_2 : C := .pl <| .st (.ext 4 2) <|
    .st (.act none (.px (some 4) (.mv (.v 3)))) <|
    .st (.act none (.px (some 5) (.bin .add (.v 4) (.c (.int .i64 1))))) <|
    .st (.act none (.px (some 3) (.mv (.v 5)))) .done
@[simp] def W19_2 := @C.wpe _ _ K19_2.eq_1
def K19_3 : C := .pl <| .st (.ext 4 2) <|
    .st (.act none (.px (some 4) (.mv (.v 1)))) <|
    .st (.act none (.px (some 5) (.bin .add (.v 4) (.c (.int .i64 1))))) <|
    .st (.act none (.px (some 1) (.mv (.v 5)))) .done
@[simp] def W19_3 := @C.wpe _ _ K19_3.eq_1
def K19_4 : C := .seq (.block 1 (.seq (.pl <| .st (.ext 4 4) <|
    .st (.act none (.px (some 4) (.mv (.v 0)))) <|
    .st (.act none (.px (some 5) (.mv (.v 3)))) <|
    .st (.act none (.px (some 6) (.mv (.v 1)))) <|
    .st (.act none (.px (some 7) (.ia 1 (.v 4) (.v 5)))) <|
    .st (.act none (.ex none (.store 1 (.v 7) (.v 6)))) .done) K19_3)) K19_2
@[simp] def W19_4 := @C.wpe _ _ K19_4.eq_1
def K19_5 : C := .cond 4 (.v 7) (.skip) (.exit 0)
@[simp] def W19_5 := @C.wpe _ _ K19_5.eq_1
def K19_6 : C := .seq (.seq (.pl <| .st (.ext 4 4) <|
    .st (.act none (.px (some 4) (.mv (.v 3)))) <|
    .st (.act none (.px (some 5) (.mv (.v 0)))) <|
    .st (.act none (.px (some 6) (.lenV (.v 5)))) <|
    .st (.act none (.px (some 7) (.bin .lss (.v 4) (.v 6)))) .done) K19_5) K19_4
@[simp] def W19_6 := @C.wpe _ _ K19_6.eq_1
def K19_7 : C := .block 0 (.loop 4 [2] K19_6)
@[simp] def W19_7 := @C.wpe _ _ K19_7.eq_1
def K19_8 : C := .seq (.seq (.pl <| .st (.ext 4 0) <|
    .st (.act none (.px (some 3) (.mv (.c (.int .i64 0))))) .done) K19_7) K19_1
@[simp] def W19_8 := @C.wpe _ _ K19_8.eq_1
def B_laws_markIntS : C := .seq (.pl <| .st (.ext 4 0) <|
    .st (.act none (.px (some 2) (.mv (.c (.int .i64 0))))) .done) K19_8
@[simp] def WB_laws_markIntS := @C.wpe _ _ B_laws_markIntS.eq_1
def R_laws_markIntS : FIR := ⟨B_laws_markIntS, 4, [(2, none)]⟩
theorem IR_laws_markIntS : cfun Try.prog H_laws_markIntS Try.f19 = some R_laws_markIntS := by kernel_rfl
theorem EN_laws_markIntS {args : List Value} {h : Heap} {k : Value → Heap → Prop} (hargs : args.length = 2) (hw : B_laws_markIntS.wp Try.prog (retQ [(2, none)] k) (env0 args 4) h) : CallE Try.prog fn_laws_markIntS args h k := enter Try.func19 rfl IR_laws_markIntS hargs hw

def H_laws_markLasso : Hint := ⟨[(0, false), (1, false), (2, true), (4, false)], []⟩
def K28_1 : C := .seq (.pl <| .st (.ext 4 1) <|
    .st (.act none (.px (some 4) (.mv (.v 1)))) <|
    .st (.act none (.px (some 3) (.mv (.v 4)))) .done) (.ret)
@[simp] def W28_1 := @C.wpe _ _ K28_1.eq_1
def K28_2 : Pl := .st (.act none (.px (some 1) (.mv (.v 7)))) .done
@[simp] def W28_2 := @Pl.wpe _ _ K28_2.eq_1
def K28_3 : C := .seq (.pl <| .st (.ext 4 4) <|
    .st (.act none (.als 4 none 2)) <|
    .st (.act none (.pget (some 5) (some 4) 2 1 none)) <|
    .st (.act none (.px (some 6) (.mv (.v 1)))) <|
    .st (.act none (.ex (some 7) (.call fn_laws_markIntS [.v 5, .v 6]))) K28_2) K28_1
@[simp] def W28_3 := @C.wpe _ _ K28_3.eq_1
def K28_4 : Pl := .st (.act none (.px (some 1) (.mv (.v 7)))) .done
@[simp] def W28_4 := @Pl.wpe _ _ K28_4.eq_1
def K28_5 : C := .seq (.pl <| .st (.ext 4 4) <|
    .st (.act none (.als 4 none 2)) <|
    .st (.act none (.pget (some 5) (some 4) 2 0 none)) <|
    .st (.act none (.px (some 6) (.mv (.v 1)))) <|
    .st (.act none (.ex (some 7) (.call fn_laws_markIntS [.v 5, .v 6]))) K28_4) K28_3
@[simp] def W28_5 := @C.wpe _ _ K28_5.eq_1
def B_laws_markLasso : C := .seq (.pl <| .st (.ext 4 0) <|
    .st (.act none (.pnew 2 (.v 0) [])) <|
    .st (.act none (.px (some 3) (.mv (.c (.int .i64 0))))) .done) K28_5
@[simp] def WB_laws_markLasso := @C.wpe _ _ B_laws_markLasso.eq_1
def R_laws_markLasso : FIR := ⟨B_laws_markLasso, 4, [(3, none)]⟩
theorem IR_laws_markLasso : cfun Try.prog H_laws_markLasso Try.f28 = some R_laws_markLasso := by kernel_rfl
theorem EN_laws_markLasso {args : List Value} {h : Heap} {k : Value → Heap → Prop} (hargs : args.length = 2) (hw : B_laws_markLasso.wp Try.prog (retQ [(3, none)] k) (env0 args 4) h) : CallE Try.prog fn_laws_markLasso args h k := enter Try.func28 rfl IR_laws_markLasso hargs hw

def H_laws_markTransitionS : Hint := ⟨[(0, false), (1, false), (4, false), (5, false)], [[2]]⟩
def K42_1 : C := .seq (.pl <| .st (.ext 4 1) <|
    .st (.act none (.px (some 4) (.mv (.v 1)))) <|
    .st (.act none (.px (some 2) (.mv (.v 4)))) .done) (.ret)
@[simp] def W42_1 := @C.wpe _ _ K42_1.eq_1
def K42_2 : C := .pl <| .st (.ext 4 2) <|
    .st (.act none (.px (some 4) (.mv (.v 3)))) <|
    .st (.act none (.px (some 5) (.bin .add (.v 4) (.c (.int .i64 1))))) <|
    .st (.act none (.px (some 3) (.mv (.v 5)))) .done
@[simp] def W42_2 := @C.wpe _ _ K42_2.eq_1
def K42_3 : C := .pl <| .st (.ext 4 2) <|
    .st (.act none (.px (some 4) (.mv (.v 1)))) <|
    .st (.act none (.px (some 5) (.bin .add (.v 4) (.c (.int .i64 1))))) <|
    .st (.act none (.px (some 1) (.mv (.v 5)))) .done
@[simp] def W42_3 := @C.wpe _ _ K42_3.eq_1
def K42_4 : C := .seq (.pl <| .st (.ext 4 5) <|
    .st (.act none (.px (some 4) (.mv (.v 0)))) <|
    .st (.act none (.px (some 5) (.mv (.v 3)))) <|
    .st (.act none (.px (some 6) (.mv (.v 1)))) <|
    .st (.act none (.px (some 7) (.ia 4 (.v 4) (.v 5)))) <|
    .st (.act none (.px (some 8) (.fa 3 (.v 7)))) <|
    .st (.act none (.ex none (.store 1 (.v 8) (.v 6)))) .done) K42_3
@[simp] def W42_4 := @C.wpe _ _ K42_4.eq_1
def K42_5 : C := .seq (.pl <| .st (.ext 4 2) <|
    .st (.act none (.px (some 4) (.mv (.v 1)))) <|
    .st (.act none (.px (some 5) (.bin .add (.v 4) (.c (.int .i64 1))))) <|
    .st (.act none (.px (some 1) (.mv (.v 5)))) .done) K42_4
@[simp] def W42_5 := @C.wpe _ _ K42_5.eq_1
def K42_6 : C := .seq (.pl <| .st (.ext 4 5) <|
    .st (.act none (.px (some 4) (.mv (.v 0)))) <|
    .st (.act none (.px (some 5) (.mv (.v 3)))) <|
    .st (.act none (.px (some 6) (.mv (.v 1)))) <|
    .st (.act none (.px (some 7) (.ia 4 (.v 4) (.v 5)))) <|
    .st (.act none (.px (some 8) (.fa 2 (.v 7)))) <|
    .st (.act none (.ex none (.store 1 (.v 8) (.v 6)))) .done) K42_5
@[simp] def W42_6 := @C.wpe _ _ K42_6.eq_1
def K42_7 : C := .seq (.pl <| .st (.ext 4 2) <|
    .st (.act none (.px (some 4) (.mv (.v 1)))) <|
    .st (.act none (.px (some 5) (.bin .add (.v 4) (.c (.int .i64 1))))) <|
    .st (.act none (.px (some 1) (.mv (.v 5)))) .done) K42_6
@[simp] def W42_7 := @C.wpe _ _ K42_7.eq_1
def K42_8 : C := .seq (.pl <| .st (.ext 4 5) <|
    .st (.act none (.px (some 4) (.mv (.v 0)))) <|
    .st (.act none (.px (some 5) (.mv (.v 3)))) <|
    .st (.act none (.px (some 6) (.mv (.v 1)))) <|
    .st (.act none (.px (some 7) (.ia 4 (.v 4) (.v 5)))) <|
    .st (.act none (.px (some 8) (.fa 1 (.v 7)))) <|
    .st (.act none (.ex none (.store 1 (.v 8) (.v 6)))) .done) K42_7
@[simp] def W42_8 := @C.wpe _ _ K42_8.eq_1
def K42_9 : C := .seq (.pl <| .st (.ext 4 2) <|
    .st (.act none (.px (some 4) (.mv (.v 1)))) <|
    .st (.act none (.px (some 5) (.bin .add (.v 4) (.c (.int .i64 1))))) <|
    .st (.act none (.px (some 1) (.mv (.v 5)))) .done) K42_8
@[simp] def W42_9 := @C.wpe _ _ K42_9.eq_1
def K42_10 : C := .seq (.block 1 (.seq (.pl <| .st (.ext 4 5) <|
    .st (.act none (.px (some 4) (.mv (.v 0)))) <|
    .st (.act none (.px (some 5) (.mv (.v 3)))) <|
    .st (.act none (.px (some 6) (.mv (.v 1)))) <|
    .st (.act none (.px (some 7) (.ia 4 (.v 4) (.v 5)))) <|
    .st (.act none (.px (some 8) (.fa 0 (.v 7)))) <|
    .st (.act none (.ex none (.store 1 (.v 8) (.v 6)))) .done) K42_9)) K42_2
@[simp] def W42_10 := @C.wpe _ _ K42_10.eq_1
def K42_11 : C := .cond 4 (.v 7) (.skip) (.exit 0)
@[simp] def W42_11 := @C.wpe _ _ K42_11.eq_1
def K42_12 : C := .seq (.seq (.pl <| .st (.ext 4 4) <|
    .st (.act none (.px (some 4) (.mv (.v 3)))) <|
    .st (.act none (.px (some 5) (.mv (.v 0)))) <|
    .st (.act none (.px (some 6) (.lenV (.v 5)))) <|
    .st (.act none (.px (some 7) (.bin .lss (.v 4) (.v 6)))) .done) K42_11) K42_10
@[simp] def W42_12 := @C.wpe _ _ K42_12.eq_1
def K42_13 : C := .block 0 (.loop 4 [2] K42_12)
@[simp] def W42_13 := @C.wpe _ _ K42_13.eq_1
def K42_14 : C := .seq (.seq (.pl <| .st (.ext 4 0) <|
    .st (.act none (.px (some 3) (.mv (.c (.int .i64 0))))) .done) K42_13) K42_1
@[simp] def W42_14 := @C.wpe _ _ K42_14.eq_1
def B_laws_markTransitionS : C := .seq (.pl <| .st (.ext 4 0) <|
    .st (.act none (.px (some 2) (.mv (.c (.int .i64 0))))) .done) K42_14
@[simp] def WB_laws_markTransitionS := @C.wpe _ _ B_laws_markTransitionS.eq_1
def R_laws_markTransitionS : FIR := ⟨B_laws_markTransitionS, 4, [(2, none)]⟩
theorem IR_laws_markTransitionS : cfun Try.prog H_laws_markTransitionS Try.f42 = some R_laws_markTransitionS := by kernel_rfl
theorem EN_laws_markTransitionS {args : List Value} {h : Heap} {k : Value → Heap → Prop} (hargs : args.length = 2) (hw : B_laws_markTransitionS.wp Try.prog (retQ [(2, none)] k) (env0 args 4) h) : CallE Try.prog fn_laws_markTransitionS args h k := enter Try.func42 rfl IR_laws_markTransitionS hargs hw

def H_laws_szAutomaton : Hint := ⟨[(0, false), (1, false), (2, true), (4, false)], []⟩
def K8_1 : C := .seq (.pl <| .st (.ext 4 1) <|
    .st (.act none (.px (some 4) (.mv (.v 1)))) <|
    .st (.act none (.px (some 3) (.mv (.v 4)))) .done) (.ret)
@[simp] def W8_1 := @C.wpe _ _ K8_1.eq_1
def K8_2 : C := .seq (.pl <| .st (.ext 4 0) <|
    .st (.act none (.px (some 3) (.mv (.c (.int .i64 (-1)))))) .done) (.ret)
@[simp] def W8_2 := @C.wpe _ _ K8_2.eq_1
def K8_3 : C := .cond 4 (.v 5) K8_2 (.skip)
@[simp] def W8_3 := @C.wpe _ _ K8_3.eq_1
def K8_4 : C := .seq (.seq (.pl <| .st (.ext 4 2) <|
    .st (.act none (.px (some 4) (.mv (.v 1)))) <|
    .st (.act none (.px (some 5) (.bin .lss (.v 4) (.c (.int .i64 0))))) .done) K8_3) K8_1
@[simp] def W8_4 := @C.wpe _ _ K8_4.eq_1
def K8_5 : Pl := .st (.act none (.px (some 1) (.mv (.v 7)))) .done
@[simp] def W8_5 := @Pl.wpe _ _ K8_5.eq_1
def K8_6 : C := .seq (.pl <| .st (.ext 4 4) <|
    .st (.act none (.als 4 none 2)) <|
    .st (.act none (.pget (some 5) (some 4) 2 2 none)) <|
    .st (.act none (.px (some 6) (.mv (.v 1)))) <|
    .st (.act none (.ex (some 7) (.call fn_laws_szTransitionS [.v 5, .v 6]))) K8_5) K8_4
@[simp] def W8_6 := @C.wpe _ _ K8_6.eq_1
def K8_7 : C := .seq (.pl <| .st (.ext 4 0) <|
    .st (.act none (.px (some 3) (.mv (.c (.int .i64 (-1)))))) .done) (.ret)
@[simp] def W8_7 := @C.wpe _ _ K8_7.eq_1
def K8_8 : C := .cond 4 (.v 5) K8_7 (.skip)
@[simp] def W8_8 := @C.wpe _ _ K8_8.eq_1
def K8_9 : C := .seq (.seq (.pl <| .st (.ext 4 2) <|
    .st (.act none (.px (some 4) (.mv (.v 1)))) <|
    .st (.act none (.px (some 5) (.bin .lss (.v 4) (.c (.int .i64 0))))) .done) K8_8) K8_6
@[simp] def W8_9 := @C.wpe _ _ K8_9.eq_1
def K8_10 : Pl := .st (.act none (.px (some 1) (.mv (.v 7)))) .done
@[simp] def W8_10 := @Pl.wpe _ _ K8_10.eq_1
def K8_11 : C := .seq (.pl <| .st (.ext 4 4) <|
    .st (.act none (.als 4 none 2)) <|
    .st (.act none (.pget (some 5) (some 4) 2 1 none)) <|
    .st (.act none (.px (some 6) (.mv (.v 1)))) <|
    .st (.act none (.ex (some 7) (.call fn_laws_szBoolS [.v 5, .v 6]))) K8_10) K8_9
@[simp] def W8_11 := @C.wpe _ _ K8_11.eq_1
def K8_12 : C := .seq (.pl <| .st (.ext 4 0) <|
    .st (.act none (.px (some 3) (.mv (.c (.int .i64 (-1)))))) .done) (.ret)
@[simp] def W8_12 := @C.wpe _ _ K8_12.eq_1
def K8_13 : C := .cond 4 (.v 5) K8_12 (.skip)
@[simp] def W8_13 := @C.wpe _ _ K8_13.eq_1
def K8_14 : C := .seq (.seq (.pl <| .st (.ext 4 2) <|
    .st (.act none (.px (some 4) (.mv (.v 1)))) <|
    .st (.act none (.px (some 5) (.bin .lss (.v 4) (.c (.int .i64 0))))) .done) K8_13) K8_11
@[simp] def W8_14 := @C.wpe _ _ K8_14.eq_1
def K8_15 : Pl := .st (.act none (.px (some 1) (.mv (.v 7)))) .done
@[simp] def W8_15 := @Pl.wpe _ _ K8_15.eq_1
def K8_16 : C := .seq (.pl <| .st (.ext 4 4) <|
    .st (.act none (.als 4 none 2)) <|
    .st (.act none (.pget (some 5) (some 4) 2 0 none)) <|
    .st (.act none (.px (some 6) (.mv (.v 1)))) <|
    .st (.act none (.ex (some 7) (.call fn_laws_szIntS [.v 5, .v 6]))) K8_15) K8_14
@[simp] def W8_16 := @C.wpe _ _ K8_16.eq_1
def B_laws_szAutomaton : C := .seq (.pl <| .st (.ext 4 0) <|
    .st (.act none (.pnew 2 (.v 0) [])) <|
    .st (.act none (.px (some 3) (.mv (.c (.int .i64 0))))) .done) K8_16
@[simp] def WB_laws_szAutomaton := @C.wpe _ _ B_laws_szAutomaton.eq_1
def R_laws_szAutomaton : FIR := ⟨B_laws_szAutomaton, 4, [(3, none)]⟩
theorem IR_laws_szAutomaton : cfun Try.prog H_laws_szAutomaton Try.f8 = some R_laws_szAutomaton := by kernel_rfl
theorem EN_laws_szAutomaton {args : List Value} {h : Heap} {k : Value → Heap → Prop} (hargs : args.length = 2) (hw : B_laws_szAutomaton.wp Try.prog (retQ [(3, none)] k) (env0 args 4) h) : CallE Try.prog fn_laws_szAutomaton args h k := enter Try.func8 rfl IR_laws_szAutomaton hargs hw

def H_laws_szBoolS : Hint := ⟨[(0, false), (1, false), (4, false)], []⟩
def K31_1 : C := .seq (.pl <| .st (.ext 3 1) <|
    .st (.act none (.px (some 3) (.mv (.v 1)))) <|
    .st (.act none (.px (some 2) (.mv (.v 3)))) .done) (.ret)
@[simp] def W31_1 := @C.wpe _ _ K31_1.eq_1
def K31_2 : C := .seq (.pl <| .st (.ext 3 0) <|
    .st (.act none (.px (some 2) (.mv (.c (.int .i64 (-1)))))) .done) (.ret)
@[simp] def W31_2 := @C.wpe _ _ K31_2.eq_1
def K31_3 : C := .cond 3 (.v 4) K31_2 (.skip)
@[simp] def W31_3 := @C.wpe _ _ K31_3.eq_1
def K31_4 : C := .seq (.seq (.pl <| .st (.ext 3 2) <|
    .st (.act none (.px (some 3) (.mv (.v 1)))) <|
    .st (.act none (.px (some 4) (.bin .lss (.v 3) (.c (.int .i64 0))))) .done) K31_3) K31_1
@[simp] def W31_4 := @C.wpe _ _ K31_4.eq_1
def K31_5 : C := .seq (.pl <| .st (.ext 3 4) <|
    .st (.act none (.px (some 3) (.mv (.v 1)))) <|
    .st (.act none (.px (some 4) (.mv (.v 0)))) <|
    .st (.act none (.px (some 5) (.lenV (.v 4)))) <|
    .st (.act none (.px (some 6) (.bin .sub (.v 3) (.v 5)))) <|
    .st (.act none (.px (some 1) (.mv (.v 6)))) .done) K31_4
@[simp] def W31_5 := @C.wpe _ _ K31_5.eq_1
def B_laws_szBoolS : C := .seq (.pl <| .st (.ext 3 0) <|
    .st (.act none (.px (some 2) (.mv (.c (.int .i64 0))))) .done) K31_5
@[simp] def WB_laws_szBoolS := @C.wpe _ _ B_laws_szBoolS.eq_1
def R_laws_szBoolS : FIR := ⟨B_laws_szBoolS, 3, [(2, none)]⟩
theorem IR_laws_szBoolS : cfun Try.prog H_laws_szBoolS Try.f31 = some R_laws_szBoolS := by kernel_rfl
theorem EN_laws_szBoolS {args : List Value} {h : Heap} {k : Value → Heap → Prop} (hargs : args.length = 2) (hw : B_laws_szBoolS.wp Try.prog (retQ [(2, none)] k) (env0 args 3) h) : CallE Try.prog fn_laws_szBoolS args h k := enter Try.func31 rfl IR_laws_szBoolS hargs hw

def H_laws_szIntS : Hint := ⟨[(0, false), (1, false), (4, false)], []⟩
def K30_1 : C := .seq (.pl <| .st (.ext 3 1) <|
    .st (.act none (.px (some 3) (.mv (.v 1)))) <|
    .st (.act none (.px (some 2) (.mv (.v 3)))) .done) (.ret)
@[simp] def W30_1 := @C.wpe _ _ K30_1.eq_1
def K30_2 : C := .seq (.pl <| .st (.ext 3 0) <|
    .st (.act none (.px (some 2) (.mv (.c (.int .i64 (-1)))))) .done) (.ret)
@[simp] def W30_2 := @C.wpe _ _ K30_2.eq_1
def K30_3 : C := .cond 3 (.v 4) K30_2 (.skip)
@[simp] def W30_3 := @C.wpe _ _ K30_3.eq_1
def K30_4 : C := .seq (.seq (.pl <| .st (.ext 3 2) <|
    .st (.act none (.px (some 3) (.mv (.v 1)))) <|
    .st (.act none (.px (some 4) (.bin .lss (.v 3) (.c (.int .i64 0))))) .done) K30_3) K30_1
@[simp] def W30_4 := @C.wpe _ _ K30_4.eq_1
def K30_5 : C := .seq (.pl <| .st (.ext 3 4) <|
    .st (.act none (.px (some 3) (.mv (.v 1)))) <|
    .st (.act none (.px (some 4) (.mv (.v 0)))) <|
    .st (.act none (.px (some 5) (.lenV (.v 4)))) <|
    .st (.act none (.px (some 6) (.bin .sub (.v 3) (.v 5)))) <|
    .st (.act none (.px (some 1) (.mv (.v 6)))) .done) K30_4
@[simp] def W30_5 := @C.wpe _ _ K30_5.eq_1
def B_laws_szIntS : C := .seq (.pl <| .st (.ext 3 0) <|
    .st (.act none (.px (some 2) (.mv (.c (.int .i64 0))))) .done) K30_5
@[simp] def WB_laws_szIntS := @C.wpe _ _ B_laws_szIntS.eq_1
def R_laws_szIntS : FIR := ⟨B_laws_szIntS, 3, [(2, none)]⟩
theorem IR_laws_szIntS : cfun Try.prog H_laws_szIntS Try.f30 = some R_laws_szIntS := by kernel_rfl
theorem EN_laws_szIntS {args : List Value} {h : Heap} {k : Value → Heap → Prop} (hargs : args.length = 2) (hw : B_laws_szIntS.wp Try.prog (retQ [(2, none)] k) (env0 args 3) h) : CallE Try.prog fn_laws_szIntS args h k := enter Try.func30 rfl IR_laws_szIntS hargs hw

def H_laws_szTransitionS : Hint := ⟨[(0, false), (1, false), (4, false)], []⟩
def K32_1 : C := .seq (.pl <| .st (.ext 3 1) <|
    .st (.act none (.px (some 3) (.mv (.v 1)))) <|
    .st (.act none (.px (some 2) (.mv (.v 3)))) .done) (.ret)
@[simp] def W32_1 := @C.wpe _ _ K32_1.eq_1
def K32_2 : C := .seq (.pl <| .st (.ext 3 0) <|
    .st (.act none (.px (some 2) (.mv (.c (.int .i64 (-1)))))) .done) (.ret)
@[simp] def W32_2 := @C.wpe _ _ K32_2.eq_1
def K32_3 : C := .cond 3 (.v 4) K32_2 (.skip)
@[simp] def W32_3 := @C.wpe _ _ K32_3.eq_1
def K32_4 : C := .seq (.seq (.pl <| .st (.ext 3 2) <|
    .st (.act none (.px (some 3) (.mv (.v 1)))) <|
    .st (.act none (.px (some 4) (.bin .lss (.v 3) (.c (.int .i64 0))))) .done) K32_3) K32_1
@[simp] def W32_4 := @C.wpe _ _ K32_4.eq_1
def K32_5 : C := .seq (.pl <| .st (.ext 3 4) <|
    .st (.act none (.px (some 3) (.mv (.v 1)))) <|
    .st (.act none (.px (some 4) (.mv (.v 0)))) <|
    .st (.act none (.px (some 5) (.lenV (.v 4)))) <|
    .st (.act none (.px (some 6) (.bin .sub (.v 3) (.v 5)))) <|
    .st (.act none (.px (some 1) (.mv (.v 6)))) .done) K32_4
@[simp] def W32_5 := @C.wpe _ _ K32_5.eq_1
def B_laws_szTransitionS : C := .seq (.pl <| .st (.ext 3 0) <|
    .st (.act none (.px (some 2) (.mv (.c (.int .i64 0))))) .done) K32_5
@[simp] def WB_laws_szTransitionS := @C.wpe _ _ B_laws_szTransitionS.eq_1
def R_laws_szTransitionS : FIR := ⟨B_laws_szTransitionS, 3, [(2, none)]⟩
theorem IR_laws_szTransitionS : cfun Try.prog H_laws_szTransitionS Try.f32 = some R_laws_szTransitionS := by kernel_rfl
theorem EN_laws_szTransitionS {args : List Value} {h : Heap} {k : Value → Heap → Prop} (hargs : args.length = 2) (hw : B_laws_szTransitionS.wp Try.prog (retQ [(2, none)] k) (env0 args 3) h) : CallE Try.prog fn_laws_szTransitionS args h k := enter Try.func32 rfl IR_laws_szTransitionS hargs hw

def H_laws_toAutomaton : Hint := ⟨[(0, false), (1, true), (2, true), (3, true)], []⟩
def K10_1 : C := .seq (.pl <| .st (.ext 4 1) <|
    .st (.act none (.pget (some 4) none 3 0 (some 3))) <|
    .st (.act none (.pset none 2 0 3 (.v 4))) .done) (.ret)
@[simp] def W10_1 := @C.wpe _ _ K10_1.eq_1
def K10_2 : Pl := .st (.act none (.als 7 none 3)) <|
    .st (.act none (.pset (some 7) 3 2 1 (.v 6))) .done
@[simp] def W10_2 := @Pl.wpe _ _ K10_2.eq_1
def K10_3 : C := .seq (.pl <| .st (.ext 4 4) <|
    .st (.act none (.als 4 none 1)) <|
    .st (.act none (.pget (some 5) (some 4) 1 2 none)) <|
    .st (.act none (.ex (some 6) (.call fn_laws_toTransitionS [.v 5]))) K10_2) K10_1
@[simp] def W10_3 := @C.wpe _ _ K10_3.eq_1
def K10_4 : Pl := .st (.act none (.als 7 none 3)) <|
    .st (.act none (.pset (some 7) 3 1 1 (.v 6))) .done
@[simp] def W10_4 := @Pl.wpe _ _ K10_4.eq_1
def K10_5 : C := .seq (.pl <| .st (.ext 4 4) <|
    .st (.act none (.als 4 none 1)) <|
    .st (.act none (.pget (some 5) (some 4) 1 1 none)) <|
    .st (.act none (.ex (some 6) (.call fn_laws_toBoolS [.v 5]))) K10_4) K10_3
@[simp] def W10_5 := @C.wpe _ _ K10_5.eq_1
def K10_6 : Pl := .st (.act none (.als 7 none 3)) <|
    .st (.act none (.pset (some 7) 3 0 1 (.v 6))) .done
@[simp] def W10_6 := @Pl.wpe _ _ K10_6.eq_1
def K10_7 : C := .seq (.pl <| .st (.ext 4 4) <|
    .st (.act none (.als 4 none 1)) <|
    .st (.act none (.pget (some 5) (some 4) 1 0 none)) <|
    .st (.act none (.ex (some 6) (.call fn_laws_toIntS [.v 5]))) K10_6) K10_5
@[simp] def W10_7 := @C.wpe _ _ K10_7.eq_1
def K10_8 : C := .seq (.pl <| .st (.ext 4 0) <|
    .st (.act none (.pnew 3 (.c (.agg #[.slice none 0 0, .slice none 0 0, .slice none 0 0])) [])) .done) K10_7
@[simp] def W10_8 := @C.wpe _ _ K10_8.eq_1
def B_laws_toAutomaton : C := .seq (.pl <| .st (.ext 4 0) <|
    .st (.act none (.pnew 1 (.v 0) [])) <|
    .st (.act none (.pnew 2 (.c (.agg #[.slice none 0 0, .slice none 0 0, .slice none 0 0])) [])) .done) K10_8
@[simp] def WB_laws_toAutomaton := @C.wpe _ _ B_laws_toAutomaton.eq_1
def R_laws_toAutomaton : FIR := ⟨B_laws_toAutomaton, 4, [(2, some (some 3))]⟩
theorem IR_laws_toAutomaton : cfun Try.prog H_laws_toAutomaton Try.f10 = some R_laws_toAutomaton := by kernel_rfl
theorem EN_laws_toAutomaton {args : List Value} {h : Heap} {k : Value → Heap → Prop} (hargs : args.length = 1) (hw : B_laws_toAutomaton.wp Try.prog (retQ [(2, some (some 3))] k) (env0 args 4) h) : CallE Try.prog fn_laws_toAutomaton args h k := enter Try.func10 rfl IR_laws_toAutomaton hargs hw

def H_laws_toBoolS : Hint := ⟨[(0, false), (2, false), (3, false), (4, false)], [[1]]⟩
def K35_1 : C := .seq (.pl <| .st (.ext 4 1) <|
    .st (.act none (.px (some 4) (.mv (.v 2)))) <|
    .st (.act none (.px (some 1) (.mv (.v 4)))) .done) (.ret)
@[simp] def W35_1 := @C.wpe _ _ K35_1.eq_1
def K35_2 : C := .pl <| .st (.ext 4 2) <|
    .st (.act none (.px (some 4) (.mv (.v 3)))) <|
    .st (.act none (.px (some 5) (.bin .add (.v 4) (.c (.int .i64 1))))) <|
    .st (.act none (.px (some 3) (.mv (.v 5)))) .done
@[simp] def W35_2 := @C.wpe _ _ K35_2.eq_1
def K35_3 : C := .seq (.block 1 (.pl <| .st (.ext 4 7) <|
    .st (.act none (.px (some 4) (.mv (.v 2)))) <|
    .st (.act none (.px (some 5) (.mv (.v 3)))) <|
    .st (.act none (.px (some 6) (.mv (.v 0)))) <|
    .st (.act none (.px (some 7) (.mv (.v 3)))) <|
    .st (.act none (.px (some 8) (.ia 1 (.v 6) (.v 7)))) <|
    .st (.act none (.ld (some 9) (.v 8) none)) <|
    .st (.act none (.px (some 10) (.ia 1 (.v 4) (.v 5)))) <|
    .st (.act none (.ex none (.store 1 (.v 10) (.v 9)))) .done)) K35_2
@[simp] def W35_3 := @C.wpe _ _ K35_3.eq_1
def K35_4 : C := .cond 4 (.v 7) (.skip) (.exit 0)
@[simp] def W35_4 := @C.wpe _ _ K35_4.eq_1
def K35_5 : C := .seq (.seq (.pl <| .st (.ext 4 4) <|
    .st (.act none (.px (some 4) (.mv (.v 3)))) <|
    .st (.act none (.px (some 5) (.mv (.v 0)))) <|
    .st (.act none (.px (some 6) (.lenV (.v 5)))) <|
    .st (.act none (.px (some 7) (.bin .lss (.v 4) (.v 6)))) .done) K35_4) K35_3
@[simp] def W35_5 := @C.wpe _ _ K35_5.eq_1
def K35_6 : C := .block 0 (.loop 4 [1] K35_5)
@[simp] def W35_6 := @C.wpe _ _ K35_6.eq_1
def K35_7 : C := .seq (.seq (.pl <| .st (.ext 4 0) <|
    .st (.act none (.px (some 3) (.mv (.c (.int .i64 0))))) .done) K35_6) K35_1
@[simp] def W35_7 := @C.wpe _ _ K35_7.eq_1
def K35_8 : Pl := .st (.act none (.px (some 2) (.mv (.v 6)))) .done
@[simp] def W35_8 := @Pl.wpe _ _ K35_8.eq_1
def K35_9 : C := .seq (.pl <| .st (.ext 4 3) <|
    .st (.act none (.px (some 4) (.mv (.v 0)))) <|
    .st (.act none (.px (some 5) (.lenV (.v 4)))) <|
    .st (.act none (.ex (some 6) (.mks 1 1 [.bool false] (.v 5) (.v 5)))) K35_8) K35_7
@[simp] def W35_9 := @C.wpe _ _ K35_9.eq_1
def B_laws_toBoolS : C := .seq (.pl <| .st (.ext 4 0) <|
    .st (.act none (.px (some 1) (.mv (.c (.slice none 0 0))))) .done) K35_9
@[simp] def WB_laws_toBoolS := @C.wpe _ _ B_laws_toBoolS.eq_1
def R_laws_toBoolS : FIR := ⟨B_laws_toBoolS, 4, [(1, none)]⟩
theorem IR_laws_toBoolS : cfun Try.prog H_laws_toBoolS Try.f35 = some R_laws_toBoolS := by kernel_rfl
theorem EN_laws_toBoolS {args : List Value} {h : Heap} {k : Value → Heap → Prop} (hargs : args.length = 1) (hw : B_laws_toBoolS.wp Try.prog (retQ [(1, none)] k) (env0 args 4) h) : CallE Try.prog fn_laws_toBoolS args h k := enter Try.func35 rfl IR_laws_toBoolS hargs hw

def H_laws_toIntS : Hint := ⟨[(0, false), (2, false), (3, false), (4, false)], [[1]]⟩
def K16_1 : C := .seq (.pl <| .st (.ext 4 1) <|
    .st (.act none (.px (some 4) (.mv (.v 2)))) <|
    .st (.act none (.px (some 1) (.mv (.v 4)))) .done) (.ret)
@[simp] def W16_1 := @C.wpe _ _ K16_1.eq_1
def K16_2 : C := .pl <| .st (.ext 4 2) <|
    .st (.act none (.px (some 4) (.mv (.v 3)))) <|
    .st (.act none (.px (some 5) (.bin .add (.v 4) (.c (.int .i64 1))))) <|
    .st (.act none (.px (some 3) (.mv (.v 5)))) .done
@[simp] def W16_2 := @C.wpe _ _ K16_2.eq_1
def K16_3 : C := .seq (.block 1 (.pl <| .st (.ext 4 7) <|
    .st (.act none (.px (some 4) (.mv (.v 2)))) <|
    .st (.act none (.px (some 5) (.mv (.v 3)))) <|
    .st (.act none (.px (some 6) (.mv (.v 0)))) <|
    .st (.act none (.px (some 7) (.mv (.v 3)))) <|
    .st (.act none (.px (some 8) (.ia 1 (.v 6) (.v 7)))) <|
    .st (.act none (.ld (some 9) (.v 8) none)) <|
    .st (.act none (.px (some 10) (.ia 1 (.v 4) (.v 5)))) <|
    .st (.act none (.ex none (.store 1 (.v 10) (.v 9)))) .done)) K16_2
@[simp] def W16_3 := @C.wpe _ _ K16_3.eq_1
def K16_4 : C := .cond 4 (.v 7) (.skip) (.exit 0)
@[simp] def W16_4 := @C.wpe _ _ K16_4.eq_1
def K16_5 : C := .seq (.seq (.pl <| .st (.ext 4 4) <|
    .st (.act none (.px (some 4) (.mv (.v 3)))) <|
    .st (.act none (.px (some 5) (.mv (.v 0)))) <|
    .st (.act none (.px (some 6) (.lenV (.v 5)))) <|
    .st (.act none (.px (some 7) (.bin .lss (.v 4) (.v 6)))) .done) K16_4) K16_3
@[simp] def W16_5 := @C.wpe _ _ K16_5.eq_1
def K16_6 : C := .block 0 (.loop 4 [1] K16_5)
@[simp] def W16_6 := @C.wpe _ _ K16_6.eq_1
def K16_7 : C := .seq (.seq (.pl <| .st (.ext 4 0) <|
    .st (.act none (.px (some 3) (.mv (.c (.int .i64 0))))) .done) K16_6) K16_1
@[simp] def W16_7 := @C.wpe _ _ K16_7.eq_1
def K16_8 : Pl := .st (.act none (.px (some 2) (.mv (.v 6)))) .done
@[simp] def W16_8 := @Pl.wpe _ _ K16_8.eq_1
def K16_9 : C := .seq (.pl <| .st (.ext 4 3) <|
    .st (.act none (.px (some 4) (.mv (.v 0)))) <|
    .st (.act none (.px (some 5) (.lenV (.v 4)))) <|
    .st (.act none (.ex (some 6) (.mks 8 1 [.int .i64 0] (.v 5) (.v 5)))) K16_8) K16_7
@[simp] def W16_9 := @C.wpe _ _ K16_9.eq_1
def B_laws_toIntS : C := .seq (.pl <| .st (.ext 4 0) <|
    .st (.act none (.px (some 1) (.mv (.c (.slice none 0 0))))) .done) K16_9
@[simp] def WB_laws_toIntS := @C.wpe _ _ B_laws_toIntS.eq_1
def R_laws_toIntS : FIR := ⟨B_laws_toIntS, 4, [(1, none)]⟩
theorem IR_laws_toIntS : cfun Try.prog H_laws_toIntS Try.f16 = some R_laws_toIntS := by kernel_rfl
theorem EN_laws_toIntS {args : List Value} {h : Heap} {k : Value → Heap → Prop} (hargs : args.length = 1) (hw : B_laws_toIntS.wp Try.prog (retQ [(1, none)] k) (env0 args 4) h) : CallE Try.prog fn_laws_toIntS args h k := enter Try.func16 rfl IR_laws_toIntS hargs hw

def H_laws_toTransition : Hint := ⟨[(0, false), (1, true), (2, true), (3, true)], []⟩
def K64_1 : C := .seq (.pl <| .st (.ext 4 1) <|
    .st (.act none (.pget (some 4) none 3 0 (some 4))) <|
    .st (.act none (.pset none 2 0 4 (.v 4))) .done) (.ret)
@[simp] def W64_1 := @C.wpe _ _ K64_1.eq_1
def K64_2 : C := .seq (.pl <| .st (.ext 4 3) <|
    .st (.act none (.als 4 none 1)) <|
    .st (.act none (.pget (some 5) (some 4) 1 3 none)) <|
    .st (.act none (.als 6 none 3)) <|
    .st (.act none (.pset (some 6) 3 3 1 (.v 5))) .done) K64_1
@[simp] def W64_2 := @C.wpe _ _ K64_2.eq_1
def K64_3 : C := .seq (.pl <| .st (.ext 4 3) <|
    .st (.act none (.als 4 none 1)) <|
    .st (.act none (.pget (some 5) (some 4) 1 2 none)) <|
    .st (.act none (.als 6 none 3)) <|
    .st (.act none (.pset (some 6) 3 2 1 (.v 5))) .done) K64_2
@[simp] def W64_3 := @C.wpe _ _ K64_3.eq_1
def K64_4 : C := .seq (.pl <| .st (.ext 4 3) <|
    .st (.act none (.als 4 none 1)) <|
    .st (.act none (.pget (some 5) (some 4) 1 1 none)) <|
    .st (.act none (.als 6 none 3)) <|
    .st (.act none (.pset (some 6) 3 1 1 (.v 5))) .done) K64_3
@[simp] def W64_4 := @C.wpe _ _ K64_4.eq_1
def K64_5 : C := .seq (.pl <| .st (.ext 4 3) <|
    .st (.act none (.als 4 none 1)) <|
    .st (.act none (.pget (some 5) (some 4) 1 0 none)) <|
    .st (.act none (.als 6 none 3)) <|
    .st (.act none (.pset (some 6) 3 0 1 (.v 5))) .done) K64_4
@[simp] def W64_5 := @C.wpe _ _ K64_5.eq_1
def K64_6 : C := .seq (.pl <| .st (.ext 4 0) <|
    .st (.act none (.pnew 3 (.c (.agg #[.int .i64 0, .int .i64 0, .int .i64 0, .int .i64 0])) [])) .done) K64_5
@[simp] def W64_6 := @C.wpe _ _ K64_6.eq_1
def B_laws_toTransition : C := .seq (.pl <| .st (.ext 4 0) <|
    .st (.act none (.pnew 1 (.v 0) [])) <|
    .st (.act none (.pnew 2 (.c (.agg #[.int .i64 0, .int .i64 0, .int .i64 0, .int .i64 0])) [])) .done) K64_6
@[simp] def WB_laws_toTransition := @C.wpe _ _ B_laws_toTransition.eq_1
def R_laws_toTransition : FIR := ⟨B_laws_toTransition, 4, [(2, some (some 4))]⟩
theorem IR_laws_toTransition : cfun Try.prog H_laws_toTransition Try.f64 = some R_laws_toTransition := by kernel_rfl
theorem EN_laws_toTransition {args : List Value} {h : Heap} {k : Value → Heap → Prop} (hargs : args.length = 1) (hw : B_laws_toTransition.wp Try.prog (retQ [(2, some (some 4))] k) (env0 args 4) h) : CallE Try.prog fn_laws_toTransition args h k := enter Try.func64 rfl IR_laws_toTransition hargs hw

def H_laws_toTransitionS : Hint := ⟨[(0, false), (2, false), (3, false), (4, false)], [[1]]⟩
def K36_1 : C := .seq (.pl <| .st (.ext 4 1) <|
    .st (.act none (.px (some 4) (.mv (.v 2)))) <|
    .st (.act none (.px (some 1) (.mv (.v 4)))) .done) (.ret)
@[simp] def W36_1 := @C.wpe _ _ K36_1.eq_1
def K36_2 : C := .pl <| .st (.ext 4 2) <|
    .st (.act none (.px (some 4) (.mv (.v 3)))) <|
    .st (.act none (.px (some 5) (.bin .add (.v 4) (.c (.int .i64 1))))) <|
    .st (.act none (.px (some 3) (.mv (.v 5)))) .done
@[simp] def W36_2 := @C.wpe _ _ K36_2.eq_1
def K36_3 : Pl := .st (.act none (.px (some 11) (.ia 4 (.v 4) (.v 5)))) <|
    .st (.act none (.ex none (.store 4 (.v 11) (.v 10)))) .done
@[simp] def W36_3 := @Pl.wpe _ _ K36_3.eq_1
def K36_4 : C := .seq (.block 1 (.pl <| .st (.ext 4 8) <|
    .st (.act none (.px (some 4) (.mv (.v 2)))) <|
    .st (.act none (.px (some 5) (.mv (.v 3)))) <|
    .st (.act none (.px (some 6) (.mv (.v 0)))) <|
    .st (.act none (.px (some 7) (.mv (.v 3)))) <|
    .st (.act none (.px (some 8) (.ia 4 (.v 6) (.v 7)))) <|
    .st (.act none (.ld (some 9) (.v 8) (some 4))) <|
    .st (.act none (.ex (some 10) (.call fn_laws_toTransition [.v 9]))) K36_3)) K36_2
@[simp] def W36_4 := @C.wpe _ _ K36_4.eq_1
def K36_5 : C := .cond 4 (.v 7) (.skip) (.exit 0)
@[simp] def W36_5 := @C.wpe _ _ K36_5.eq_1
def K36_6 : C := .seq (.seq (.pl <| .st (.ext 4 4) <|
    .st (.act none (.px (some 4) (.mv (.v 3)))) <|
    .st (.act none (.px (some 5) (.mv (.v 0)))) <|
    .st (.act none (.px (some 6) (.lenV (.v 5)))) <|
    .st (.act none (.px (some 7) (.bin .lss (.v 4) (.v 6)))) .done) K36_5) K36_4
@[simp] def W36_6 := @C.wpe _ _ K36_6.eq_1
def K36_7 : C := .block 0 (.loop 4 [1] K36_6)
@[simp] def W36_7 := @C.wpe _ _ K36_7.eq_1
def K36_8 : C := .seq (.seq (.pl <| .st (.ext 4 0) <|
    .st (.act none (.px (some 3) (.mv (.c (.int .i64 0))))) .done) K36_7) K36_1
@[simp] def W36_8 := @C.wpe _ _ K36_8.eq_1
def K36_9 : Pl := .st (.act none (.px (some 2) (.mv (.v 6)))) .done
@[simp] def W36_9 := @Pl.wpe _ _ K36_9.eq_1
def K36_10 : C := .seq (.pl <| .st (.ext 4 3) <|
    .st (.act none (.px (some 4) (.mv (.v 0)))) <|
    .st (.act none (.px (some 5) (.lenV (.v 4)))) <|
    .st (.act none (.ex (some 6) (.mks 32 4 [.int .i64 0, .int .i64 0, .int .i64 0, .int .i64 0] (.v 5) (.v 5)))) K36_9) K36_8
@[simp] def W36_10 := @C.wpe _ _ K36_10.eq_1
def B_laws_toTransitionS : C := .seq (.pl <| .st (.ext 4 0) <|
    .st (.act none (.px (some 1) (.mv (.c (.slice none 0 0))))) .done) K36_10
@[simp] def WB_laws_toTransitionS := @C.wpe _ _ B_laws_toTransitionS.eq_1
def R_laws_toTransitionS : FIR := ⟨B_laws_toTransitionS, 4, [(1, none)]⟩
theorem IR_laws_toTransitionS : cfun Try.prog H_laws_toTransitionS Try.f36 = some R_laws_toTransitionS := by kernel_rfl
theorem EN_laws_toTransitionS {args : List Value} {h : Heap} {k : Value → Heap → Prop} (hargs : args.length = 1) (hw : B_laws_toTransitionS.wp Try.prog (retQ [(1, none)] k) (env0 args 4) h) : CallE Try.prog fn_laws_toTransitionS args h k := enter Try.func36 rfl IR_laws_toTransitionS hargs hw

def H_slices_Clip_S_bool_bool : Hint := ⟨[(0, false), (2, false)], []⟩
def K124_1 : C := .seq (.pl <| .st (.ext 2 6) <|
    .st (.act none (.px (some 2) (.mv (.v 0)))) <|
    .st (.act none (.px (some 3) (.mv (.v 0)))) <|
    .st (.act none (.px (some 4) (.lenV (.v 3)))) <|
    .st (.act none (.px (some 5) (.mv (.v 0)))) <|
    .st (.act none (.px (some 6) (.lenV (.v 5)))) <|
    .st (.act none (.px (some 7) (.sliceV 1 (.v 2) none (some (.v 4)) (some (.v 6))))) <|
    .st (.act none (.px (some 1) (.mv (.v 7)))) .done) (.ret)
@[simp] def W124_1 := @C.wpe _ _ K124_1.eq_1
def B_slices_Clip_S_bool_bool : C := .seq (.pl <| .st (.ext 2 0) <|
    .st (.act none (.px (some 1) (.mv (.c (.slice none 0 0))))) .done) K124_1
@[simp] def WB_slices_Clip_S_bool_bool := @C.wpe _ _ B_slices_Clip_S_bool_bool.eq_1
def R_slices_Clip_S_bool_bool : FIR := ⟨B_slices_Clip_S_bool_bool, 2, [(1, none)]⟩
theorem IR_slices_Clip_S_bool_bool : cfun Try.prog H_slices_Clip_S_bool_bool Try.f124 = some R_slices_Clip_S_bool_bool := by kernel_rfl
theorem EN_slices_Clip_S_bool_bool {args : List Value} {h : Heap} {k : Value → Heap → Prop} (hargs : args.length = 1) (hw : B_slices_Clip_S_bool_bool.wp Try.prog (retQ [(1, none)] k) (env0 args 2) h) : CallE Try.prog fn_slices_Clip_S_bool_bool args h k := enter Try.func124 rfl IR_slices_Clip_S_bool_bool hargs hw

def H_slices_Clip_S_impl_Transition_impl_Transition : Hint := ⟨[(0, false), (2, false)], []⟩
def K126_1 : C := .seq (.pl <| .st (.ext 2 6) <|
    .st (.act none (.px (some 2) (.mv (.v 0)))) <|
    .st (.act none (.px (some 3) (.mv (.v 0)))) <|
    .st (.act none (.px (some 4) (.lenV (.v 3)))) <|
    .st (.act none (.px (some 5) (.mv (.v 0)))) <|
    .st (.act none (.px (some 6) (.lenV (.v 5)))) <|
    .st (.act none (.px (some 7) (.sliceV 4 (.v 2) none (some (.v 4)) (some (.v 6))))) <|
    .st (.act none (.px (some 1) (.mv (.v 7)))) .done) (.ret)
@[simp] def W126_1 := @C.wpe _ _ K126_1.eq_1
def B_slices_Clip_S_impl_Transition_impl_Transition : C := .seq (.pl <| .st (.ext 2 0) <|
    .st (.act none (.px (some 1) (.mv (.c (.slice none 0 0))))) .done) K126_1
@[simp] def WB_slices_Clip_S_impl_Transition_impl_Transition := @C.wpe _ _ B_slices_Clip_S_impl_Transition_impl_Transition.eq_1
def R_slices_Clip_S_impl_Transition_impl_Transition : FIR := ⟨B_slices_Clip_S_impl_Transition_impl_Transition, 2, [(1, none)]⟩
theorem IR_slices_Clip_S_impl_Transition_impl_Transition : cfun Try.prog H_slices_Clip_S_impl_Transition_impl_Transition Try.f126 = some R_slices_Clip_S_impl_Transition_impl_Transition := by kernel_rfl
theorem EN_slices_Clip_S_impl_Transition_impl_Transition {args : List Value} {h : Heap} {k : Value → Heap → Prop} (hargs : args.length = 1) (hw : B_slices_Clip_S_impl_Transition_impl_Transition.wp Try.prog (retQ [(1, none)] k) (env0 args 2) h) : CallE Try.prog fn_slices_Clip_S_impl_Transition_impl_Transition args h k := enter Try.func126 rfl IR_slices_Clip_S_impl_Transition_impl_Transition hargs hw

def H_slices_Clip_S_int_int : Hint := ⟨[(0, false), (2, false)], []⟩
def K56_1 : C := .seq (.pl <| .st (.ext 2 6) <|
    .st (.act none (.px (some 2) (.mv (.v 0)))) <|
    .st (.act none (.px (some 3) (.mv (.v 0)))) <|
    .st (.act none (.px (some 4) (.lenV (.v 3)))) <|
    .st (.act none (.px (some 5) (.mv (.v 0)))) <|
    .st (.act none (.px (some 6) (.lenV (.v 5)))) <|
    .st (.act none (.px (some 7) (.sliceV 1 (.v 2) none (some (.v 4)) (some (.v 6))))) <|
    .st (.act none (.px (some 1) (.mv (.v 7)))) .done) (.ret)
@[simp] def W56_1 := @C.wpe _ _ K56_1.eq_1
def B_slices_Clip_S_int_int : C := .seq (.pl <| .st (.ext 2 0) <|
    .st (.act none (.px (some 1) (.mv (.c (.slice none 0 0))))) .done) K56_1
@[simp] def WB_slices_Clip_S_int_int := @C.wpe _ _ B_slices_Clip_S_int_int.eq_1
def R_slices_Clip_S_int_int : FIR := ⟨B_slices_Clip_S_int_int, 2, [(1, none)]⟩
theorem IR_slices_Clip_S_int_int : cfun Try.prog H_slices_Clip_S_int_int Try.f56 = some R_slices_Clip_S_int_int := by kernel_rfl
theorem EN_slices_Clip_S_int_int {args : List Value} {h : Heap} {k : Value → Heap → Prop} (hargs : args.length = 1) (hw : B_slices_Clip_S_int_int.wp Try.prog (retQ [(1, none)] k) (env0 args 2) h) : CallE Try.prog fn_slices_Clip_S_int_int args h k := enter Try.func56 rfl IR_slices_Clip_S_int_int hargs hw

def H_slices_Clone_S_bool_bool : Hint := ⟨[(0, false), (2, false)], []⟩
def K125_1 : Pl := .st (.act none (.px (some 1) (.mv (.v 4)))) .done
@[simp] def W125_1 := @Pl.wpe _ _ K125_1.eq_1
def K125_2 : C := .seq (.pl <| .st (.ext 2 3) <|
    .st (.act none (.psl 2 [] [])) <|
    .st (.act none (.px (some 3) (.mv (.v 0)))) <|
    .st (.act none (.ex (some 4) (.app 1 1 [.bool false] (.p 0 2) (.o (.v 3))))) K125_1) (.ret)
@[simp] def W125_2 := @C.wpe _ _ K125_2.eq_1
def K125_3 : C := .seq (.pl <| .st (.ext 2 0) <|
    .st (.act none (.px (some 1) (.mv (.c (.slice none 0 0))))) .done) (.ret)
@[simp] def W125_3 := @C.wpe _ _ K125_3.eq_1
def K125_4 : C := .cond 2 (.v 3) K125_3 (.skip)
@[simp] def W125_4 := @C.wpe _ _ K125_4.eq_1
def K125_5 : C := .seq (.seq (.pl <| .st (.ext 2 2) <|
    .st (.act none (.px (some 2) (.mv (.v 0)))) <|
    .st (.act none (.px (some 3) (.isNil false (.v 2)))) .done) K125_4) K125_2
@[simp] def W125_5 := @C.wpe _ _ K125_5.eq_1
def B_slices_Clone_S_bool_bool : C := .seq (.pl <| .st (.ext 2 0) <|
    .st (.act none (.px (some 1) (.mv (.c (.slice none 0 0))))) .done) K125_5
@[simp] def WB_slices_Clone_S_bool_bool := @C.wpe _ _ B_slices_Clone_S_bool_bool.eq_1
def R_slices_Clone_S_bool_bool : FIR := ⟨B_slices_Clone_S_bool_bool, 2, [(1, none)]⟩
theorem IR_slices_Clone_S_bool_bool : cfun Try.prog H_slices_Clone_S_bool_bool Try.f125 = some R_slices_Clone_S_bool_bool := by kernel_rfl
theorem EN_slices_Clone_S_bool_bool {args : List Value} {h : Heap} {k : Value → Heap → Prop} (hargs : args.length = 1) (hw : B_slices_Clone_S_bool_bool.wp Try.prog (retQ [(1, none)] k) (env0 args 2) h) : CallE Try.prog fn_slices_Clone_S_bool_bool args h k := enter Try.func125 rfl IR_slices_Clone_S_bool_bool hargs hw

def H_slices_Clone_S_impl_Transition_impl_Transition : Hint := ⟨[(0, false), (2, false)], []⟩
def K127_1 : Pl := .st (.act none (.px (some 1) (.mv (.v 4)))) .done
@[simp] def W127_1 := @Pl.wpe _ _ K127_1.eq_1
def K127_2 : C := .seq (.pl <| .st (.ext 2 3) <|
    .st (.act none (.psl 2 [] [])) <|
    .st (.act none (.px (some 3) (.mv (.v 0)))) <|
    .st (.act none (.ex (some 4) (.app 32 4 [.int .i64 0, .int .i64 0, .int .i64 0, .int .i64 0] (.p 0 2) (.o (.v 3))))) K127_1) (.ret)
@[simp] def W127_2 := @C.wpe _ _ K127_2.eq_1
def K127_3 : C := .seq (.pl <| .st (.ext 2 0) <|
    .st (.act none (.px (some 1) (.mv (.c (.slice none 0 0))))) .done) (.ret)
@[simp] def W127_3 := @C.wpe _ _ K127_3.eq_1
def K127_4 : C := .cond 2 (.v 3) K127_3 (.skip)
@[simp] def W127_4 := @C.wpe _ _ K127_4.eq_1
def K127_5 : C := .seq (.seq (.pl <| .st (.ext 2 2) <|
    .st (.act none (.px (some 2) (.mv (.v 0)))) <|
    .st (.act none (.px (some 3) (.isNil false (.v 2)))) .done) K127_4) K127_2
@[simp] def W127_5 := @C.wpe _ _ K127_5.eq_1
def B_slices_Clone_S_impl_Transition_impl_Transition : C := .seq (.pl <| .st (.ext 2 0) <|
    .st (.act none (.px (some 1) (.mv (.c (.slice none 0 0))))) .done) K127_5
@[simp] def WB_slices_Clone_S_impl_Transition_impl_Transition := @C.wpe _ _ B_slices_Clone_S_impl_Transition_impl_Transition.eq_1
def R_slices_Clone_S_impl_Transition_impl_Transition : FIR := ⟨B_slices_Clone_S_impl_Transition_impl_Transition, 2, [(1, none)]⟩
theorem IR_slices_Clone_S_impl_Transition_impl_Transition : cfun Try.prog H_slices_Clone_S_impl_Transition_impl_Transition Try.f127 = some R_slices_Clone_S_impl_Transition_impl_Transition := by kernel_rfl
theorem EN_slices_Clone_S_impl_Transition_impl_Transition {args : List Value} {h : Heap} {k : Value → Heap → Prop} (hargs : args.length = 1) (hw : B_slices_Clone_S_impl_Transition_impl_Transition.wp Try.prog (retQ [(1, none)] k) (env0 args 2) h) : CallE Try.prog fn_slices_Clone_S_impl_Transition_impl_Transition args h k := enter Try.func127 rfl IR_slices_Clone_S_impl_Transition_impl_Transition hargs hw

def H_slices_Clone_S_int_int : Hint := ⟨[(0, false), (2, false)], []⟩
def K121_1 : Pl := .st (.act none (.px (some 1) (.mv (.v 4)))) .done
@[simp] def W121_1 := @Pl.wpe _ _ K121_1.eq_1
def K121_2 : C := .seq (.pl <| .st (.ext 2 3) <|
    .st (.act none (.psl 2 [] [])) <|
    .st (.act none (.px (some 3) (.mv (.v 0)))) <|
    .st (.act none (.ex (some 4) (.app 8 1 [.int .i64 0] (.p 0 2) (.o (.v 3))))) K121_1) (.ret)
@[simp] def W121_2 := @C.wpe _ _ K121_2.eq_1
def K121_3 : C := .seq (.pl <| .st (.ext 2 0) <|
    .st (.act none (.px (some 1) (.mv (.c (.slice none 0 0))))) .done) (.ret)
@[simp] def W121_3 := @C.wpe _ _ K121_3.eq_1
def K121_4 : C := .cond 2 (.v 3) K121_3 (.skip)
@[simp] def W121_4 := @C.wpe _ _ K121_4.eq_1
def K121_5 : C := .seq (.seq (.pl <| .st (.ext 2 2) <|
    .st (.act none (.px (some 2) (.mv (.v 0)))) <|
    .st (.act none (.px (some 3) (.isNil false (.v 2)))) .done) K121_4) K121_2
@[simp] def W121_5 := @C.wpe _ _ K121_5.eq_1
def B_slices_Clone_S_int_int : C := .seq (.pl <| .st (.ext 2 0) <|
    .st (.act none (.px (some 1) (.mv (.c (.slice none 0 0))))) .done) K121_5
@[simp] def WB_slices_Clone_S_int_int := @C.wpe _ _ B_slices_Clone_S_int_int.eq_1
def R_slices_Clone_S_int_int : FIR := ⟨B_slices_Clone_S_int_int, 2, [(1, none)]⟩
theorem IR_slices_Clone_S_int_int : cfun Try.prog H_slices_Clone_S_int_int Try.f121 = some R_slices_Clone_S_int_int := by kernel_rfl
theorem EN_slices_Clone_S_int_int {args : List Value} {h : Heap} {k : Value → Heap → Prop} (hargs : args.length = 1) (hw : B_slices_Clone_S_int_int.wp Try.prog (retQ [(1, none)] k) (env0 args 2) h) : CallE Try.prog fn_slices_Clone_S_int_int args h k := enter Try.func121 rfl IR_slices_Clone_S_int_int hargs hw

def H_slices_Compact_S_int_int : Hint := ⟨[(0, false), (2, false), (3, false), (4, false), (5, false)], [[1, 3, 4], [1]]⟩
def K87_1 : C := .seq (.pl <| .st (.ext 5 1) <|
    .st (.act none (.px (some 5) (.mv (.v 0)))) <|
    .st (.act none (.px (some 1) (.mv (.v 5)))) .done) (.ret)
@[simp] def W87_1 := @C.wpe _ _ K87_1.eq_1
def K87_2 : C := .pl <| .st (.ext 5 2) <|
    .st (.act none (.px (some 5) (.mv (.v 2)))) <|
    .st (.act none (.px (some 6) (.bin .add (.v 5) (.c (.int .i64 1))))) <|
    .st (.act none (.px (some 2) (.mv (.v 6)))) .done
@[simp] def W87_2 := @C.wpe _ _ K87_2.eq_1
def K87_3 : C := .seq (.pl <| .st (.ext 5 3) <|
    .st (.act none (.px (some 5) (.mv (.v 0)))) <|
    .st (.act none (.px (some 6) (.mv (.v 2)))) <|
    .st (.act none (.px (some 7) (.sliceV 1 (.v 5) none (some (.v 6)) none))) <|
    .st (.act none (.px (some 1) (.mv (.v 7)))) .done) (.ret)
@[simp] def W87_3 := @C.wpe _ _ K87_3.eq_1
def K87_4 : C := .seq (.pl <| .st (.ext 5 3) <|
    .st (.act none (.px (some 5) (.mv (.v 0)))) <|
    .st (.act none (.px (some 6) (.mv (.v 2)))) <|
    .st (.act none (.px (some 7) (.sliceV 1 (.v 5) (some (.v 6)) none none))) <|
    .st (.act none (.px none (.extract 0 (.c (.tuple #[]))))) .done) K87_3
@[simp] def W87_4 := @C.wpe _ _ K87_4.eq_1
def K87_5 : C := .pl <| .st (.ext 5 2) <|
    .st (.act none (.px (some 5) (.mv (.v 4)))) <|
    .st (.act none (.px (some 6) (.bin .add (.v 5) (.c (.int .i64 1))))) <|
    .st (.act none (.px (some 4) (.mv (.v 6)))) .done
@[simp] def W87_5 := @C.wpe _ _ K87_5.eq_1
def K87_6 : C := .pl <| .st (.ext 5 2) <|
    .st (.act none (.px (some 5) (.mv (.v 2)))) <|
    .st (.act none (.px (some 6) (.bin .add (.v 5) (.c (.int .i64 1))))) <|
    .st (.act none (.px (some 2) (.mv (.v 6)))) .done
@[simp] def W87_6 := @C.wpe _ _ K87_6.eq_1
def K87_7 : C := .seq (.pl <| .st (.ext 5 7) <|
    .st (.act none (.px (some 5) (.mv (.v 0)))) <|
    .st (.act none (.px (some 6) (.mv (.v 2)))) <|
    .st (.act none (.px (some 7) (.mv (.v 3)))) <|
    .st (.act none (.px (some 8) (.mv (.v 4)))) <|
    .st (.act none (.px (some 9) (.ia 1 (.v 7) (.v 8)))) <|
    .st (.act none (.ld (some 10) (.v 9) none)) <|
    .st (.act none (.px (some 11) (.ia 1 (.v 5) (.v 6)))) <|
    .st (.act none (.ex none (.store 1 (.v 11) (.v 10)))) .done) K87_6
@[simp] def W87_7 := @C.wpe _ _ K87_7.eq_1
def K87_8 : C := .cond 5 (.v 14) K87_7 (.skip)
@[simp] def W87_8 := @C.wpe _ _ K87_8.eq_1
def K87_9 : C := .seq (.block 3 (.seq (.pl <| .st (.ext 5 10) <|
    .st (.act none (.px (some 5) (.mv (.v 3)))) <|
    .st (.act none (.px (some 6) (.mv (.v 4)))) <|
    .st (.act none (.px (some 7) (.ia 1 (.v 5) (.v 6)))) <|
    .st (.act none (.ld (some 8) (.v 7) none)) <|
    .st (.act none (.px (some 9) (.mv (.v 3)))) <|
    .st (.act none (.px (some 10) (.mv (.v 4)))) <|
    .st (.act none (.px (some 11) (.bin .sub (.v 10) (.c (.int .i64 1))))) <|
    .st (.act none (.px (some 12) (.ia 1 (.v 9) (.v 11)))) <|
    .st (.act none (.ld (some 13) (.v 12) none)) <|
    .st (.act none (.px (some 14) (.bin .neq (.v 8) (.v 13)))) .done) K87_8)) K87_5
@[simp] def W87_9 := @C.wpe _ _ K87_9.eq_1
def K87_10 : C := .cond 5 (.v 8) (.skip) (.exit 2)
@[simp] def W87_10 := @C.wpe _ _ K87_10.eq_1
def K87_11 : C := .seq (.seq (.pl <| .st (.ext 5 4) <|
    .st (.act none (.px (some 5) (.mv (.v 4)))) <|
    .st (.act none (.px (some 6) (.mv (.v 3)))) <|
    .st (.act none (.px (some 7) (.lenV (.v 6)))) <|
    .st (.act none (.px (some 8) (.bin .lss (.v 5) (.v 7)))) .done) K87_10) K87_9
@[simp] def W87_11 := @C.wpe _ _ K87_11.eq_1
def K87_12 : C := .block 2 (.loop 5 [1] K87_11)
@[simp] def W87_12 := @C.wpe _ _ K87_12.eq_1
def K87_13 : C := .seq (.seq (.pl <| .st (.ext 5 0) <|
    .st (.act none (.px (some 4) (.mv (.c (.int .i64 1))))) .done) K87_12) K87_4
@[simp] def W87_13 := @C.wpe _ _ K87_13.eq_1
def K87_14 : C := .seq (.pl <| .st (.ext 5 3) <|
    .st (.act none (.px (some 5) (.mv (.v 0)))) <|
    .st (.act none (.px (some 6) (.mv (.v 2)))) <|
    .st (.act none (.px (some 7) (.sliceV 1 (.v 5) (some (.v 6)) none none))) <|
    .st (.act none (.px (some 3) (.mv (.v 7)))) .done) K87_13
@[simp] def W87_14 := @C.wpe _ _ K87_14.eq_1
def K87_15 : C := .cond 5 (.v 14) K87_14 (.skip)
@[simp] def W87_15 := @C.wpe _ _ K87_15.eq_1
def K87_16 : C := .seq (.block 1 (.seq (.pl <| .st (.ext 5 10) <|
    .st (.act none (.px (some 5) (.mv (.v 0)))) <|
    .st (.act none (.px (some 6) (.mv (.v 2)))) <|
    .st (.act none (.px (some 7) (.ia 1 (.v 5) (.v 6)))) <|
    .st (.act none (.ld (some 8) (.v 7) none)) <|
    .st (.act none (.px (some 9) (.mv (.v 0)))) <|
    .st (.act none (.px (some 10) (.mv (.v 2)))) <|
    .st (.act none (.px (some 11) (.bin .sub (.v 10) (.c (.int .i64 1))))) <|
    .st (.act none (.px (some 12) (.ia 1 (.v 9) (.v 11)))) <|
    .st (.act none (.ld (some 13) (.v 12) none)) <|
    .st (.act none (.px (some 14) (.bin .eql (.v 8) (.v 13)))) .done) K87_15)) K87_2
@[simp] def W87_16 := @C.wpe _ _ K87_16.eq_1
def K87_17 : C := .cond 5 (.v 8) (.skip) (.exit 0)
@[simp] def W87_17 := @C.wpe _ _ K87_17.eq_1
def K87_18 : C := .seq (.seq (.pl <| .st (.ext 5 4) <|
    .st (.act none (.px (some 5) (.mv (.v 2)))) <|
    .st (.act none (.px (some 6) (.mv (.v 0)))) <|
    .st (.act none (.px (some 7) (.lenV (.v 6)))) <|
    .st (.act none (.px (some 8) (.bin .lss (.v 5) (.v 7)))) .done) K87_17) K87_16
@[simp] def W87_18 := @C.wpe _ _ K87_18.eq_1
def K87_19 : C := .block 0 (.loop 5 [1, 3, 4] K87_18)
@[simp] def W87_19 := @C.wpe _ _ K87_19.eq_1
def K87_20 : C := .seq (.seq (.pl <| .st (.ext 5 0) <|
    .st (.act none (.px (some 2) (.mv (.c (.int .i64 1))))) .done) K87_19) K87_1
@[simp] def W87_20 := @C.wpe _ _ K87_20.eq_1
def K87_21 : C := .seq (.pl <| .st (.ext 5 1) <|
    .st (.act none (.px (some 5) (.mv (.v 0)))) <|
    .st (.act none (.px (some 1) (.mv (.v 5)))) .done) (.ret)
@[simp] def W87_21 := @C.wpe _ _ K87_21.eq_1
def K87_22 : C := .cond 5 (.v 7) K87_21 (.skip)
@[simp] def W87_22 := @C.wpe _ _ K87_22.eq_1
def K87_23 : C := .seq (.seq (.pl <| .st (.ext 5 3) <|
    .st (.act none (.px (some 5) (.mv (.v 0)))) <|
    .st (.act none (.px (some 6) (.lenV (.v 5)))) <|
    .st (.act none (.px (some 7) (.bin .lss (.v 6) (.c (.int .i64 2))))) .done) K87_22) K87_20
@[simp] def W87_23 := @C.wpe _ _ K87_23.eq_1
def B_slices_Compact_S_int_int : C := .seq (.pl <| .st (.ext 5 0) <|
    .st (.act none (.px (some 1) (.mv (.c (.slice none 0 0))))) .done) K87_23
@[simp] def WB_slices_Compact_S_int_int := @C.wpe _ _ B_slices_Compact_S_int_int.eq_1
def R_slices_Compact_S_int_int : FIR := ⟨B_slices_Compact_S_int_int, 5, [(1, none)]⟩
theorem IR_slices_Compact_S_int_int : cfun Try.prog H_slices_Compact_S_int_int Try.f87 = some R_slices_Compact_S_int_int := by kernel_rfl
theorem EN_slices_Compact_S_int_int {args : List Value} {h : Heap} {k : Value → Heap → Prop} (hargs : args.length = 1) (hw : B_slices_Compact_S_int_int.wp Try.prog (retQ [(1, none)] k) (env0 args 5) h) : CallE Try.prog fn_slices_Compact_S_int_int args h k := enter Try.func87 rfl IR_slices_Compact_S_int_int hargs hw

def H_slices_Concat_S_int_int : Hint := ⟨[(0, false), (2, false), (3, false), (5, false), (6, false), (8, false), (9, false), (10, false), (11, false), (25, false), (26, false), (27, false)], [[1, 3, 4, 5, 9, 10, 11], [0, 1, 2, 3, 5, 6, 7, 8]]⟩
def K57_1 : C := .seq (.pl <| .st (.ext 12 1) <|
    .st (.act none (.px (some 12) (.mv (.v 4)))) <|
    .st (.act none (.px (some 1) (.mv (.v 12)))) .done) (.ret)
@[simp] def W57_1 := @C.wpe _ _ K57_1.eq_1
def K57_2 : C := .pl <| .st (.ext 12 1) <|
    .st (.act none (.px (some 12) (.bin .add (.v 11) (.c (.int .i64 1))))) <|
    .st (.act none (.px (some 11) (.mv (.v 12)))) .done
@[simp] def W57_2 := @C.wpe _ _ K57_2.eq_1
def K57_3 : Pl := .st (.act none (.px (some 4) (.mv (.v 14)))) .done
@[simp] def W57_3 := @Pl.wpe _ _ K57_3.eq_1
def K57_4 : C := .pl <| .st (.ext 12 3) <|
    .st (.act none (.px (some 12) (.mv (.v 4)))) <|
    .st (.act none (.px (some 13) (.mv (.v 5)))) <|
    .st (.act none (.ex (some 14) (.app 8 1 [.int .i64 0] (.o (.v 12)) (.o (.v 13))))) K57_3
@[simp] def W57_4 := @C.wpe _ _ K57_4.eq_1
def K57_5 : C := .seq (.block 3 (.seq (.pl <| .st (.ext 12 2) <|
    .st (.act none (.px (some 12) (.ia 1 (.v 9) (.v 11)))) <|
    .st (.act none (.ld (some 13) (.v 12) none)) <|
    .st (.act none (.px (some 5) (.mv (.v 13)))) .done) K57_4)) K57_2
@[simp] def W57_5 := @C.wpe _ _ K57_5.eq_1
def K57_6 : C := .seq (.cond 12 (.v 12) (.skip) (.exit 2)) K57_5
@[simp] def W57_6 := @C.wpe _ _ K57_6.eq_1
def K57_7 : C := .seq (.pl <| .st (.ext 12 1) <|
    .st (.act none (.px (some 12) (.bin .lss (.v 11) (.v 10)))) .done) K57_6
@[simp] def W57_7 := @C.wpe _ _ K57_7.eq_1
def K57_8 : C := .block 2 (.loop 12 [0, 1, 2, 3, 5, 6, 7, 8] K57_7)
@[simp] def W57_8 := @C.wpe _ _ K57_8.eq_1
def K57_9 : C := .seq (.seq (.pl <| .st (.ext 12 0) <|
    .st (.act none (.px (some 9) (.mv (.v 0)))) <|
    .st (.act none (.px (some 10) (.lenV (.v 9)))) <|
    .st (.act none (.px (some 11) (.mv (.c (.int .i64 0))))) .done) K57_8) K57_1
@[simp] def W57_9 := @C.wpe _ _ K57_9.eq_1
def K57_10 : Pl := .st (.act none (.px (some 4) (.mv (.v 13)))) .done
@[simp] def W57_10 := @Pl.wpe _ _ K57_10.eq_1
def K57_11 : C := .seq (.pl <| .st (.ext 12 2) <|
    .st (.act none (.px (some 12) (.mv (.v 2)))) <|
    .st (.act none (.ex (some 13) (.call fn_slices_Grow_S_int_int [.c (.slice none 0 0), .v 12]))) K57_10) K57_9
@[simp] def W57_11 := @C.wpe _ _ K57_11.eq_1
def K57_12 : C := .pl <| .st (.ext 12 1) <|
    .st (.act none (.px (some 12) (.bin .add (.v 8) (.c (.int .i64 1))))) <|
    .st (.act none (.px (some 8) (.mv (.v 12)))) .done
@[simp] def W57_12 := @C.wpe _ _ K57_12.eq_1
def K57_13 : C := .pl <| .st (.ext 12 1) <|
    .st (.act none (.px none (.extract 0 (.c (.tuple #[]))))) <|
    .st (.act none (.px none (.extract 0 (.c (.tuple #[]))))) .done
@[simp] def W57_13 := @C.wpe _ _ K57_13.eq_1
def K57_14 : C := .cond 12 (.v 13) K57_13 (.skip)
@[simp] def W57_14 := @C.wpe _ _ K57_14.eq_1
def K57_15 : C := .seq (.pl <| .st (.ext 12 2) <|
    .st (.act none (.px (some 12) (.mv (.v 2)))) <|
    .st (.act none (.px (some 13) (.bin .lss (.v 12) (.c (.int .i64 0))))) .done) K57_14
@[simp] def W57_15 := @C.wpe _ _ K57_15.eq_1
def K57_16 : C := .seq (.pl <| .st (.ext 12 4) <|
    .st (.act none (.px (some 12) (.mv (.v 2)))) <|
    .st (.act none (.px (some 13) (.mv (.v 3)))) <|
    .st (.act none (.px (some 14) (.lenV (.v 13)))) <|
    .st (.act none (.px (some 15) (.bin .add (.v 12) (.v 14)))) <|
    .st (.act none (.px (some 2) (.mv (.v 15)))) .done) K57_15
@[simp] def W57_16 := @C.wpe _ _ K57_16.eq_1
def K57_17 : C := .seq (.block 1 (.seq (.pl <| .st (.ext 12 2) <|
    .st (.act none (.px (some 12) (.ia 1 (.v 6) (.v 8)))) <|
    .st (.act none (.ld (some 13) (.v 12) none)) <|
    .st (.act none (.px (some 3) (.mv (.v 13)))) .done) K57_16)) K57_12
@[simp] def W57_17 := @C.wpe _ _ K57_17.eq_1
def K57_18 : C := .seq (.cond 12 (.v 12) (.skip) (.exit 0)) K57_17
@[simp] def W57_18 := @C.wpe _ _ K57_18.eq_1
def K57_19 : C := .seq (.pl <| .st (.ext 12 1) <|
    .st (.act none (.px (some 12) (.bin .lss (.v 8) (.v 7)))) .done) K57_18
@[simp] def W57_19 := @C.wpe _ _ K57_19.eq_1
def K57_20 : C := .block 0 (.loop 12 [1, 3, 4, 5, 9, 10, 11] K57_19)
@[simp] def W57_20 := @C.wpe _ _ K57_20.eq_1
def K57_21 : C := .seq (.seq (.pl <| .st (.ext 12 0) <|
    .st (.act none (.px (some 6) (.mv (.v 0)))) <|
    .st (.act none (.px (some 7) (.lenV (.v 6)))) <|
    .st (.act none (.px (some 8) (.mv (.c (.int .i64 0))))) .done) K57_20) K57_11
@[simp] def W57_21 := @C.wpe _ _ K57_21.eq_1
def K57_22 : C := .seq (.pl <| .st (.ext 12 0) <|
    .st (.act none (.px (some 2) (.mv (.c (.int .i64 0))))) .done) K57_21
@[simp] def W57_22 := @C.wpe _ _ K57_22.eq_1
def B_slices_Concat_S_int_int : C := .seq (.pl <| .st (.ext 12 0) <|
    .st (.act none (.px (some 1) (.mv (.c (.slice none 0 0))))) .done) K57_22
@[simp] def WB_slices_Concat_S_int_int := @C.wpe _ _ B_slices_Concat_S_int_int.eq_1
def R_slices_Concat_S_int_int : FIR := ⟨B_slices_Concat_S_int_int, 12, [(1, none)]⟩
theorem IR_slices_Concat_S_int_int : cfun Try.prog H_slices_Concat_S_int_int Try.f57 = some R_slices_Concat_S_int_int := by kernel_rfl
theorem EN_slices_Concat_S_int_int {args : List Value} {h : Heap} {k : Value → Heap → Prop} (hargs : args.length = 1) (hw : B_slices_Concat_S_int_int.wp Try.prog (retQ [(1, none)] k) (env0 args 12) h) : CallE Try.prog fn_slices_Concat_S_int_int args h k := enter Try.func57 rfl IR_slices_Concat_S_int_int hargs hw

def H_slices_ContainsFunc_S_impl_Transition_impl_Transition : Hint := ⟨[(0, false), (1, false), (4, false)], []⟩
def K66_1 : Pl := .st (.act none (.px (some 6) (.bin .geq (.v 5) (.c (.int .i64 0))))) <|
    .st (.act none (.px (some 2) (.mv (.v 6)))) .done
@[simp] def W66_1 := @Pl.wpe _ _ K66_1.eq_1
def K66_2 : C := .seq (.pl <| .st (.ext 3 4) <|
    .st (.act none (.px (some 3) (.mv (.v 0)))) <|
    .st (.act none (.px (some 4) (.mv (.v 1)))) <|
    .st (.act none (.ex (some 5) (.call fn_slices_IndexFunc_S_impl_Transition_impl_Transition [.v 3, .v 4]))) K66_1) (.ret)
@[simp] def W66_2 := @C.wpe _ _ K66_2.eq_1
def B_slices_ContainsFunc_S_impl_Transition_impl_Transition : C := .seq (.pl <| .st (.ext 3 0) <|
    .st (.act none (.px (some 2) (.mv (.c (.bool false))))) .done) K66_2
@[simp] def WB_slices_ContainsFunc_S_impl_Transition_impl_Transition := @C.wpe _ _ B_slices_ContainsFunc_S_impl_Transition_impl_Transition.eq_1
def R_slices_ContainsFunc_S_impl_Transition_impl_Transition : FIR := ⟨B_slices_ContainsFunc_S_impl_Transition_impl_Transition, 3, [(2, none)]⟩
theorem IR_slices_ContainsFunc_S_impl_Transition_impl_Transition : cfun Try.prog H_slices_ContainsFunc_S_impl_Transition_impl_Transition Try.f66 = some R_slices_ContainsFunc_S_impl_Transition_impl_Transition := by kernel_rfl
theorem EN_slices_ContainsFunc_S_impl_Transition_impl_Transition {args : List Value} {h : Heap} {k : Value → Heap → Prop} (hargs : args.length = 2) (hw : B_slices_ContainsFunc_S_impl_Transition_impl_Transition.wp Try.prog (retQ [(2, none)] k) (env0 args 3) h) : CallE Try.prog fn_slices_ContainsFunc_S_impl_Transition_impl_Transition args h k := enter Try.func66 rfl IR_slices_ContainsFunc_S_impl_Transition_impl_Transition hargs hw

def H_slices_ContainsFunc_S_int_int : Hint := ⟨[(0, false), (1, false), (4, false)], []⟩
def K105_1 : Pl := .st (.act none (.px (some 6) (.bin .geq (.v 5) (.c (.int .i64 0))))) <|
    .st (.act none (.px (some 2) (.mv (.v 6)))) .done
@[simp] def W105_1 := @Pl.wpe _ _ K105_1.eq_1
def K105_2 : C := .seq (.pl <| .st (.ext 3 4) <|
    .st (.act none (.px (some 3) (.mv (.v 0)))) <|
    .st (.act none (.px (some 4) (.mv (.v 1)))) <|
    .st (.act none (.ex (some 5) (.call fn_slices_IndexFunc_S_int_int [.v 3, .v 4]))) K105_1) (.ret)
@[simp] def W105_2 := @C.wpe _ _ K105_2.eq_1
def B_slices_ContainsFunc_S_int_int : C := .seq (.pl <| .st (.ext 3 0) <|
    .st (.act none (.px (some 2) (.mv (.c (.bool false))))) .done) K105_2
@[simp] def WB_slices_ContainsFunc_S_int_int := @C.wpe _ _ B_slices_ContainsFunc_S_int_int.eq_1
def R_slices_ContainsFunc_S_int_int : FIR := ⟨B_slices_ContainsFunc_S_int_int, 3, [(2, none)]⟩
theorem IR_slices_ContainsFunc_S_int_int : cfun Try.prog H_slices_ContainsFunc_S_int_int Try.f105 = some R_slices_ContainsFunc_S_int_int := by kernel_rfl
theorem EN_slices_ContainsFunc_S_int_int {args : List Value} {h : Heap} {k : Value → Heap → Prop} (hargs : args.length = 2) (hw : B_slices_ContainsFunc_S_int_int.wp Try.prog (retQ [(2, none)] k) (env0 args 3) h) : CallE Try.prog fn_slices_ContainsFunc_S_int_int args h k := enter Try.func105 rfl IR_slices_ContainsFunc_S_int_int hargs hw

def H_slices_Contains_S_int_int : Hint := ⟨[(0, false), (1, false), (4, false)], []⟩
def K123_1 : Pl := .st (.act none (.px (some 6) (.bin .geq (.v 5) (.c (.int .i64 0))))) <|
    .st (.act none (.px (some 2) (.mv (.v 6)))) .done
@[simp] def W123_1 := @Pl.wpe _ _ K123_1.eq_1
def K123_2 : C := .seq (.pl <| .st (.ext 3 4) <|
    .st (.act none (.px (some 3) (.mv (.v 0)))) <|
    .st (.act none (.px (some 4) (.mv (.v 1)))) <|
    .st (.act none (.ex (some 5) (.call fn_slices_Index_S_int_int [.v 3, .v 4]))) K123_1) (.ret)
@[simp] def W123_2 := @C.wpe _ _ K123_2.eq_1
def B_slices_Contains_S_int_int : C := .seq (.pl <| .st (.ext 3 0) <|
    .st (.act none (.px (some 2) (.mv (.c (.bool false))))) .done) K123_2
@[simp] def WB_slices_Contains_S_int_int := @C.wpe _ _ B_slices_Contains_S_int_int.eq_1
def R_slices_Contains_S_int_int : FIR := ⟨B_slices_Contains_S_int_int, 3, [(2, none)]⟩
theorem IR_slices_Contains_S_int_int : cfun Try.prog H_slices_Contains_S_int_int Try.f123 = some R_slices_Contains_S_int_int := by kernel_rfl
theorem EN_slices_Contains_S_int_int {args : List Value} {h : Heap} {k : Value → Heap → Prop} (hargs : args.length = 2) (hw : B_slices_Contains_S_int_int.wp Try.prog (retQ [(2, none)] k) (env0 args 3) h) : CallE Try.prog fn_slices_Contains_S_int_int args h k := enter Try.func123 rfl IR_slices_Contains_S_int_int hargs hw

def H_slices_Equal_S_bool_bool : Hint := ⟨[(0, false), (1, false), (4, false), (5, false), (12, false), (13, false)], [[2, 3]]⟩
def K114_1 : C := .seq (.pl <| .st (.ext 6 0) <|
    .st (.act none (.px (some 2) (.mv (.c (.bool true))))) .done) (.ret)
@[simp] def W114_1 := @C.wpe _ _ K114_1.eq_1
def K114_2 : C := .pl <| .st (.ext 6 1) <|
    .st (.act none (.px (some 6) (.bin .add (.v 5) (.c (.int .i64 1))))) <|
    .st (.act none (.px (some 5) (.mv (.v 6)))) .done
@[simp] def W114_2 := @C.wpe _ _ K114_2.eq_1
def K114_3 : C := .seq (.pl <| .st (.ext 6 0) <|
    .st (.act none (.px (some 2) (.mv (.c (.bool false))))) .done) (.ret)
@[simp] def W114_3 := @C.wpe _ _ K114_3.eq_1
def K114_4 : C := .cond 6 (.v 14) K114_3 (.skip)
@[simp] def W114_4 := @C.wpe _ _ K114_4.eq_1
def K114_5 : C := .seq (.pl <| .st (.ext 6 9) <|
    .st (.act none (.px (some 6) (.mv (.v 0)))) <|
    .st (.act none (.px (some 7) (.mv (.v 3)))) <|
    .st (.act none (.px (some 8) (.ia 1 (.v 6) (.v 7)))) <|
    .st (.act none (.ld (some 9) (.v 8) none)) <|
    .st (.act none (.px (some 10) (.mv (.v 1)))) <|
    .st (.act none (.px (some 11) (.mv (.v 3)))) <|
    .st (.act none (.px (some 12) (.ia 1 (.v 10) (.v 11)))) <|
    .st (.act none (.ld (some 13) (.v 12) none)) <|
    .st (.act none (.px (some 14) (.eqb true (.v 9) (.v 13)))) .done) K114_4
@[simp] def W114_5 := @C.wpe _ _ K114_5.eq_1
def K114_6 : C := .seq (.block 1 (.seq (.pl <| .st (.ext 6 1) <|
    .st (.act none (.px (some 6) (.mv (.v 5)))) <|
    .st (.act none (.px (some 3) (.mv (.v 6)))) .done) K114_5)) K114_2
@[simp] def W114_6 := @C.wpe _ _ K114_6.eq_1
def K114_7 : C := .seq (.cond 6 (.v 6) (.skip) (.exit 0)) K114_6
@[simp] def W114_7 := @C.wpe _ _ K114_7.eq_1
def K114_8 : C := .seq (.pl <| .st (.ext 6 1) <|
    .st (.act none (.px (some 6) (.bin .lss (.v 5) (.v 4)))) .done) K114_7
@[simp] def W114_8 := @C.wpe _ _ K114_8.eq_1
def K114_9 : C := .block 0 (.loop 6 [2, 3] K114_8)
@[simp] def W114_9 := @C.wpe _ _ K114_9.eq_1
def K114_10 : C := .seq (.seq (.pl <| .st (.ext 6 1) <|
    .st (.act none (.px (some 6) (.mv (.v 0)))) <|
    .st (.act none (.px (some 4) (.lenV (.v 6)))) <|
    .st (.act none (.px (some 5) (.mv (.c (.int .i64 0))))) .done) K114_9) K114_1
@[simp] def W114_10 := @C.wpe _ _ K114_10.eq_1
def K114_11 : C := .seq (.pl <| .st (.ext 6 0) <|
    .st (.act none (.px (some 2) (.mv (.c (.bool false))))) .done) (.ret)
@[simp] def W114_11 := @C.wpe _ _ K114_11.eq_1
def K114_12 : C := .cond 6 (.v 10) K114_11 (.skip)
@[simp] def W114_12 := @C.wpe _ _ K114_12.eq_1
def K114_13 : C := .seq (.seq (.pl <| .st (.ext 6 5) <|
    .st (.act none (.px (some 6) (.mv (.v 0)))) <|
    .st (.act none (.px (some 7) (.lenV (.v 6)))) <|
    .st (.act none (.px (some 8) (.mv (.v 1)))) <|
    .st (.act none (.px (some 9) (.lenV (.v 8)))) <|
    .st (.act none (.px (some 10) (.bin .neq (.v 7) (.v 9)))) .done) K114_12) K114_10
@[simp] def W114_13 := @C.wpe _ _ K114_13.eq_1
def B_slices_Equal_S_bool_bool : C := .seq (.pl <| .st (.ext 6 0) <|
    .st (.act none (.px (some 2) (.mv (.c (.bool false))))) .done) K114_13
@[simp] def WB_slices_Equal_S_bool_bool := @C.wpe _ _ B_slices_Equal_S_bool_bool.eq_1
def R_slices_Equal_S_bool_bool : FIR := ⟨B_slices_Equal_S_bool_bool, 6, [(2, none)]⟩
theorem IR_slices_Equal_S_bool_bool : cfun Try.prog H_slices_Equal_S_bool_bool Try.f114 = some R_slices_Equal_S_bool_bool := by kernel_rfl
theorem EN_slices_Equal_S_bool_bool {args : List Value} {h : Heap} {k : Value → Heap → Prop} (hargs : args.length = 2) (hw : B_slices_Equal_S_bool_bool.wp Try.prog (retQ [(2, none)] k) (env0 args 6) h) : CallE Try.prog fn_slices_Equal_S_bool_bool args h k := enter Try.func114 rfl IR_slices_Equal_S_bool_bool hargs hw

def H_slices_Equal_S_impl_Transition_impl_Transition : Hint := ⟨[(0, false), (1, false), (4, false), (5, false), (12, false), (13, false)], [[2, 3]]⟩
def K115_1 : C := .seq (.pl <| .st (.ext 6 0) <|
    .st (.act none (.px (some 2) (.mv (.c (.bool true))))) .done) (.ret)
@[simp] def W115_1 := @C.wpe _ _ K115_1.eq_1
def K115_2 : C := .pl <| .st (.ext 6 1) <|
    .st (.act none (.px (some 6) (.bin .add (.v 5) (.c (.int .i64 1))))) <|
    .st (.act none (.px (some 5) (.mv (.v 6)))) .done
@[simp] def W115_2 := @C.wpe _ _ K115_2.eq_1
def K115_3 : C := .seq (.pl <| .st (.ext 6 0) <|
    .st (.act none (.px (some 2) (.mv (.c (.bool false))))) .done) (.ret)
@[simp] def W115_3 := @C.wpe _ _ K115_3.eq_1
def K115_4 : C := .cond 6 (.v 14) K115_3 (.skip)
@[simp] def W115_4 := @C.wpe _ _ K115_4.eq_1
def K115_5 : C := .seq (.pl <| .st (.ext 6 9) <|
    .st (.act none (.px (some 6) (.mv (.v 0)))) <|
    .st (.act none (.px (some 7) (.mv (.v 3)))) <|
    .st (.act none (.px (some 8) (.ia 4 (.v 6) (.v 7)))) <|
    .st (.act none (.ld (some 9) (.v 8) (some 4))) <|
    .st (.act none (.px (some 10) (.mv (.v 1)))) <|
    .st (.act none (.px (some 11) (.mv (.v 3)))) <|
    .st (.act none (.px (some 12) (.ia 4 (.v 10) (.v 11)))) <|
    .st (.act none (.ld (some 13) (.v 12) (some 4))) <|
    .st (.act none (.px (some 14) (.eqf true [.i, .i, .i, .i] (.v 9) (.v 13)))) .done) K115_4
@[simp] def W115_5 := @C.wpe _ _ K115_5.eq_1
def K115_6 : C := .seq (.block 1 (.seq (.pl <| .st (.ext 6 1) <|
    .st (.act none (.px (some 6) (.mv (.v 5)))) <|
    .st (.act none (.px (some 3) (.mv (.v 6)))) .done) K115_5)) K115_2
@[simp] def W115_6 := @C.wpe _ _ K115_6.eq_1
def K115_7 : C := .seq (.cond 6 (.v 6) (.skip) (.exit 0)) K115_6
@[simp] def W115_7 := @C.wpe _ _ K115_7.eq_1
def K115_8 : C := .seq (.pl <| .st (.ext 6 1) <|
    .st (.act none (.px (some 6) (.bin .lss (.v 5) (.v 4)))) .done) K115_7
@[simp] def W115_8 := @C.wpe _ _ K115_8.eq_1
def K115_9 : C := .block 0 (.loop 6 [2, 3] K115_8)
@[simp] def W115_9 := @C.wpe _ _ K115_9.eq_1
def K115_10 : C := .seq (.seq (.pl <| .st (.ext 6 1) <|
    .st (.act none (.px (some 6) (.mv (.v 0)))) <|
    .st (.act none (.px (some 4) (.lenV (.v 6)))) <|
    .st (.act none (.px (some 5) (.mv (.c (.int .i64 0))))) .done) K115_9) K115_1
@[simp] def W115_10 := @C.wpe _ _ K115_10.eq_1
def K115_11 : C := .seq (.pl <| .st (.ext 6 0) <|
    .st (.act none (.px (some 2) (.mv (.c (.bool false))))) .done) (.ret)
@[simp] def W115_11 := @C.wpe _ _ K115_11.eq_1
def K115_12 : C := .cond 6 (.v 10) K115_11 (.skip)
@[simp] def W115_12 := @C.wpe _ _ K115_12.eq_1
def K115_13 : C := .seq (.seq (.pl <| .st (.ext 6 5) <|
    .st (.act none (.px (some 6) (.mv (.v 0)))) <|
    .st (.act none (.px (some 7) (.lenV (.v 6)))) <|
    .st (.act none (.px (some 8) (.mv (.v 1)))) <|
    .st (.act none (.px (some 9) (.lenV (.v 8)))) <|
    .st (.act none (.px (some 10) (.bin .neq (.v 7) (.v 9)))) .done) K115_12) K115_10
@[simp] def W115_13 := @C.wpe _ _ K115_13.eq_1
def B_slices_Equal_S_impl_Transition_impl_Transition : C := .seq (.pl <| .st (.ext 6 0) <|
    .st (.act none (.px (some 2) (.mv (.c (.bool false))))) .done) K115_13
@[simp] def WB_slices_Equal_S_impl_Transition_impl_Transition := @C.wpe _ _ B_slices_Equal_S_impl_Transition_impl_Transition.eq_1
def R_slices_Equal_S_impl_Transition_impl_Transition : FIR := ⟨B_slices_Equal_S_impl_Transition_impl_Transition, 6, [(2, none)]⟩
theorem IR_slices_Equal_S_impl_Transition_impl_Transition : cfun Try.prog H_slices_Equal_S_impl_Transition_impl_Transition Try.f115 = some R_slices_Equal_S_impl_Transition_impl_Transition := by kernel_rfl
theorem EN_slices_Equal_S_impl_Transition_impl_Transition {args : List Value} {h : Heap} {k : Value → Heap → Prop} (hargs : args.length = 2) (hw : B_slices_Equal_S_impl_Transition_impl_Transition.wp Try.prog (retQ [(2, none)] k) (env0 args 6) h) : CallE Try.prog fn_slices_Equal_S_impl_Transition_impl_Transition args h k := enter Try.func115 rfl IR_slices_Equal_S_impl_Transition_impl_Transition hargs hw

def H_slices_Equal_S_int_int : Hint := ⟨[(0, false), (1, false), (4, false), (5, false), (12, false), (13, false)], [[2, 3]]⟩
def K113_1 : C := .seq (.pl <| .st (.ext 6 0) <|
    .st (.act none (.px (some 2) (.mv (.c (.bool true))))) .done) (.ret)
@[simp] def W113_1 := @C.wpe _ _ K113_1.eq_1
def K113_2 : C := .pl <| .st (.ext 6 1) <|
    .st (.act none (.px (some 6) (.bin .add (.v 5) (.c (.int .i64 1))))) <|
    .st (.act none (.px (some 5) (.mv (.v 6)))) .done
@[simp] def W113_2 := @C.wpe _ _ K113_2.eq_1
def K113_3 : C := .seq (.pl <| .st (.ext 6 0) <|
    .st (.act none (.px (some 2) (.mv (.c (.bool false))))) .done) (.ret)
@[simp] def W113_3 := @C.wpe _ _ K113_3.eq_1
def K113_4 : C := .cond 6 (.v 14) K113_3 (.skip)
@[simp] def W113_4 := @C.wpe _ _ K113_4.eq_1
def K113_5 : C := .seq (.pl <| .st (.ext 6 9) <|
    .st (.act none (.px (some 6) (.mv (.v 0)))) <|
    .st (.act none (.px (some 7) (.mv (.v 3)))) <|
    .st (.act none (.px (some 8) (.ia 1 (.v 6) (.v 7)))) <|
    .st (.act none (.ld (some 9) (.v 8) none)) <|
    .st (.act none (.px (some 10) (.mv (.v 1)))) <|
    .st (.act none (.px (some 11) (.mv (.v 3)))) <|
    .st (.act none (.px (some 12) (.ia 1 (.v 10) (.v 11)))) <|
    .st (.act none (.ld (some 13) (.v 12) none)) <|
    .st (.act none (.px (some 14) (.bin .neq (.v 9) (.v 13)))) .done) K113_4
@[simp] def W113_5 := @C.wpe _ _ K113_5.eq_1
def K113_6 : C := .seq (.block 1 (.seq (.pl <| .st (.ext 6 1) <|
    .st (.act none (.px (some 6) (.mv (.v 5)))) <|
    .st (.act none (.px (some 3) (.mv (.v 6)))) .done) K113_5)) K113_2
@[simp] def W113_6 := @C.wpe _ _ K113_6.eq_1
def K113_7 : C := .seq (.cond 6 (.v 6) (.skip) (.exit 0)) K113_6
@[simp] def W113_7 := @C.wpe _ _ K113_7.eq_1
def K113_8 : C := .seq (.pl <| .st (.ext 6 1) <|
    .st (.act none (.px (some 6) (.bin .lss (.v 5) (.v 4)))) .done) K113_7
@[simp] def W113_8 := @C.wpe _ _ K113_8.eq_1
def K113_9 : C := .block 0 (.loop 6 [2, 3] K113_8)
@[simp] def W113_9 := @C.wpe _ _ K113_9.eq_1
def K113_10 : C := .seq (.seq (.pl <| .st (.ext 6 1) <|
    .st (.act none (.px (some 6) (.mv (.v 0)))) <|
    .st (.act none (.px (some 4) (.lenV (.v 6)))) <|
    .st (.act none (.px (some 5) (.mv (.c (.int .i64 0))))) .done) K113_9) K113_1
@[simp] def W113_10 := @C.wpe _ _ K113_10.eq_1
def K113_11 : C := .seq (.pl <| .st (.ext 6 0) <|
    .st (.act none (.px (some 2) (.mv (.c (.bool false))))) .done) (.ret)
@[simp] def W113_11 := @C.wpe _ _ K113_11.eq_1
def K113_12 : C := .cond 6 (.v 10) K113_11 (.skip)
@[simp] def W113_12 := @C.wpe _ _ K113_12.eq_1
def K113_13 : C := .seq (.seq (.pl <| .st (.ext 6 5) <|
    .st (.act none (.px (some 6) (.mv (.v 0)))) <|
    .st (.act none (.px (some 7) (.lenV (.v 6)))) <|
    .st (.act none (.px (some 8) (.mv (.v 1)))) <|
    .st (.act none (.px (some 9) (.lenV (.v 8)))) <|
    .st (.act none (.px (some 10) (.bin .neq (.v 7) (.v 9)))) .done) K113_12) K113_10
@[simp] def W113_13 := @C.wpe _ _ K113_13.eq_1
def B_slices_Equal_S_int_int : C := .seq (.pl <| .st (.ext 6 0) <|
    .st (.act none (.px (some 2) (.mv (.c (.bool false))))) .done) K113_13
@[simp] def WB_slices_Equal_S_int_int := @C.wpe _ _ B_slices_Equal_S_int_int.eq_1
def R_slices_Equal_S_int_int : FIR := ⟨B_slices_Equal_S_int_int, 6, [(2, none)]⟩
theorem IR_slices_Equal_S_int_int : cfun Try.prog H_slices_Equal_S_int_int Try.f113 = some R_slices_Equal_S_int_int := by kernel_rfl
theorem EN_slices_Equal_S_int_int {args : List Value} {h : Heap} {k : Value → Heap → Prop} (hargs : args.length = 2) (hw : B_slices_Equal_S_int_int.wp Try.prog (retQ [(2, none)] k) (env0 args 6) h) : CallE Try.prog fn_slices_Equal_S_int_int args h k := enter Try.func113 rfl IR_slices_Equal_S_int_int hargs hw

def H_slices_Grow_S_int_int : Hint := ⟨[(0, false), (1, false), (4, false)], []⟩
def K97_1 : C := .seq (.pl <| .st (.ext 3 1) <|
    .st (.act none (.px (some 3) (.mv (.v 0)))) <|
    .st (.act none (.px (some 2) (.mv (.v 3)))) .done) (.ret)
@[simp] def W97_1 := @C.wpe _ _ K97_1.eq_1
def K97_2 : C := .pl <| .st (.ext 3 9) <|
    .st (.act none (.px (some 3) (.mv (.v 0)))) <|
    .st (.act none (.px (some 4) (.mv (.v 0)))) <|
    .st (.act none (.px (some 5) (.capV (.v 4)))) <|
    .st (.act none (.px (some 6) (.sliceV 1 (.v 3) none (some (.v 5)) none))) <|
    .st (.act none (.px (some 7) (.mv (.v 1)))) <|
    .st (.act none (.px none (.extract 0 (.c (.tuple #[]))))) <|
    .st (.act none (.px (some 9) (.mv (.v 0)))) <|
    .st (.act none (.px (some 10) (.lenV (.v 9)))) <|
    .st (.act none (.px (some 11) (.sliceV 1 (.v 8) none (some (.v 10)) none))) <|
    .st (.act none (.px (some 0) (.mv (.v 11)))) .done
@[simp] def W97_2 := @C.wpe _ _ K97_2.eq_1
def K97_3 : C := .cond 3 (.v 4) K97_2 (.skip)
@[simp] def W97_3 := @C.wpe _ _ K97_3.eq_1
def K97_4 : C := .seq (.pl <| .st (.ext 3 2) <|
    .st (.act none (.px (some 3) (.mv (.v 1)))) <|
    .st (.act none (.px (some 4) (.bin .gtr (.v 3) (.c (.int .i64 0))))) .done) K97_3
@[simp] def W97_4 := @C.wpe _ _ K97_4.eq_1
def K97_5 : C := .seq (.seq (.pl <| .st (.ext 3 7) <|
    .st (.act none (.px (some 3) (.mv (.v 1)))) <|
    .st (.act none (.px (some 4) (.mv (.v 0)))) <|
    .st (.act none (.px (some 5) (.capV (.v 4)))) <|
    .st (.act none (.px (some 6) (.mv (.v 0)))) <|
    .st (.act none (.px (some 7) (.lenV (.v 6)))) <|
    .st (.act none (.px (some 8) (.bin .sub (.v 5) (.v 7)))) <|
    .st (.act none (.px (some 9) (.bin .sub (.v 3) (.v 8)))) <|
    .st (.act none (.px (some 1) (.mv (.v 9)))) .done) K97_4) K97_1
@[simp] def W97_5 := @C.wpe _ _ K97_5.eq_1
def K97_6 : C := .pl <| .st (.ext 3 1) <|
    .st (.act none (.px none (.extract 0 (.c (.tuple #[]))))) <|
    .st (.act none (.px none (.extract 0 (.c (.tuple #[]))))) .done
@[simp] def W97_6 := @C.wpe _ _ K97_6.eq_1
def K97_7 : C := .cond 3 (.v 4) K97_6 (.skip)
@[simp] def W97_7 := @C.wpe _ _ K97_7.eq_1
def K97_8 : C := .seq (.seq (.pl <| .st (.ext 3 2) <|
    .st (.act none (.px (some 3) (.mv (.v 1)))) <|
    .st (.act none (.px (some 4) (.bin .lss (.v 3) (.c (.int .i64 0))))) .done) K97_7) K97_5
@[simp] def W97_8 := @C.wpe _ _ K97_8.eq_1
def B_slices_Grow_S_int_int : C := .seq (.pl <| .st (.ext 3 0) <|
    .st (.act none (.px (some 2) (.mv (.c (.slice none 0 0))))) .done) K97_8
@[simp] def WB_slices_Grow_S_int_int := @C.wpe _ _ B_slices_Grow_S_int_int.eq_1
def R_slices_Grow_S_int_int : FIR := ⟨B_slices_Grow_S_int_int, 3, [(2, none)]⟩
theorem IR_slices_Grow_S_int_int : cfun Try.prog H_slices_Grow_S_int_int Try.f97 = some R_slices_Grow_S_int_int := by kernel_rfl
theorem EN_slices_Grow_S_int_int {args : List Value} {h : Heap} {k : Value → Heap → Prop} (hargs : args.length = 2) (hw : B_slices_Grow_S_int_int.wp Try.prog (retQ [(2, none)] k) (env0 args 3) h) : CallE Try.prog fn_slices_Grow_S_int_int args h k := enter Try.func97 rfl IR_slices_Grow_S_int_int hargs hw

def H_slices_IndexFunc_S_impl_Transition_impl_Transition : Hint := ⟨[(0, false), (1, false), (4, false), (5, false), (7, false), (8, false)], [[2, 3]]⟩
def K100_1 : C := .seq (.pl <| .st (.ext 6 0) <|
    .st (.act none (.px (some 2) (.mv (.c (.int .i64 (-1)))))) .done) (.ret)
@[simp] def W100_1 := @C.wpe _ _ K100_1.eq_1
def K100_2 : C := .pl <| .st (.ext 6 1) <|
    .st (.act none (.px (some 6) (.bin .add (.v 5) (.c (.int .i64 1))))) <|
    .st (.act none (.px (some 5) (.mv (.v 6)))) .done
@[simp] def W100_2 := @C.wpe _ _ K100_2.eq_1
def K100_3 : C := .seq (.pl <| .st (.ext 6 1) <|
    .st (.act none (.px (some 6) (.mv (.v 3)))) <|
    .st (.act none (.px (some 2) (.mv (.v 6)))) .done) (.ret)
@[simp] def W100_3 := @C.wpe _ _ K100_3.eq_1
def K100_4 : C := .cond 6 (.v 11) K100_3 (.skip)
@[simp] def W100_4 := @C.wpe _ _ K100_4.eq_1
def K100_5 : C := .seq (.pl <| .st (.ext 6 6) <|
    .st (.act none (.px (some 6) (.mv (.v 1)))) <|
    .st (.act none (.px (some 7) (.mv (.v 0)))) <|
    .st (.act none (.px (some 8) (.mv (.v 3)))) <|
    .st (.act none (.px (some 9) (.ia 4 (.v 7) (.v 8)))) <|
    .st (.act none (.ld (some 10) (.v 9) (some 4))) <|
    .st (.act none (.ex (some 11) (.callv (.v 6) [.v 10]))) .done) K100_4
@[simp] def W100_5 := @C.wpe _ _ K100_5.eq_1
def K100_6 : C := .seq (.block 1 (.seq (.pl <| .st (.ext 6 1) <|
    .st (.act none (.px (some 6) (.mv (.v 5)))) <|
    .st (.act none (.px (some 3) (.mv (.v 6)))) .done) K100_5)) K100_2
@[simp] def W100_6 := @C.wpe _ _ K100_6.eq_1
def K100_7 : C := .seq (.cond 6 (.v 6) (.skip) (.exit 0)) K100_6
@[simp] def W100_7 := @C.wpe _ _ K100_7.eq_1
def K100_8 : C := .seq (.pl <| .st (.ext 6 1) <|
    .st (.act none (.px (some 6) (.bin .lss (.v 5) (.v 4)))) .done) K100_7
@[simp] def W100_8 := @C.wpe _ _ K100_8.eq_1
def K100_9 : C := .block 0 (.loop 6 [2, 3] K100_8)
@[simp] def W100_9 := @C.wpe _ _ K100_9.eq_1
def K100_10 : C := .seq (.seq (.pl <| .st (.ext 6 1) <|
    .st (.act none (.px (some 6) (.mv (.v 0)))) <|
    .st (.act none (.px (some 4) (.lenV (.v 6)))) <|
    .st (.act none (.px (some 5) (.mv (.c (.int .i64 0))))) .done) K100_9) K100_1
@[simp] def W100_10 := @C.wpe _ _ K100_10.eq_1
def B_slices_IndexFunc_S_impl_Transition_impl_Transition : C := .seq (.pl <| .st (.ext 6 0) <|
    .st (.act none (.px (some 2) (.mv (.c (.int .i64 0))))) .done) K100_10
@[simp] def WB_slices_IndexFunc_S_impl_Transition_impl_Transition := @C.wpe _ _ B_slices_IndexFunc_S_impl_Transition_impl_Transition.eq_1
def R_slices_IndexFunc_S_impl_Transition_impl_Transition : FIR := ⟨B_slices_IndexFunc_S_impl_Transition_impl_Transition, 6, [(2, none)]⟩
theorem IR_slices_IndexFunc_S_impl_Transition_impl_Transition : cfun Try.prog H_slices_IndexFunc_S_impl_Transition_impl_Transition Try.f100 = some R_slices_IndexFunc_S_impl_Transition_impl_Transition := by kernel_rfl
theorem EN_slices_IndexFunc_S_impl_Transition_impl_Transition {args : List Value} {h : Heap} {k : Value → Heap → Prop} (hargs : args.length = 2) (hw : B_slices_IndexFunc_S_impl_Transition_impl_Transition.wp Try.prog (retQ [(2, none)] k) (env0 args 6) h) : CallE Try.prog fn_slices_IndexFunc_S_impl_Transition_impl_Transition args h k := enter Try.func100 rfl IR_slices_IndexFunc_S_impl_Transition_impl_Transition hargs hw

def H_slices_IndexFunc_S_int_int : Hint := ⟨[(0, false), (1, false), (4, false), (5, false), (7, false), (8, false)], [[2, 3]]⟩
def K128_1 : C := .seq (.pl <| .st (.ext 6 0) <|
    .st (.act none (.px (some 2) (.mv (.c (.int .i64 (-1)))))) .done) (.ret)
@[simp] def W128_1 := @C.wpe _ _ K128_1.eq_1
def K128_2 : C := .pl <| .st (.ext 6 1) <|
    .st (.act none (.px (some 6) (.bin .add (.v 5) (.c (.int .i64 1))))) <|
    .st (.act none (.px (some 5) (.mv (.v 6)))) .done
@[simp] def W128_2 := @C.wpe _ _ K128_2.eq_1
def K128_3 : C := .seq (.pl <| .st (.ext 6 1) <|
    .st (.act none (.px (some 6) (.mv (.v 3)))) <|
    .st (.act none (.px (some 2) (.mv (.v 6)))) .done) (.ret)
@[simp] def W128_3 := @C.wpe _ _ K128_3.eq_1
def K128_4 : C := .cond 6 (.v 11) K128_3 (.skip)
@[simp] def W128_4 := @C.wpe _ _ K128_4.eq_1
def K128_5 : C := .seq (.pl <| .st (.ext 6 6) <|
    .st (.act none (.px (some 6) (.mv (.v 1)))) <|
    .st (.act none (.px (some 7) (.mv (.v 0)))) <|
    .st (.act none (.px (some 8) (.mv (.v 3)))) <|
    .st (.act none (.px (some 9) (.ia 1 (.v 7) (.v 8)))) <|
    .st (.act none (.ld (some 10) (.v 9) none)) <|
    .st (.act none (.ex (some 11) (.callv (.v 6) [.v 10]))) .done) K128_4
@[simp] def W128_5 := @C.wpe _ _ K128_5.eq_1
def K128_6 : C := .seq (.block 1 (.seq (.pl <| .st (.ext 6 1) <|
    .st (.act none (.px (some 6) (.mv (.v 5)))) <|
    .st (.act none (.px (some 3) (.mv (.v 6)))) .done) K128_5)) K128_2
@[simp] def W128_6 := @C.wpe _ _ K128_6.eq_1
def K128_7 : C := .seq (.cond 6 (.v 6) (.skip) (.exit 0)) K128_6
@[simp] def W128_7 := @C.wpe _ _ K128_7.eq_1
def K128_8 : C := .seq (.pl <| .st (.ext 6 1) <|
    .st (.act none (.px (some 6) (.bin .lss (.v 5) (.v 4)))) .done) K128_7
@[simp] def W128_8 := @C.wpe _ _ K128_8.eq_1
def K128_9 : C := .block 0 (.loop 6 [2, 3] K128_8)
@[simp] def W128_9 := @C.wpe _ _ K128_9.eq_1
def K128_10 : C := .seq (.seq (.pl <| .st (.ext 6 1) <|
    .st (.act none (.px (some 6) (.mv (.v 0)))) <|
    .st (.act none (.px (some 4) (.lenV (.v 6)))) <|
    .st (.act none (.px (some 5) (.mv (.c (.int .i64 0))))) .done) K128_9) K128_1
@[simp] def W128_10 := @C.wpe _ _ K128_10.eq_1
def B_slices_IndexFunc_S_int_int : C := .seq (.pl <| .st (.ext 6 0) <|
    .st (.act none (.px (some 2) (.mv (.c (.int .i64 0))))) .done) K128_10
@[simp] def WB_slices_IndexFunc_S_int_int := @C.wpe _ _ B_slices_IndexFunc_S_int_int.eq_1
def R_slices_IndexFunc_S_int_int : FIR := ⟨B_slices_IndexFunc_S_int_int, 6, [(2, none)]⟩
theorem IR_slices_IndexFunc_S_int_int : cfun Try.prog H_slices_IndexFunc_S_int_int Try.f128 = some R_slices_IndexFunc_S_int_int := by kernel_rfl
theorem EN_slices_IndexFunc_S_int_int {args : List Value} {h : Heap} {k : Value → Heap → Prop} (hargs : args.length = 2) (hw : B_slices_IndexFunc_S_int_int.wp Try.prog (retQ [(2, none)] k) (env0 args 6) h) : CallE Try.prog fn_slices_IndexFunc_S_int_int args h k := enter Try.func128 rfl IR_slices_IndexFunc_S_int_int hargs hw

def H_slices_Index_S_int_int : Hint := ⟨[(0, false), (1, false), (4, false), (5, false), (7, false), (8, false)], [[2, 3]]⟩
def K144_1 : C := .seq (.pl <| .st (.ext 6 0) <|
    .st (.act none (.px (some 2) (.mv (.c (.int .i64 (-1)))))) .done) (.ret)
@[simp] def W144_1 := @C.wpe _ _ K144_1.eq_1
def K144_2 : C := .pl <| .st (.ext 6 1) <|
    .st (.act none (.px (some 6) (.bin .add (.v 5) (.c (.int .i64 1))))) <|
    .st (.act none (.px (some 5) (.mv (.v 6)))) .done
@[simp] def W144_2 := @C.wpe _ _ K144_2.eq_1
def K144_3 : C := .seq (.pl <| .st (.ext 6 1) <|
    .st (.act none (.px (some 6) (.mv (.v 3)))) <|
    .st (.act none (.px (some 2) (.mv (.v 6)))) .done) (.ret)
@[simp] def W144_3 := @C.wpe _ _ K144_3.eq_1
def K144_4 : C := .cond 6 (.v 11) K144_3 (.skip)
@[simp] def W144_4 := @C.wpe _ _ K144_4.eq_1
def K144_5 : C := .seq (.pl <| .st (.ext 6 6) <|
    .st (.act none (.px (some 6) (.mv (.v 1)))) <|
    .st (.act none (.px (some 7) (.mv (.v 0)))) <|
    .st (.act none (.px (some 8) (.mv (.v 3)))) <|
    .st (.act none (.px (some 9) (.ia 1 (.v 7) (.v 8)))) <|
    .st (.act none (.ld (some 10) (.v 9) none)) <|
    .st (.act none (.px (some 11) (.bin .eql (.v 6) (.v 10)))) .done) K144_4
@[simp] def W144_5 := @C.wpe _ _ K144_5.eq_1
def K144_6 : C := .seq (.block 1 (.seq (.pl <| .st (.ext 6 1) <|
    .st (.act none (.px (some 6) (.mv (.v 5)))) <|
    .st (.act none (.px (some 3) (.mv (.v 6)))) .done) K144_5)) K144_2
@[simp] def W144_6 := @C.wpe _ _ K144_6.eq_1
def K144_7 : C := .seq (.cond 6 (.v 6) (.skip) (.exit 0)) K144_6
@[simp] def W144_7 := @C.wpe _ _ K144_7.eq_1
def K144_8 : C := .seq (.pl <| .st (.ext 6 1) <|
    .st (.act none (.px (some 6) (.bin .lss (.v 5) (.v 4)))) .done) K144_7
@[simp] def W144_8 := @C.wpe _ _ K144_8.eq_1
def K144_9 : C := .block 0 (.loop 6 [2, 3] K144_8)
@[simp] def W144_9 := @C.wpe _ _ K144_9.eq_1
def K144_10 : C := .seq (.seq (.pl <| .st (.ext 6 1) <|
    .st (.act none (.px (some 6) (.mv (.v 0)))) <|
    .st (.act none (.px (some 4) (.lenV (.v 6)))) <|
    .st (.act none (.px (some 5) (.mv (.c (.int .i64 0))))) .done) K144_9) K144_1
@[simp] def W144_10 := @C.wpe _ _ K144_10.eq_1
def B_slices_Index_S_int_int : C := .seq (.pl <| .st (.ext 6 0) <|
    .st (.act none (.px (some 2) (.mv (.c (.int .i64 0))))) .done) K144_10
@[simp] def WB_slices_Index_S_int_int := @C.wpe _ _ B_slices_Index_S_int_int.eq_1
def R_slices_Index_S_int_int : FIR := ⟨B_slices_Index_S_int_int, 6, [(2, none)]⟩
theorem IR_slices_Index_S_int_int : cfun Try.prog H_slices_Index_S_int_int Try.f144 = some R_slices_Index_S_int_int := by kernel_rfl
theorem EN_slices_Index_S_int_int {args : List Value} {h : Heap} {k : Value → Heap → Prop} (hargs : args.length = 2) (hw : B_slices_Index_S_int_int.wp Try.prog (retQ [(2, none)] k) (env0 args 6) h) : CallE Try.prog fn_slices_Index_S_int_int args h k := enter Try.func144 rfl IR_slices_Index_S_int_int hargs hw

def H_slices_Reverse_S_int_int : Hint := ⟨[(0, false), (2, false), (3, false)], [[]]⟩
def K141_1 : C := .pl <| .st (.ext 3 4) <|
    .st (.act none (.px (some 3) (.mv (.v 1)))) <|
    .st (.act none (.px (some 4) (.bin .add (.v 3) (.c (.int .i64 1))))) <|
    .st (.act none (.px (some 5) (.mv (.v 2)))) <|
    .st (.act none (.px (some 6) (.bin .sub (.v 5) (.c (.int .i64 1))))) <|
    .st (.act none (.px (some 1) (.mv (.v 4)))) <|
    .st (.act none (.px (some 2) (.mv (.v 6)))) .done
@[simp] def W141_1 := @C.wpe _ _ K141_1.eq_1
def K141_2 : Pl := .st (.act none (.px (some 16) (.ia 1 (.v 5) (.v 6)))) <|
    .st (.act none (.ex none (.store 1 (.v 16) (.v 14)))) .done
@[simp] def W141_2 := @Pl.wpe _ _ K141_2.eq_1
def K141_3 : C := .seq (.block 1 (.pl <| .st (.ext 3 14) <|
    .st (.act none (.px (some 3) (.mv (.v 0)))) <|
    .st (.act none (.px (some 4) (.mv (.v 1)))) <|
    .st (.act none (.px (some 5) (.mv (.v 0)))) <|
    .st (.act none (.px (some 6) (.mv (.v 2)))) <|
    .st (.act none (.px (some 7) (.mv (.v 0)))) <|
    .st (.act none (.px (some 8) (.mv (.v 2)))) <|
    .st (.act none (.px (some 9) (.ia 1 (.v 7) (.v 8)))) <|
    .st (.act none (.ld (some 10) (.v 9) none)) <|
    .st (.act none (.px (some 11) (.mv (.v 0)))) <|
    .st (.act none (.px (some 12) (.mv (.v 1)))) <|
    .st (.act none (.px (some 13) (.ia 1 (.v 11) (.v 12)))) <|
    .st (.act none (.ld (some 14) (.v 13) none)) <|
    .st (.act none (.px (some 15) (.ia 1 (.v 3) (.v 4)))) <|
    .st (.act none (.ex none (.store 1 (.v 15) (.v 10)))) K141_2)) K141_1
@[simp] def W141_3 := @C.wpe _ _ K141_3.eq_1
def K141_4 : C := .cond 3 (.v 5) (.skip) (.exit 0)
@[simp] def W141_4 := @C.wpe _ _ K141_4.eq_1
def K141_5 : C := .seq (.seq (.pl <| .st (.ext 3 3) <|
    .st (.act none (.px (some 3) (.mv (.v 1)))) <|
    .st (.act none (.px (some 4) (.mv (.v 2)))) <|
    .st (.act none (.px (some 5) (.bin .lss (.v 3) (.v 4)))) .done) K141_4) K141_3
@[simp] def W141_5 := @C.wpe _ _ K141_5.eq_1
def K141_6 : C := .block 0 (.loop 3 [] K141_5)
@[simp] def W141_6 := @C.wpe _ _ K141_6.eq_1
def B_slices_Reverse_S_int_int : C := .seq (.pl <| .st (.ext 3 3) <|
    .st (.act none (.px (some 3) (.mv (.v 0)))) <|
    .st (.act none (.px (some 4) (.lenV (.v 3)))) <|
    .st (.act none (.px (some 5) (.bin .sub (.v 4) (.c (.int .i64 1))))) <|
    .st (.act none (.px (some 1) (.mv (.c (.int .i64 0))))) <|
    .st (.act none (.px (some 2) (.mv (.v 5)))) .done) K141_6
@[simp] def WB_slices_Reverse_S_int_int := @C.wpe _ _ B_slices_Reverse_S_int_int.eq_1
def R_slices_Reverse_S_int_int : FIR := ⟨B_slices_Reverse_S_int_int, 3, []⟩
theorem IR_slices_Reverse_S_int_int : cfun Try.prog H_slices_Reverse_S_int_int Try.f141 = some R_slices_Reverse_S_int_int := by kernel_rfl
theorem EN_slices_Reverse_S_int_int {args : List Value} {h : Heap} {k : Value → Heap → Prop} (hargs : args.length = 1) (hw : B_slices_Reverse_S_int_int.wp Try.prog (retQ [] k) (env0 args 3) h) : CallE Try.prog fn_slices_Reverse_S_int_int args h k := enter Try.func141 rfl IR_slices_Reverse_S_int_int hargs hw

def H_spec_AutomatonSame : Hint := ⟨[(0, false), (1, false), (2, true), (3, true), (4, false), (5, false), (6, false)], [[0, 1, 4, 6], [0, 1, 4, 5]]⟩
def K51_1 : C := .seq (.pl <| .st (.ext 7 0) <|
    .st (.act none (.px (some 4) (.mv (.c (.bool true))))) .done) (.ret)
@[simp] def W51_1 := @C.wpe _ _ K51_1.eq_1
def K51_2 : C := .pl <| .st (.ext 7 2) <|
    .st (.act none (.px (some 7) (.mv (.v 6)))) <|
    .st (.act none (.px (some 8) (.bin .add (.v 7) (.c (.int .i64 1))))) <|
    .st (.act none (.px (some 6) (.mv (.v 8)))) .done
@[simp] def W51_2 := @C.wpe _ _ K51_2.eq_1
def K51_3 : C := .seq (.pl <| .st (.ext 7 0) <|
    .st (.act none (.px (some 4) (.mv (.c (.bool false))))) .done) (.ret)
@[simp] def W51_3 := @C.wpe _ _ K51_3.eq_1
def K51_4 : C := .cond 7 (.v 17) K51_3 (.skip)
@[simp] def W51_4 := @C.wpe _ _ K51_4.eq_1
def K51_5 : C := .seq (.block 3 (.seq (.pl <| .st (.ext 7 11) <|
    .st (.act none (.als 7 none 2)) <|
    .st (.act none (.pget (some 8) (some 7) 2 2 none)) <|
    .st (.act none (.px (some 9) (.mv (.v 6)))) <|
    .st (.act none (.px (some 10) (.ia 4 (.v 8) (.v 9)))) <|
    .st (.act none (.ld (some 11) (.v 10) (some 4))) <|
    .st (.act none (.als 12 none 3)) <|
    .st (.act none (.pget (some 13) (some 12) 3 2 none)) <|
    .st (.act none (.px (some 14) (.mv (.v 6)))) <|
    .st (.act none (.px (some 15) (.ia 4 (.v 13) (.v 14)))) <|
    .st (.act none (.ld (some 16) (.v 15) (some 4))) <|
    .st (.act none (.px (some 17) (.eqf true [.i, .i, .i, .i] (.v 11) (.v 16)))) .done) K51_4)) K51_2
@[simp] def W51_5 := @C.wpe _ _ K51_5.eq_1
def K51_6 : C := .cond 7 (.v 11) (.skip) (.exit 2)
@[simp] def W51_6 := @C.wpe _ _ K51_6.eq_1
def K51_7 : C := .seq (.seq (.pl <| .st (.ext 7 5) <|
    .st (.act none (.px (some 7) (.mv (.v 6)))) <|
    .st (.act none (.als 8 none 2)) <|
    .st (.act none (.pget (some 9) (some 8) 2 2 none)) <|
    .st (.act none (.px (some 10) (.lenV (.v 9)))) <|
    .st (.act none (.px (some 11) (.bin .lss (.v 7) (.v 10)))) .done) K51_6) K51_5
@[simp] def W51_7 := @C.wpe _ _ K51_7.eq_1
def K51_8 : C := .block 2 (.loop 7 [0, 1, 4, 5] K51_7)
@[simp] def W51_8 := @C.wpe _ _ K51_8.eq_1
def K51_9 : C := .seq (.seq (.pl <| .st (.ext 7 0) <|
    .st (.act none (.px (some 6) (.mv (.c (.int .i64 0))))) .done) K51_8) K51_1
@[simp] def W51_9 := @C.wpe _ _ K51_9.eq_1
def K51_10 : C := .pl <| .st (.ext 7 2) <|
    .st (.act none (.px (some 7) (.mv (.v 5)))) <|
    .st (.act none (.px (some 8) (.bin .add (.v 7) (.c (.int .i64 1))))) <|
    .st (.act none (.px (some 5) (.mv (.v 8)))) .done
@[simp] def W51_10 := @C.wpe _ _ K51_10.eq_1
def K51_11 : C := .seq (.pl <| .st (.ext 7 0) <|
    .st (.act none (.px (some 4) (.mv (.c (.bool false))))) .done) (.ret)
@[simp] def W51_11 := @C.wpe _ _ K51_11.eq_1
def K51_12 : C := .cond 7 (.v 17) K51_11 (.skip)
@[simp] def W51_12 := @C.wpe _ _ K51_12.eq_1
def K51_13 : C := .seq (.block 1 (.seq (.pl <| .st (.ext 7 11) <|
    .st (.act none (.als 7 none 2)) <|
    .st (.act none (.pget (some 8) (some 7) 2 1 none)) <|
    .st (.act none (.px (some 9) (.mv (.v 5)))) <|
    .st (.act none (.px (some 10) (.ia 1 (.v 8) (.v 9)))) <|
    .st (.act none (.ld (some 11) (.v 10) none)) <|
    .st (.act none (.als 12 none 3)) <|
    .st (.act none (.pget (some 13) (some 12) 3 1 none)) <|
    .st (.act none (.px (some 14) (.mv (.v 5)))) <|
    .st (.act none (.px (some 15) (.ia 1 (.v 13) (.v 14)))) <|
    .st (.act none (.ld (some 16) (.v 15) none)) <|
    .st (.act none (.px (some 17) (.eqb true (.v 11) (.v 16)))) .done) K51_12)) K51_10
@[simp] def W51_13 := @C.wpe _ _ K51_13.eq_1
def K51_14 : C := .cond 7 (.v 11) (.skip) (.exit 0)
@[simp] def W51_14 := @C.wpe _ _ K51_14.eq_1
def K51_15 : C := .seq (.seq (.pl <| .st (.ext 7 5) <|
    .st (.act none (.px (some 7) (.mv (.v 5)))) <|
    .st (.act none (.als 8 none 2)) <|
    .st (.act none (.pget (some 9) (some 8) 2 1 none)) <|
    .st (.act none (.px (some 10) (.lenV (.v 9)))) <|
    .st (.act none (.px (some 11) (.bin .lss (.v 7) (.v 10)))) .done) K51_14) K51_13
@[simp] def W51_15 := @C.wpe _ _ K51_15.eq_1
def K51_16 : C := .block 0 (.loop 7 [0, 1, 4, 6] K51_15)
@[simp] def W51_16 := @C.wpe _ _ K51_16.eq_1
def K51_17 : C := .seq (.seq (.pl <| .st (.ext 7 0) <|
    .st (.act none (.px (some 5) (.mv (.c (.int .i64 0))))) .done) K51_16) K51_9
@[simp] def W51_17 := @C.wpe _ _ K51_17.eq_1
def K51_18 : C := .seq (.pl <| .st (.ext 7 0) <|
    .st (.act none (.px (some 4) (.mv (.c (.bool false))))) .done) (.ret)
@[simp] def W51_18 := @C.wpe _ _ K51_18.eq_1
def K51_19 : C := .cond 7 (.v 30) K51_18 (.skip)
@[simp] def W51_19 := @C.wpe _ _ K51_19.eq_1
def K51_20 : Pl := .st (.act none (.px (some 12) (.un .not (.v 11)))) <|
    .st (.act none (.px (some 13) (.mv (.v 12)))) <|
    .st (.act (some (.v 13, false)) (.als 14 none 2)) <|
    .st (.act (some (.v 13, false)) (.pget (some 15) (some 14) 2 1 none)) <|
    .st (.act (some (.v 13, false)) (.px (some 16) (.lenV (.v 15)))) <|
    .st (.act (some (.v 13, false)) (.als 17 none 3)) <|
    .st (.act (some (.v 13, false)) (.pget (some 18) (some 17) 3 1 none)) <|
    .st (.act (some (.v 13, false)) (.px (some 19) (.lenV (.v 18)))) <|
    .st (.act (some (.v 13, false)) (.px (some 20) (.bin .neq (.v 16) (.v 19)))) <|
    .st (.act none (.px (some 21) (.pick (.v 13) (.c (.bool true)) (.v 20)))) <|
    .st (.act none (.px (some 22) (.mv (.v 21)))) <|
    .st (.act (some (.v 22, false)) (.als 23 none 2)) <|
    .st (.act (some (.v 22, false)) (.pget (some 24) (some 23) 2 2 none)) <|
    .st (.act (some (.v 22, false)) (.px (some 25) (.lenV (.v 24)))) <|
    .st (.act (some (.v 22, false)) (.als 26 none 3)) <|
    .st (.act (some (.v 22, false)) (.pget (some 27) (some 26) 3 2 none)) <|
    .st (.act (some (.v 22, false)) (.px (some 28) (.lenV (.v 27)))) <|
    .st (.act (some (.v 22, false)) (.px (some 29) (.bin .neq (.v 25) (.v 28)))) <|
    .st (.act none (.px (some 30) (.pick (.v 22) (.c (.bool true)) (.v 29)))) .done
@[simp] def W51_20 := @Pl.wpe _ _ K51_20.eq_1
def K51_21 : C := .seq (.seq (.pl <| .st (.ext 7 24) <|
    .st (.act none (.als 7 none 2)) <|
    .st (.act none (.pget (some 8) (some 7) 2 0 none)) <|
    .st (.act none (.als 9 none 3)) <|
    .st (.act none (.pget (some 10) (some 9) 3 0 none)) <|
    .st (.act none (.ex (some 11) (.call fn_spec_l2Ints [.v 8, .v 10]))) K51_20) K51_19) K51_17
@[simp] def W51_21 := @C.wpe _ _ K51_21.eq_1
def B_spec_AutomatonSame : C := .seq (.pl <| .st (.ext 7 0) <|
    .st (.act none (.pnew 2 (.v 0) [])) <|
    .st (.act none (.pnew 3 (.v 1) [])) <|
    .st (.act none (.px (some 4) (.mv (.c (.bool false))))) .done) K51_21
@[simp] def WB_spec_AutomatonSame := @C.wpe _ _ B_spec_AutomatonSame.eq_1
def R_spec_AutomatonSame : FIR := ⟨B_spec_AutomatonSame, 7, [(4, none)]⟩
theorem IR_spec_AutomatonSame : cfun Try.prog H_spec_AutomatonSame Try.f51 = some R_spec_AutomatonSame := by kernel_rfl
theorem EN_spec_AutomatonSame {args : List Value} {h : Heap} {k : Value → Heap → Prop} (hargs : args.length = 2) (hw : B_spec_AutomatonSame.wp Try.prog (retQ [(4, none)] k) (env0 args 7) h) : CallE Try.prog fn_spec_AutomatonSame args h k := enter Try.func51 rfl IR_spec_AutomatonSame hargs hw

def H_spec_AutomatonValid : Hint := ⟨[(0, false), (1, true), (2, false), (3, false), (4, false), (5, false)], [[0, 2, 5], [0, 2, 4]]⟩
def K33_1 : C := .seq (.pl <| .st (.ext 6 0) <|
    .st (.act none (.px (some 2) (.mv (.c (.bool true))))) .done) (.ret)
@[simp] def W33_1 := @C.wpe _ _ K33_1.eq_1
def K33_2 : C := .pl <| .st (.ext 6 2) <|
    .st (.act none (.px (some 6) (.mv (.v 5)))) <|
    .st (.act none (.px (some 7) (.bin .add (.v 6) (.c (.int .i64 1))))) <|
    .st (.act none (.px (some 5) (.mv (.v 7)))) .done
@[simp] def W33_2 := @C.wpe _ _ K33_2.eq_1
def K33_3 : C := .seq (.pl <| .st (.ext 6 0) <|
    .st (.act none (.px (some 2) (.mv (.c (.bool false))))) .done) (.ret)
@[simp] def W33_3 := @C.wpe _ _ K33_3.eq_1
def K33_4 : C := .cond 6 (.v 13) K33_3 (.skip)
@[simp] def W33_4 := @C.wpe _ _ K33_4.eq_1
def K33_5 : Pl := .st (.act none (.px (some 13) (.un .not (.v 12)))) .done
@[simp] def W33_5 := @Pl.wpe _ _ K33_5.eq_1
def K33_6 : C := .seq (.block 3 (.seq (.pl <| .st (.ext 6 8) <|
    .st (.act none (.als 6 none 1)) <|
    .st (.act none (.pget (some 7) (some 6) 1 2 none)) <|
    .st (.act none (.px (some 8) (.mv (.v 5)))) <|
    .st (.act none (.px (some 9) (.ia 4 (.v 7) (.v 8)))) <|
    .st (.act none (.ld (some 10) (.v 9) (some 4))) <|
    .st (.act none (.px (some 11) (.mv (.v 3)))) <|
    .st (.act none (.ex (some 12) (.call fn_spec_l7Edge [.v 10, .v 11]))) K33_5) K33_4)) K33_2
@[simp] def W33_6 := @C.wpe _ _ K33_6.eq_1
def K33_7 : C := .cond 6 (.v 10) (.skip) (.exit 2)
@[simp] def W33_7 := @C.wpe _ _ K33_7.eq_1
def K33_8 : C := .seq (.seq (.pl <| .st (.ext 6 5) <|
    .st (.act none (.px (some 6) (.mv (.v 5)))) <|
    .st (.act none (.als 7 none 1)) <|
    .st (.act none (.pget (some 8) (some 7) 1 2 none)) <|
    .st (.act none (.px (some 9) (.lenV (.v 8)))) <|
    .st (.act none (.px (some 10) (.bin .lss (.v 6) (.v 9)))) .done) K33_7) K33_6
@[simp] def W33_8 := @C.wpe _ _ K33_8.eq_1
def K33_9 : C := .block 2 (.loop 6 [0, 2, 4] K33_8)
@[simp] def W33_9 := @C.wpe _ _ K33_9.eq_1
def K33_10 : C := .seq (.seq (.pl <| .st (.ext 6 0) <|
    .st (.act none (.px (some 5) (.mv (.c (.int .i64 0))))) .done) K33_9) K33_1
@[simp] def W33_10 := @C.wpe _ _ K33_10.eq_1
def K33_11 : C := .pl <| .st (.ext 6 2) <|
    .st (.act none (.px (some 6) (.mv (.v 4)))) <|
    .st (.act none (.px (some 7) (.bin .add (.v 6) (.c (.int .i64 1))))) <|
    .st (.act none (.px (some 4) (.mv (.v 7)))) .done
@[simp] def W33_11 := @C.wpe _ _ K33_11.eq_1
def K33_12 : C := .seq (.pl <| .st (.ext 6 0) <|
    .st (.act none (.px (some 2) (.mv (.c (.bool false))))) .done) (.ret)
@[simp] def W33_12 := @C.wpe _ _ K33_12.eq_1
def K33_13 : C := .cond 6 (.v 38) K33_12 (.skip)
@[simp] def W33_13 := @C.wpe _ _ K33_13.eq_1
def K33_14 : C := .seq (.block 1 (.seq (.pl <| .st (.ext 6 33) <|
    .st (.act none (.als 6 none 1)) <|
    .st (.act none (.pget (some 7) (some 6) 1 0 none)) <|
    .st (.act none (.px (some 8) (.mv (.v 4)))) <|
    .st (.act none (.px (some 9) (.ia 1 (.v 7) (.v 8)))) <|
    .st (.act none (.ld (some 10) (.v 9) none)) <|
    .st (.act none (.px (some 11) (.bin .lss (.v 10) (.c (.int .i64 0))))) <|
    .st (.act none (.px (some 12) (.mv (.v 11)))) <|
    .st (.act (some (.v 12, false)) (.als 13 none 1)) <|
    .st (.act (some (.v 12, false)) (.pget (some 14) (some 13) 1 0 none)) <|
    .st (.act (some (.v 12, false)) (.px (some 15) (.mv (.v 4)))) <|
    .st (.act (some (.v 12, false)) (.px (some 16) (.ia 1 (.v 14) (.v 15)))) <|
    .st (.act (some (.v 12, false)) (.ld (some 17) (.v 16) none)) <|
    .st (.act (some (.v 12, false)) (.px (some 18) (.mv (.v 3)))) <|
    .st (.act (some (.v 12, false)) (.px (some 19) (.bin .geq (.v 17) (.v 18)))) <|
    .st (.act none (.px (some 20) (.pick (.v 12) (.c (.bool true)) (.v 19)))) <|
    .st (.act none (.px (some 21) (.mv (.v 20)))) <|
    .st (.act (some (.v 21, false)) (.px (some 22) (.mv (.v 4)))) <|
    .st (.act (some (.v 21, false)) (.px (some 23) (.bin .gtr (.v 22) (.c (.int .i64 0))))) <|
    .st (.act (some (.v 21, false)) (.px (some 24) (.mv (.v 23)))) <|
    .st (.act (some (.v 24, true)) (.als 25 none 1)) <|
    .st (.act (some (.v 24, true)) (.pget (some 26) (some 25) 1 0 none)) <|
    .st (.act (some (.v 24, true)) (.px (some 27) (.mv (.v 4)))) <|
    .st (.act (some (.v 24, true)) (.px (some 28) (.bin .sub (.v 27) (.c (.int .i64 1))))) <|
    .st (.act (some (.v 24, true)) (.px (some 29) (.ia 1 (.v 26) (.v 28)))) <|
    .st (.act (some (.v 24, true)) (.ld (some 30) (.v 29) none)) <|
    .st (.act (some (.v 24, true)) (.als 31 none 1)) <|
    .st (.act (some (.v 24, true)) (.pget (some 32) (some 31) 1 0 none)) <|
    .st (.act (some (.v 24, true)) (.px (some 33) (.mv (.v 4)))) <|
    .st (.act (some (.v 24, true)) (.px (some 34) (.ia 1 (.v 32) (.v 33)))) <|
    .st (.act (some (.v 24, true)) (.ld (some 35) (.v 34) none)) <|
    .st (.act (some (.v 24, true)) (.px (some 36) (.bin .geq (.v 30) (.v 35)))) <|
    .st (.act (some (.v 21, false)) (.px (some 37) (.pick (.v 24) (.v 36) (.c (.bool false))))) <|
    .st (.act none (.px (some 38) (.pick (.v 21) (.c (.bool true)) (.v 37)))) .done) K33_13)) K33_11
@[simp] def W33_14 := @C.wpe _ _ K33_14.eq_1
def K33_15 : C := .cond 6 (.v 10) (.skip) (.exit 0)
@[simp] def W33_15 := @C.wpe _ _ K33_15.eq_1
def K33_16 : C := .seq (.seq (.pl <| .st (.ext 6 5) <|
    .st (.act none (.px (some 6) (.mv (.v 4)))) <|
    .st (.act none (.als 7 none 1)) <|
    .st (.act none (.pget (some 8) (some 7) 1 0 none)) <|
    .st (.act none (.px (some 9) (.lenV (.v 8)))) <|
    .st (.act none (.px (some 10) (.bin .lss (.v 6) (.v 9)))) .done) K33_15) K33_14
@[simp] def W33_16 := @C.wpe _ _ K33_16.eq_1
def K33_17 : C := .block 0 (.loop 6 [0, 2, 5] K33_16)
@[simp] def W33_17 := @C.wpe _ _ K33_17.eq_1
def K33_18 : C := .seq (.seq (.pl <| .st (.ext 6 0) <|
    .st (.act none (.px (some 4) (.mv (.c (.int .i64 0))))) .done) K33_17) K33_10
@[simp] def W33_18 := @C.wpe _ _ K33_18.eq_1
def K33_19 : C := .seq (.pl <| .st (.ext 6 0) <|
    .st (.act none (.px (some 2) (.mv (.c (.bool false))))) .done) (.ret)
@[simp] def W33_19 := @C.wpe _ _ K33_19.eq_1
def K33_20 : C := .cond 6 (.v 24) K33_19 (.skip)
@[simp] def W33_20 := @C.wpe _ _ K33_20.eq_1
def K33_21 : C := .seq (.seq (.pl <| .st (.ext 6 19) <|
    .st (.act none (.px (some 6) (.mv (.v 3)))) <|
    .st (.act none (.px (some 7) (.bin .lss (.v 6) (.c (.int .i64 1))))) <|
    .st (.act none (.px (some 8) (.mv (.v 7)))) <|
    .st (.act (some (.v 8, false)) (.px (some 9) (.mv (.v 3)))) <|
    .st (.act (some (.v 8, false)) (.px (some 10) (.bin .gtr (.v 9) (.c (.int .i64 64))))) <|
    .st (.act none (.px (some 11) (.pick (.v 8) (.c (.bool true)) (.v 10)))) <|
    .st (.act none (.px (some 12) (.mv (.v 11)))) <|
    .st (.act (some (.v 12, false)) (.als 13 none 1)) <|
    .st (.act (some (.v 12, false)) (.pget (some 14) (some 13) 1 0 none)) <|
    .st (.act (some (.v 12, false)) (.px (some 15) (.lenV (.v 14)))) <|
    .st (.act (some (.v 12, false)) (.px (some 16) (.mv (.v 3)))) <|
    .st (.act (some (.v 12, false)) (.px (some 17) (.bin .gtr (.v 15) (.v 16)))) <|
    .st (.act none (.px (some 18) (.pick (.v 12) (.c (.bool true)) (.v 17)))) <|
    .st (.act none (.px (some 19) (.mv (.v 18)))) <|
    .st (.act (some (.v 19, false)) (.als 20 none 1)) <|
    .st (.act (some (.v 19, false)) (.pget (some 21) (some 20) 1 2 none)) <|
    .st (.act (some (.v 19, false)) (.px (some 22) (.lenV (.v 21)))) <|
    .st (.act (some (.v 19, false)) (.px (some 23) (.bin .gtr (.v 22) (.c (.int .i64 2048))))) <|
    .st (.act none (.px (some 24) (.pick (.v 19) (.c (.bool true)) (.v 23)))) .done) K33_20) K33_18
@[simp] def W33_21 := @C.wpe _ _ K33_21.eq_1
def K33_22 : C := .seq (.pl <| .st (.ext 6 3) <|
    .st (.act none (.als 6 none 1)) <|
    .st (.act none (.pget (some 7) (some 6) 1 1 none)) <|
    .st (.act none (.px (some 8) (.lenV (.v 7)))) <|
    .st (.act none (.px (some 3) (.mv (.v 8)))) .done) K33_21
@[simp] def W33_22 := @C.wpe _ _ K33_22.eq_1
def B_spec_AutomatonValid : C := .seq (.pl <| .st (.ext 6 0) <|
    .st (.act none (.pnew 1 (.v 0) [])) <|
    .st (.act none (.px (some 2) (.mv (.c (.bool false))))) .done) K33_22
@[simp] def WB_spec_AutomatonValid := @C.wpe _ _ B_spec_AutomatonValid.eq_1
def R_spec_AutomatonValid : FIR := ⟨B_spec_AutomatonValid, 6, [(2, none)]⟩
theorem IR_spec_AutomatonValid : cfun Try.prog H_spec_AutomatonValid Try.f33 = some R_spec_AutomatonValid := by kernel_rfl
theorem EN_spec_AutomatonValid {args : List Value} {h : Heap} {k : Value → Heap → Prop} (hargs : args.length = 1) (hw : B_spec_AutomatonValid.wp Try.prog (retQ [(2, none)] k) (env0 args 6) h) : CallE Try.prog fn_spec_AutomatonValid args h k := enter Try.func33 rfl IR_spec_AutomatonValid hargs hw

def H_spec_ExtendWord : Hint := ⟨[(0, false), (1, false), (2, true), (4, true), (5, false), (6, false), (7, false), (8, true), (10, true)], []⟩
def K25_1 : C := .seq (.pl <| .st (.ext 9 1) <|
    .st (.act none (.pget (some 9) none 8 0 (some 2))) <|
    .st (.act none (.pset none 3 0 2 (.v 9))) <|
    .st (.act none (.px (some 4) (.mv (.c (.bool true))))) .done) (.ret)
@[simp] def W25_1 := @C.wpe _ _ K25_1.eq_1
def K25_2 : C := .seq (.pl <| .st (.ext 9 1) <|
    .st (.act none (.px (some 9) (.build [.slice none 0 0, .slice none 0 0] []))) <|
    .st (.act none (.pset none 3 0 2 (.v 9))) <|
    .st (.act none (.px (some 4) (.mv (.c (.bool false))))) .done) (.ret)
@[simp] def W25_2 := @C.wpe _ _ K25_2.eq_1
def K25_3 : C := .cond 9 (.v 11) K25_2 (.skip)
@[simp] def W25_3 := @C.wpe _ _ K25_3.eq_1
def K25_4 : Pl := .st (.act none (.px (some 11) (.un .not (.v 10)))) .done
@[simp] def W25_4 := @Pl.wpe _ _ K25_4.eq_1
def K25_5 : C := .seq (.seq (.pl <| .st (.ext 9 3) <|
    .st (.act none (.pget (some 9) none 8 0 (some 2))) <|
    .st (.act none (.ex (some 10) (.call fn_spec_LassoValid [.v 9]))) K25_4) K25_3) K25_1
@[simp] def W25_5 := @C.wpe _ _ K25_5.eq_1
def K25_6 : Pl := .st (.act none (.px (some 17) (.build [.slice none 0 0, .slice none 0 0] [(0, 1, .v 14), (1, 1, .v 16)]))) <|
    .st (.act none (.pset none 8 0 2 (.v 17))) .done
@[simp] def W25_6 := @Pl.wpe _ _ K25_6.eq_1
def K25_7 : Pl := .st (.act none (.ex (some 14) (.app 8 1 [.int .i64 0] (.o (.v 11)) (.o (.v 13))))) K25_6
@[simp] def W25_7 := @Pl.wpe _ _ K25_7.eq_1
def K25_8 : C := .seq (.pl <| .st (.ext 9 9) <|
    .st (.act none (.psl 9 [] [])) <|
    .st (.act none (.px (some 10) (.mv (.v 1)))) <|
    .st (.act none (.als 12 none 7)) <|
    .st (.act none (.pget (some 13) (some 12) 7 0 none)) <|
    .st (.act none (.als 15 none 7)) <|
    .st (.act none (.pget (some 16) (some 15) 7 1 none)) <|
    .st (.act none (.pnew 8 (.c (.agg #[.slice none 0 0, .slice none 0 0])) [])) <|
    .st (.act none (.ex (some 11) (.app 8 1 [.int .i64 0] (.p 0 9) (.o (.v 10))))) K25_7) K25_5
@[simp] def W25_8 := @C.wpe _ _ K25_8.eq_1
def K25_9 : Pl := .st (.act none (.px (some 16) (.mv (.v 15)))) <|
    .st (.act none (.px (some 17) (.extract 0 (.v 16)))) <|
    .st (.act none (.px (some 18) (.extract 1 (.v 16)))) <|
    .st (.act none (.pnew 7 (.c (.agg #[.slice none 0 0, .slice none 0 0])) [])) <|
    .st (.act none (.pset none 7 0 2 (.v 17))) <|
    .st (.act none (.px (some 19) (.mv (.v 18)))) .done
@[simp] def W25_9 := @Pl.wpe _ _ K25_9.eq_1
def K25_10 : C := .seq (.pl <| .st (.ext 9 11) <|
    .st (.act none (.px (some 9) (.mv (.v 5)))) <|
    .st (.act none (.als 10 none 2)) <|
    .st (.act none (.pget (some 11) (some 10) 2 1 none)) <|
    .st (.act none (.als 12 none 2)) <|
    .st (.act none (.pget (some 13) (some 12) 2 2 none)) <|
    .st (.act none (.px (some 14) (.build [.slice none 0 0, .slice none 0 0, .slice none 0 0] [(0, 1, .v 9), (1, 1, .v 11), (2, 1, .v 13)]))) <|
    .st (.act none (.ex (some 15) (.call fn_spec_FindWord [.v 14]))) K25_9) K25_8
@[simp] def W25_10 := @C.wpe _ _ K25_10.eq_1
def K25_11 : C := .seq (.pl <| .st (.ext 9 1) <|
    .st (.act none (.px (some 9) (.build [.slice none 0 0, .slice none 0 0] []))) <|
    .st (.act none (.pset none 3 0 2 (.v 9))) <|
    .st (.act none (.px (some 4) (.mv (.c (.bool false))))) .done) (.ret)
@[simp] def W25_11 := @C.wpe _ _ K25_11.eq_1
def K25_12 : C := .cond 9 (.v 15) K25_11 (.skip)
@[simp] def W25_12 := @C.wpe _ _ K25_12.eq_1
def K25_13 : C := .seq (.seq (.pl <| .st (.ext 9 7) <|
    .st (.act none (.px (some 9) (.mv (.v 6)))) <|
    .st (.act none (.px (some 10) (.un .not (.v 9)))) <|
    .st (.act none (.px (some 11) (.mv (.v 10)))) <|
    .st (.act (some (.v 11, false)) (.px (some 12) (.mv (.v 5)))) <|
    .st (.act (some (.v 11, false)) (.px (some 13) (.lenV (.v 12)))) <|
    .st (.act (some (.v 11, false)) (.px (some 14) (.bin .eql (.v 13) (.c (.int .i64 0))))) <|
    .st (.act none (.px (some 15) (.pick (.v 11) (.c (.bool true)) (.v 14)))) .done) K25_12) K25_10
@[simp] def W25_13 := @C.wpe _ _ K25_13.eq_1
def K25_14 : Pl := .st (.act none (.px (some 12) (.mv (.v 11)))) <|
    .st (.act none (.px (some 13) (.extract 0 (.v 12)))) <|
    .st (.act none (.px (some 14) (.extract 1 (.v 12)))) <|
    .st (.act none (.px (some 5) (.mv (.v 13)))) <|
    .st (.act none (.px (some 6) (.mv (.v 14)))) .done
@[simp] def W25_14 := @Pl.wpe _ _ K25_14.eq_1
def K25_15 : C := .seq (.pl <| .st (.ext 9 6) <|
    .st (.act none (.pget (some 9) none 2 0 (some 3))) <|
    .st (.act none (.px (some 10) (.mv (.v 1)))) <|
    .st (.act none (.ex (some 11) (.call fn_spec_PrefixStates [.v 9, .v 10]))) K25_14) K25_13
@[simp] def W25_15 := @C.wpe _ _ K25_15.eq_1
def B_spec_ExtendWord : C := .seq (.pl <| .st (.ext 9 0) <|
    .st (.act none (.pnew 2 (.v 0) [])) <|
    .st (.act none (.pnew 3 (.c (.agg #[.slice none 0 0, .slice none 0 0])) [])) <|
    .st (.act none (.px (some 4) (.mv (.c (.bool false))))) .done) K25_15
@[simp] def WB_spec_ExtendWord := @C.wpe _ _ B_spec_ExtendWord.eq_1
def R_spec_ExtendWord : FIR := ⟨B_spec_ExtendWord, 9, [(3, some (some 2)), (4, none)]⟩
theorem IR_spec_ExtendWord : cfun Try.prog H_spec_ExtendWord Try.f25 = some R_spec_ExtendWord := by kernel_rfl
theorem EN_spec_ExtendWord {args : List Value} {h : Heap} {k : Value → Heap → Prop} (hargs : args.length = 2) (hw : B_spec_ExtendWord.wp Try.prog (retQ [(3, some (some 2)), (4, none)] k) (env0 args 9) h) : CallE Try.prog fn_spec_ExtendWord args h k := enter Try.func25 rfl IR_spec_ExtendWord hargs hw

def H_spec_FindWord : Hint := ⟨[(0, false), (1, true), (2, true), (3, false), (4, false), (5, false), (6, false), (7, false)], [[0, 3, 7]]⟩
def K53_1 : C := .seq (.pl <| .st (.ext 8 1) <|
    .st (.act none (.px (some 8) (.build [.slice none 0 0, .slice none 0 0] []))) <|
    .st (.act none (.pset none 2 0 2 (.v 8))) <|
    .st (.act none (.px (some 3) (.mv (.c (.bool false))))) .done) (.ret)
@[simp] def W53_1 := @C.wpe _ _ K53_1.eq_1
def K53_2 : C := .pl <| .st (.ext 8 2) <|
    .st (.act none (.px (some 8) (.mv (.v 6)))) <|
    .st (.act none (.px (some 9) (.bin .add (.v 8) (.c (.int .i64 1))))) <|
    .st (.act none (.px (some 6) (.mv (.v 9)))) .done
@[simp] def W53_2 := @C.wpe _ _ K53_2.eq_1
def K53_3 : Pl := .st (.act none (.px (some 16) (.build [.slice none 0 0, .slice none 0 0] [(0, 1, .v 14), (1, 1, .v 15)]))) <|
    .st (.act none (.pset none 2 0 2 (.v 16))) <|
    .st (.act none (.px (some 3) (.mv (.c (.bool true))))) .done
@[simp] def W53_3 := @Pl.wpe _ _ K53_3.eq_1
def K53_4 : C := .seq (.pl <| .st (.ext 8 9) <|
    .st (.act none (.pget (some 8) none 1 0 (some 3))) <|
    .st (.act none (.px (some 9) (.mv (.v 4)))) <|
    .st (.act none (.px (some 10) (.mv (.v 5)))) <|
    .st (.act none (.px (some 11) (.mv (.v 6)))) <|
    .st (.act none (.px (some 12) (.ia 1 (.v 10) (.v 11)))) <|
    .st (.act none (.ld (some 13) (.v 12) none)) <|
    .st (.act none (.px (some 15) (.mv (.v 7)))) <|
    .st (.act none (.ex (some 14) (.call fn_spec_l7Letters [.v 8, .v 9, .v 13]))) K53_3) (.ret)
@[simp] def W53_4 := @C.wpe _ _ K53_4.eq_1
def K53_5 : C := .cond 8 (.v 10) K53_4 (.skip)
@[simp] def W53_5 := @C.wpe _ _ K53_5.eq_1
def K53_6 : C := .seq (.pl <| .st (.ext 8 3) <|
    .st (.act none (.px (some 8) (.mv (.v 7)))) <|
    .st (.act none (.px (some 9) (.lenV (.v 8)))) <|
    .st (.act none (.px (some 10) (.bin .gtr (.v 9) (.c (.int .i64 0))))) .done) K53_5
@[simp] def W53_6 := @C.wpe _ _ K53_6.eq_1
def K53_7 : Pl := .st (.act none (.px (some 7) (.mv (.v 13)))) .done
@[simp] def W53_7 := @Pl.wpe _ _ K53_7.eq_1
def K53_8 : C := .seq (.pl <| .st (.ext 8 6) <|
    .st (.act none (.pget (some 8) none 1 0 (some 3))) <|
    .st (.act none (.px (some 9) (.mv (.v 5)))) <|
    .st (.act none (.px (some 10) (.mv (.v 6)))) <|
    .st (.act none (.px (some 11) (.ia 1 (.v 9) (.v 10)))) <|
    .st (.act none (.ld (some 12) (.v 11) none)) <|
    .st (.act none (.ex (some 13) (.call fn_spec_l7Cycle [.v 8, .v 12]))) K53_7) K53_6
@[simp] def W53_8 := @C.wpe _ _ K53_8.eq_1
def K53_9 : C := .cond 8 (.v 15) K53_8 (.skip)
@[simp] def W53_9 := @C.wpe _ _ K53_9.eq_1
def K53_10 : C := .seq (.block 1 (.seq (.pl <| .st (.ext 8 8) <|
    .st (.act none (.als 8 none 1)) <|
    .st (.act none (.pget (some 9) (some 8) 1 1 none)) <|
    .st (.act none (.px (some 10) (.mv (.v 5)))) <|
    .st (.act none (.px (some 11) (.mv (.v 6)))) <|
    .st (.act none (.px (some 12) (.ia 1 (.v 10) (.v 11)))) <|
    .st (.act none (.ld (some 13) (.v 12) none)) <|
    .st (.act none (.px (some 14) (.ia 1 (.v 9) (.v 13)))) <|
    .st (.act none (.ld (some 15) (.v 14) none)) .done) K53_9)) K53_2
@[simp] def W53_10 := @C.wpe _ _ K53_10.eq_1
def K53_11 : C := .cond 8 (.v 11) (.skip) (.exit 0)
@[simp] def W53_11 := @C.wpe _ _ K53_11.eq_1
def K53_12 : C := .seq (.seq (.pl <| .st (.ext 8 4) <|
    .st (.act none (.px (some 8) (.mv (.v 6)))) <|
    .st (.act none (.px (some 9) (.mv (.v 5)))) <|
    .st (.act none (.px (some 10) (.lenV (.v 9)))) <|
    .st (.act none (.px (some 11) (.bin .lss (.v 8) (.v 10)))) .done) K53_11) K53_10
@[simp] def W53_12 := @C.wpe _ _ K53_12.eq_1
def K53_13 : C := .block 0 (.loop 8 [0, 3, 7] K53_12)
@[simp] def W53_13 := @C.wpe _ _ K53_13.eq_1
def K53_14 : C := .seq (.seq (.pl <| .st (.ext 8 0) <|
    .st (.act none (.px (some 6) (.mv (.c (.int .i64 0))))) .done) K53_13) K53_1
@[simp] def W53_14 := @C.wpe _ _ K53_14.eq_1
def K53_15 : Pl := .st (.act none (.px (some 12) (.mv (.v 11)))) <|
    .st (.act none (.px (some 13) (.extract 0 (.v 12)))) <|
    .st (.act none (.px (some 14) (.extract 1 (.v 12)))) <|
    .st (.act none (.px (some 4) (.mv (.v 13)))) <|
    .st (.act none (.px (some 5) (.mv (.v 14)))) .done
@[simp] def W53_15 := @Pl.wpe _ _ K53_15.eq_1
def K53_16 : C := .seq (.pl <| .st (.ext 8 7) <|
    .st (.act none (.pget (some 8) none 1 0 (some 3))) <|
    .st (.act none (.als 9 none 1)) <|
    .st (.act none (.pget (some 10) (some 9) 1 0 none)) <|
    .st (.act none (.ex (some 11) (.call fn_spec_l7Tree [.v 8, .v 10]))) K53_15) K53_14
@[simp] def W53_16 := @C.wpe _ _ K53_16.eq_1
def K53_17 : C := .seq (.pl <| .st (.ext 8 1) <|
    .st (.act none (.px (some 8) (.build [.slice none 0 0, .slice none 0 0] []))) <|
    .st (.act none (.pset none 2 0 2 (.v 8))) <|
    .st (.act none (.px (some 3) (.mv (.c (.bool false))))) .done) (.ret)
@[simp] def W53_17 := @C.wpe _ _ K53_17.eq_1
def K53_18 : C := .cond 8 (.v 10) K53_17 (.skip)
@[simp] def W53_18 := @C.wpe _ _ K53_18.eq_1
def K53_19 : Pl := .st (.act none (.px (some 10) (.un .not (.v 9)))) .done
@[simp] def W53_19 := @Pl.wpe _ _ K53_19.eq_1
def K53_20 : C := .seq (.seq (.pl <| .st (.ext 8 3) <|
    .st (.act none (.pget (some 8) none 1 0 (some 3))) <|
    .st (.act none (.ex (some 9) (.call fn_spec_AutomatonValid [.v 8]))) K53_19) K53_18) K53_16
@[simp] def W53_20 := @C.wpe _ _ K53_20.eq_1
def B_spec_FindWord : C := .seq (.pl <| .st (.ext 8 0) <|
    .st (.act none (.pnew 1 (.v 0) [])) <|
    .st (.act none (.pnew 2 (.c (.agg #[.slice none 0 0, .slice none 0 0])) [])) <|
    .st (.act none (.px (some 3) (.mv (.c (.bool false))))) .done) K53_20
@[simp] def WB_spec_FindWord := @C.wpe _ _ B_spec_FindWord.eq_1
def R_spec_FindWord : FIR := ⟨B_spec_FindWord, 8, [(2, some (some 2)), (3, none)]⟩
theorem IR_spec_FindWord : cfun Try.prog H_spec_FindWord Try.f53 = some R_spec_FindWord := by kernel_rfl
theorem EN_spec_FindWord {args : List Value} {h : Heap} {k : Value → Heap → Prop} (hargs : args.length = 1) (hw : B_spec_FindWord.wp Try.prog (retQ [(2, some (some 2)), (3, none)] k) (env0 args 8) h) : CallE Try.prog fn_spec_FindWord args h k := enter Try.func53 rfl IR_spec_FindWord hargs hw

def H_spec_LassoValid : Hint := ⟨[(0, false), (1, true), (2, false)], []⟩
def K54_1 : Pl := .st (.act none (.px (some 10) (.pick (.v 6) (.v 9) (.c (.bool false))))) <|
    .st (.act none (.px (some 11) (.mv (.v 10)))) <|
    .st (.act (some (.v 11, true)) (.als 12 none 1)) <|
    .st (.act (some (.v 11, true)) (.pget (some 13) (some 12) 1 0 none)) <|
    .st (.act (some (.v 11, true)) (.px (some 14) (.lenV (.v 13)))) <|
    .st (.act (some (.v 11, true)) (.px (some 15) (.bin .leq (.v 14) (.c (.int .i64 80))))) <|
    .st (.act none (.px (some 16) (.pick (.v 11) (.v 15) (.c (.bool false))))) <|
    .st (.act none (.px (some 17) (.mv (.v 16)))) <|
    .st (.act (some (.v 17, true)) (.als 18 none 1)) <|
    .st (.act (some (.v 17, true)) (.pget (some 19) (some 18) 1 1 none)) <|
    .st (.act (some (.v 17, true)) (.px (some 20) (.lenV (.v 19)))) <|
    .st (.act (some (.v 17, true)) (.px (some 21) (.bin .geq (.v 20) (.c (.int .i64 1))))) <|
    .st (.act none (.px (some 22) (.pick (.v 17) (.v 21) (.c (.bool false))))) <|
    .st (.act none (.px (some 23) (.mv (.v 22)))) <|
    .st (.act (some (.v 23, true)) (.als 24 none 1)) <|
    .st (.act (some (.v 23, true)) (.pget (some 25) (some 24) 1 1 none)) <|
    .st (.act (some (.v 23, true)) (.px (some 26) (.lenV (.v 25)))) <|
    .st (.act (some (.v 23, true)) (.px (some 27) (.bin .leq (.v 26) (.c (.int .i64 80))))) <|
    .st (.act none (.px (some 28) (.pick (.v 23) (.v 27) (.c (.bool false))))) <|
    .st (.act none (.px (some 2) (.mv (.v 28)))) .done
@[simp] def W54_1 := @Pl.wpe _ _ K54_1.eq_1
def K54_2 : Pl := .st (.act none (.px (some 6) (.mv (.v 5)))) <|
    .st (.act (some (.v 6, true)) (.als 7 none 1)) <|
    .st (.act (some (.v 6, true)) (.pget (some 8) (some 7) 1 1 none)) <|
    .st (.act (some (.v 6, true)) (.ex (some 9) (.call fn_spec_l6Letters [.v 8]))) K54_1
@[simp] def W54_2 := @Pl.wpe _ _ K54_2.eq_1
def K54_3 : C := .seq (.pl <| .st (.ext 3 26) <|
    .st (.act none (.als 3 none 1)) <|
    .st (.act none (.pget (some 4) (some 3) 1 0 none)) <|
    .st (.act none (.ex (some 5) (.call fn_spec_l6Letters [.v 4]))) K54_2) (.ret)
@[simp] def W54_3 := @C.wpe _ _ K54_3.eq_1
def B_spec_LassoValid : C := .seq (.pl <| .st (.ext 3 0) <|
    .st (.act none (.pnew 1 (.v 0) [])) <|
    .st (.act none (.px (some 2) (.mv (.c (.bool false))))) .done) K54_3
@[simp] def WB_spec_LassoValid := @C.wpe _ _ B_spec_LassoValid.eq_1
def R_spec_LassoValid : FIR := ⟨B_spec_LassoValid, 3, [(2, none)]⟩
theorem IR_spec_LassoValid : cfun Try.prog H_spec_LassoValid Try.f54 = some R_spec_LassoValid := by kernel_rfl
theorem EN_spec_LassoValid {args : List Value} {h : Heap} {k : Value → Heap → Prop} (hargs : args.length = 1) (hw : B_spec_LassoValid.wp Try.prog (retQ [(2, none)] k) (env0 args 3) h) : CallE Try.prog fn_spec_LassoValid args h k := enter Try.func54 rfl IR_spec_LassoValid hargs hw

def H_spec_LiveStates : Hint := ⟨[(0, false), (1, true), (2, false), (3, false), (4, false), (5, false), (6, false), (7, false), (8, false)], [[0, 2, 6, 7, 8], [0, 2]]⟩
def K60_1 : C := .seq (.pl <| .st (.ext 9 1) <|
    .st (.act none (.px (some 9) (.mv (.v 3)))) <|
    .st (.act none (.px (some 2) (.mv (.v 9)))) .done) (.ret)
@[simp] def W60_1 := @C.wpe _ _ K60_1.eq_1
def K60_2 : C := .pl <| .st (.ext 9 2) <|
    .st (.act none (.px (some 9) (.mv (.v 5)))) <|
    .st (.act none (.px (some 10) (.bin .add (.v 9) (.c (.int .i64 1))))) <|
    .st (.act none (.px (some 5) (.mv (.v 10)))) .done
@[simp] def W60_2 := @C.wpe _ _ K60_2.eq_1
def K60_3 : Pl := .st (.act none (.px (some 3) (.mv (.v 12)))) .done
@[simp] def W60_3 := @Pl.wpe _ _ K60_3.eq_1
def K60_4 : C := .pl <| .st (.ext 9 4) <|
    .st (.act none (.px (some 9) (.mv (.v 3)))) <|
    .st (.act none (.px (some 10) (.mv (.v 7)))) <|
    .st (.act none (.psl 11 [.bool false] [(0, 1, .v 10)])) <|
    .st (.act none (.ex (some 12) (.app 1 1 [.bool false] (.o (.v 9)) (.p 1 11)))) K60_3
@[simp] def W60_4 := @C.wpe _ _ K60_4.eq_1
def K60_5 : C := .pl <| .st (.ext 9 2) <|
    .st (.act none (.px (some 9) (.mv (.v 8)))) <|
    .st (.act none (.px (some 10) (.bin .add (.v 9) (.c (.int .i64 1))))) <|
    .st (.act none (.px (some 8) (.mv (.v 10)))) .done
@[simp] def W60_5 := @C.wpe _ _ K60_5.eq_1
def K60_6 : Pl := .st (.act none (.px (some 24) (.pick (.v 17) (.v 23) (.c (.bool false))))) <|
    .st (.act none (.px (some 7) (.mv (.v 24)))) .done
@[simp] def W60_6 := @Pl.wpe _ _ K60_6.eq_1
def K60_7 : C := .seq (.block 3 (.pl <| .st (.ext 9 16) <|
    .st (.act none (.als 9 none 1)) <|
    .st (.act none (.pget (some 10) (some 9) 1 1 none)) <|
    .st (.act none (.px (some 11) (.mv (.v 6)))) <|
    .st (.act none (.px (some 12) (.mv (.v 8)))) <|
    .st (.act none (.px (some 13) (.ia 1 (.v 11) (.v 12)))) <|
    .st (.act none (.ld (some 14) (.v 13) none)) <|
    .st (.act none (.px (some 15) (.ia 1 (.v 10) (.v 14)))) <|
    .st (.act none (.ld (some 16) (.v 15) none)) <|
    .st (.act none (.px (some 17) (.mv (.v 16)))) <|
    .st (.act (some (.v 17, true)) (.px (some 18) (.mv (.v 4)))) <|
    .st (.act (some (.v 17, true)) (.px (some 19) (.mv (.v 6)))) <|
    .st (.act (some (.v 17, true)) (.px (some 20) (.mv (.v 8)))) <|
    .st (.act (some (.v 17, true)) (.px (some 21) (.ia 1 (.v 19) (.v 20)))) <|
    .st (.act (some (.v 17, true)) (.ld (some 22) (.v 21) none)) <|
    .st (.act (some (.v 17, true)) (.ex (some 23) (.call fn_spec_l7Loop [.v 18, .v 22]))) K60_6)) K60_5
@[simp] def W60_7 := @C.wpe _ _ K60_7.eq_1
def K60_8 : C := .cond 9 (.v 16) (.skip) (.exit 2)
@[simp] def W60_8 := @C.wpe _ _ K60_8.eq_1
def K60_9 : C := .seq (.seq (.pl <| .st (.ext 9 8) <|
    .st (.act none (.px (some 9) (.mv (.v 8)))) <|
    .st (.act none (.px (some 10) (.mv (.v 6)))) <|
    .st (.act none (.px (some 11) (.lenV (.v 10)))) <|
    .st (.act none (.px (some 12) (.bin .lss (.v 9) (.v 11)))) <|
    .st (.act none (.px (some 13) (.mv (.v 12)))) <|
    .st (.act (some (.v 13, true)) (.px (some 14) (.mv (.v 7)))) <|
    .st (.act (some (.v 13, true)) (.px (some 15) (.un .not (.v 14)))) <|
    .st (.act none (.px (some 16) (.pick (.v 13) (.v 15) (.c (.bool false))))) .done) K60_8) K60_7
@[simp] def W60_9 := @C.wpe _ _ K60_9.eq_1
def K60_10 : C := .block 2 (.loop 9 [0, 2] K60_9)
@[simp] def W60_10 := @C.wpe _ _ K60_10.eq_1
def K60_11 : C := .seq (.seq (.pl <| .st (.ext 9 0) <|
    .st (.act none (.px (some 8) (.mv (.c (.int .i64 0))))) .done) K60_10) K60_4
@[simp] def W60_11 := @C.wpe _ _ K60_11.eq_1
def K60_12 : C := .seq (.pl <| .st (.ext 9 0) <|
    .st (.act none (.px (some 7) (.mv (.c (.bool false))))) .done) K60_11
@[simp] def W60_12 := @C.wpe _ _ K60_12.eq_1
def K60_13 : Pl := .st (.act none (.px (some 6) (.mv (.v 12)))) .done
@[simp] def W60_13 := @Pl.wpe _ _ K60_13.eq_1
def K60_14 : Pl := .st (.act none (.ex (some 12) (.call fn_spec_l7Reach [.v 9, .v 11]))) K60_13
@[simp] def W60_14 := @Pl.wpe _ _ K60_14.eq_1
def K60_15 : C := .seq (.block 1 (.seq (.pl <| .st (.ext 9 4) <|
    .st (.act none (.px (some 9) (.mv (.v 4)))) <|
    .st (.act none (.px (some 10) (.mv (.v 5)))) <|
    .st (.act none (.ex (some 11) (.bls 1 1 [.int .i64 0] [(0, 1, .v 10)]))) K60_14) K60_12)) K60_2
@[simp] def W60_15 := @C.wpe _ _ K60_15.eq_1
def K60_16 : C := .cond 9 (.v 13) (.skip) (.exit 0)
@[simp] def W60_16 := @C.wpe _ _ K60_16.eq_1
def K60_17 : C := .seq (.seq (.pl <| .st (.ext 9 5) <|
    .st (.act none (.px (some 9) (.mv (.v 5)))) <|
    .st (.act none (.als 10 none 1)) <|
    .st (.act none (.pget (some 11) (some 10) 1 1 none)) <|
    .st (.act none (.px (some 12) (.lenV (.v 11)))) <|
    .st (.act none (.px (some 13) (.bin .lss (.v 9) (.v 12)))) .done) K60_16) K60_15
@[simp] def W60_17 := @C.wpe _ _ K60_17.eq_1
def K60_18 : C := .block 0 (.loop 9 [0, 2, 6, 7, 8] K60_17)
@[simp] def W60_18 := @C.wpe _ _ K60_18.eq_1
def K60_19 : C := .seq (.seq (.pl <| .st (.ext 9 0) <|
    .st (.act none (.px (some 5) (.mv (.c (.int .i64 0))))) .done) K60_18) K60_1
@[simp] def W60_19 := @C.wpe _ _ K60_19.eq_1
def K60_20 : Pl := .st (.act none (.px (some 4) (.mv (.v 10)))) .done
@[simp] def W60_20 := @Pl.wpe _ _ K60_20.eq_1
def K60_21 : C := .seq (.pl <| .st (.ext 9 2) <|
    .st (.act none (.pget (some 9) none 1 0 (some 3))) <|
    .st (.act none (.ex (some 10) (.call fn_spec_l7Next [.v 9]))) K60_20) K60_19
@[simp] def W60_21 := @C.wpe _ _ K60_21.eq_1
def K60_22 : C := .seq (.pl <| .st (.ext 9 1) <|
    .st (.act none (.px (some 9) (.mv (.v 3)))) <|
    .st (.act none (.px (some 2) (.mv (.v 9)))) .done) (.ret)
@[simp] def W60_22 := @C.wpe _ _ K60_22.eq_1
def K60_23 : C := .cond 9 (.v 11) K60_22 (.skip)
@[simp] def W60_23 := @C.wpe _ _ K60_23.eq_1
def K60_24 : Pl := .st (.act none (.px (some 11) (.un .not (.v 10)))) .done
@[simp] def W60_24 := @Pl.wpe _ _ K60_24.eq_1
def K60_25 : C := .seq (.seq (.pl <| .st (.ext 9 3) <|
    .st (.act none (.pget (some 9) none 1 0 (some 3))) <|
    .st (.act none (.ex (some 10) (.call fn_spec_AutomatonValid [.v 9]))) K60_24) K60_23) K60_21
@[simp] def W60_25 := @C.wpe _ _ K60_25.eq_1
def K60_26 : Pl := .st (.act none (.px (some 3) (.mv (.v 9)))) .done
@[simp] def W60_26 := @Pl.wpe _ _ K60_26.eq_1
def K60_27 : C := .seq (.pl <| .st (.ext 9 1) <|
    .st (.act none (.ex (some 9) (.bls 1 0 [.bool false] []))) K60_26) K60_25
@[simp] def W60_27 := @C.wpe _ _ K60_27.eq_1
def B_spec_LiveStates : C := .seq (.pl <| .st (.ext 9 0) <|
    .st (.act none (.pnew 1 (.v 0) [])) <|
    .st (.act none (.px (some 2) (.mv (.c (.slice none 0 0))))) .done) K60_27
@[simp] def WB_spec_LiveStates := @C.wpe _ _ B_spec_LiveStates.eq_1
def R_spec_LiveStates : FIR := ⟨B_spec_LiveStates, 9, [(2, none)]⟩
theorem IR_spec_LiveStates : cfun Try.prog H_spec_LiveStates Try.f60 = some R_spec_LiveStates := by kernel_rfl
theorem EN_spec_LiveStates {args : List Value} {h : Heap} {k : Value → Heap → Prop} (hargs : args.length = 1) (hw : B_spec_LiveStates.wp Try.prog (retQ [(2, none)] k) (env0 args 9) h) : CallE Try.prog fn_spec_LiveStates args h k := enter Try.func60 rfl IR_spec_LiveStates hargs hw

def H_spec_MergeStates : Hint := ⟨[(0, false), (1, true), (2, true), (3, false)], []⟩
def K21_1 : Pl := .st (.act none (.pset none 2 0 3 (.v 5))) <|
    .st (.act none (.px (some 3) (.mv (.c (.bool true))))) .done
@[simp] def W21_1 := @Pl.wpe _ _ K21_1.eq_1
def K21_2 : C := .seq (.pl <| .st (.ext 4 2) <|
    .st (.act none (.pget (some 4) none 1 0 (some 3))) <|
    .st (.act none (.ex (some 5) (.call fn_spec_l13Merge [.v 4]))) K21_1) (.ret)
@[simp] def W21_2 := @C.wpe _ _ K21_2.eq_1
def K21_3 : C := .seq (.pl <| .st (.ext 4 1) <|
    .st (.act none (.px (some 4) (.build [.slice none 0 0, .slice none 0 0, .slice none 0 0] []))) <|
    .st (.act none (.pset none 2 0 3 (.v 4))) <|
    .st (.act none (.px (some 3) (.mv (.c (.bool false))))) .done) (.ret)
@[simp] def W21_3 := @C.wpe _ _ K21_3.eq_1
def K21_4 : C := .cond 4 (.v 6) K21_3 (.skip)
@[simp] def W21_4 := @C.wpe _ _ K21_4.eq_1
def K21_5 : Pl := .st (.act none (.px (some 6) (.un .not (.v 5)))) .done
@[simp] def W21_5 := @Pl.wpe _ _ K21_5.eq_1
def K21_6 : C := .seq (.seq (.pl <| .st (.ext 4 3) <|
    .st (.act none (.pget (some 4) none 1 0 (some 3))) <|
    .st (.act none (.ex (some 5) (.call fn_spec_AutomatonValid [.v 4]))) K21_5) K21_4) K21_2
@[simp] def W21_6 := @C.wpe _ _ K21_6.eq_1
def B_spec_MergeStates : C := .seq (.pl <| .st (.ext 4 0) <|
    .st (.act none (.pnew 1 (.v 0) [])) <|
    .st (.act none (.pnew 2 (.c (.agg #[.slice none 0 0, .slice none 0 0, .slice none 0 0])) [])) <|
    .st (.act none (.px (some 3) (.mv (.c (.bool false))))) .done) K21_6
@[simp] def WB_spec_MergeStates := @C.wpe _ _ B_spec_MergeStates.eq_1
def R_spec_MergeStates : FIR := ⟨B_spec_MergeStates, 4, [(2, some (some 3)), (3, none)]⟩
theorem IR_spec_MergeStates : cfun Try.prog H_spec_MergeStates Try.f21 = some R_spec_MergeStates := by kernel_rfl
theorem EN_spec_MergeStates {args : List Value} {h : Heap} {k : Value → Heap → Prop} (hargs : args.length = 1) (hw : B_spec_MergeStates.wp Try.prog (retQ [(2, some (some 3)), (3, none)] k) (env0 args 4) h) : CallE Try.prog fn_spec_MergeStates args h k := enter Try.func21 rfl IR_spec_MergeStates hargs hw

def H_spec_PrefixStates : Hint := ⟨[(0, false), (1, false), (2, true), (4, false), (5, false)], []⟩
def K15_1 : Pl := .st (.act none (.px (some 3) (.mv (.v 7)))) <|
    .st (.act none (.px (some 4) (.mv (.c (.bool true))))) .done
@[simp] def W15_1 := @Pl.wpe _ _ K15_1.eq_1
def K15_2 : C := .seq (.pl <| .st (.ext 5 3) <|
    .st (.act none (.pget (some 5) none 2 0 (some 3))) <|
    .st (.act none (.px (some 6) (.mv (.v 1)))) <|
    .st (.act none (.ex (some 7) (.call fn_spec_l12States [.v 5, .v 6]))) K15_1) (.ret)
@[simp] def W15_2 := @C.wpe _ _ K15_2.eq_1
def K15_3 : Pl := .st (.act none (.px (some 3) (.mv (.v 5)))) <|
    .st (.act none (.px (some 4) (.mv (.c (.bool false))))) .done
@[simp] def W15_3 := @Pl.wpe _ _ K15_3.eq_1
def K15_4 : C := .seq (.pl <| .st (.ext 5 1) <|
    .st (.act none (.ex (some 5) (.bls 1 0 [.int .i64 0] []))) K15_3) (.ret)
@[simp] def W15_4 := @C.wpe _ _ K15_4.eq_1
def K15_5 : C := .cond 5 (.v 12) K15_4 (.skip)
@[simp] def W15_5 := @C.wpe _ _ K15_5.eq_1
def K15_6 : Pl := .st (.act (some (.v 8, false)) (.px (some 11) (.un .not (.v 10)))) <|
    .st (.act none (.px (some 12) (.pick (.v 8) (.c (.bool true)) (.v 11)))) .done
@[simp] def W15_6 := @Pl.wpe _ _ K15_6.eq_1
def K15_7 : Pl := .st (.act none (.px (some 7) (.un .not (.v 6)))) <|
    .st (.act none (.px (some 8) (.mv (.v 7)))) <|
    .st (.act (some (.v 8, false)) (.px (some 9) (.mv (.v 1)))) <|
    .st (.act (some (.v 8, false)) (.ex (some 10) (.call fn_spec_l12Word [.v 9]))) K15_6
@[simp] def W15_7 := @Pl.wpe _ _ K15_7.eq_1
def K15_8 : C := .seq (.seq (.pl <| .st (.ext 5 8) <|
    .st (.act none (.pget (some 5) none 2 0 (some 3))) <|
    .st (.act none (.ex (some 6) (.call fn_spec_AutomatonValid [.v 5]))) K15_7) K15_5) K15_2
@[simp] def W15_8 := @C.wpe _ _ K15_8.eq_1
def B_spec_PrefixStates : C := .seq (.pl <| .st (.ext 5 0) <|
    .st (.act none (.pnew 2 (.v 0) [])) <|
    .st (.act none (.px (some 3) (.mv (.c (.slice none 0 0))))) <|
    .st (.act none (.px (some 4) (.mv (.c (.bool false))))) .done) K15_8
@[simp] def WB_spec_PrefixStates := @C.wpe _ _ B_spec_PrefixStates.eq_1
def R_spec_PrefixStates : FIR := ⟨B_spec_PrefixStates, 5, [(3, none), (4, none)]⟩
theorem IR_spec_PrefixStates : cfun Try.prog H_spec_PrefixStates Try.f15 = some R_spec_PrefixStates := by kernel_rfl
theorem EN_spec_PrefixStates {args : List Value} {h : Heap} {k : Value → Heap → Prop} (hargs : args.length = 2) (hw : B_spec_PrefixStates.wp Try.prog (retQ [(3, none), (4, none)] k) (env0 args 5) h) : CallE Try.prog fn_spec_PrefixStates args h k := enter Try.func15 rfl IR_spec_PrefixStates hargs hw

def H_spec_SimplifyAutomaton : Hint := ⟨[(0, false), (1, true), (2, true), (3, false), (4, true)], [[0, 3, 4]]⟩
def K23_1 : C := .pl <| .st (.ext 5 1) <|
    .st (.act none (.pget (some 5) none 4 0 (some 3))) <|
    .st (.act none (.pset none 1 0 3 (.v 5))) .done
@[simp] def W23_1 := @C.wpe _ _ K23_1.eq_1
def K23_2 : C := .seq (.pl <| .st (.ext 5 1) <|
    .st (.act none (.pget (some 5) none 4 0 (some 3))) <|
    .st (.act none (.pset none 2 0 3 (.v 5))) <|
    .st (.act none (.px (some 3) (.mv (.c (.bool true))))) .done) (.ret)
@[simp] def W23_2 := @C.wpe _ _ K23_2.eq_1
def K23_3 : C := .cond 5 (.v 7) K23_2 (.skip)
@[simp] def W23_3 := @C.wpe _ _ K23_3.eq_1
def K23_4 : C := .seq (.seq (.pl <| .st (.ext 5 3) <|
    .st (.act none (.pget (some 5) none 4 0 (some 3))) <|
    .st (.act none (.pget (some 6) none 1 0 (some 3))) <|
    .st (.act none (.ex (some 7) (.call fn_spec_AutomatonSame [.v 5, .v 6]))) .done) K23_3) K23_1
@[simp] def W23_4 := @C.wpe _ _ K23_4.eq_1
def K23_5 : Pl := .st (.act none (.pnew 4 (.c (.agg #[.slice none 0 0, .slice none 0 0, .slice none 0 0])) [])) <|
    .st (.act none (.pset none 4 0 3 (.v 7))) .done
@[simp] def W23_5 := @Pl.wpe _ _ K23_5.eq_1
def K23_6 : Pl := .st (.act none (.ex (some 7) (.call fn_spec_l13Merge [.v 6]))) K23_5
@[simp] def W23_6 := @Pl.wpe _ _ K23_6.eq_1
def K23_7 : C := .block 1 (.seq (.pl <| .st (.ext 5 3) <|
    .st (.act none (.pget (some 5) none 1 0 (some 3))) <|
    .st (.act none (.ex (some 6) (.call fn_spec_l13Trim [.v 5]))) K23_6) K23_4)
@[simp] def W23_7 := @C.wpe _ _ K23_7.eq_1
def K23_8 : C := .block 0 (.loop 5 [0, 3, 4] K23_7)
@[simp] def W23_8 := @C.wpe _ _ K23_8.eq_1
def K23_9 : C := .seq (.pl <| .st (.ext 5 1) <|
    .st (.act none (.px (some 5) (.build [.slice none 0 0, .slice none 0 0, .slice none 0 0] []))) <|
    .st (.act none (.pset none 2 0 3 (.v 5))) <|
    .st (.act none (.px (some 3) (.mv (.c (.bool false))))) .done) (.ret)
@[simp] def W23_9 := @C.wpe _ _ K23_9.eq_1
def K23_10 : C := .cond 5 (.v 7) K23_9 (.skip)
@[simp] def W23_10 := @C.wpe _ _ K23_10.eq_1
def K23_11 : Pl := .st (.act none (.px (some 7) (.un .not (.v 6)))) .done
@[simp] def W23_11 := @Pl.wpe _ _ K23_11.eq_1
def K23_12 : C := .seq (.seq (.pl <| .st (.ext 5 3) <|
    .st (.act none (.pget (some 5) none 1 0 (some 3))) <|
    .st (.act none (.ex (some 6) (.call fn_spec_AutomatonValid [.v 5]))) K23_11) K23_10) K23_8
@[simp] def W23_12 := @C.wpe _ _ K23_12.eq_1
def B_spec_SimplifyAutomaton : C := .seq (.pl <| .st (.ext 5 0) <|
    .st (.act none (.pnew 1 (.v 0) [])) <|
    .st (.act none (.pnew 2 (.c (.agg #[.slice none 0 0, .slice none 0 0, .slice none 0 0])) [])) <|
    .st (.act none (.px (some 3) (.mv (.c (.bool false))))) .done) K23_12
@[simp] def WB_spec_SimplifyAutomaton := @C.wpe _ _ B_spec_SimplifyAutomaton.eq_1
def R_spec_SimplifyAutomaton : FIR := ⟨B_spec_SimplifyAutomaton, 5, [(2, some (some 3)), (3, none)]⟩
theorem IR_spec_SimplifyAutomaton : cfun Try.prog H_spec_SimplifyAutomaton Try.f23 = some R_spec_SimplifyAutomaton := by kernel_rfl
theorem EN_spec_SimplifyAutomaton {args : List Value} {h : Heap} {k : Value → Heap → Prop} (hargs : args.length = 1) (hw : B_spec_SimplifyAutomaton.wp Try.prog (retQ [(2, some (some 3)), (3, none)] k) (env0 args 5) h) : CallE Try.prog fn_spec_SimplifyAutomaton args h k := enter Try.func23 rfl IR_spec_SimplifyAutomaton hargs hw

def H_spec_TrimAutomaton : Hint := ⟨[(0, false), (1, true), (2, true), (3, false)], []⟩
def K9_1 : Pl := .st (.act none (.pset none 2 0 3 (.v 5))) <|
    .st (.act none (.px (some 3) (.mv (.c (.bool true))))) .done
@[simp] def W9_1 := @Pl.wpe _ _ K9_1.eq_1
def K9_2 : C := .seq (.pl <| .st (.ext 4 2) <|
    .st (.act none (.pget (some 4) none 1 0 (some 3))) <|
    .st (.act none (.ex (some 5) (.call fn_spec_l13Trim [.v 4]))) K9_1) (.ret)
@[simp] def W9_2 := @C.wpe _ _ K9_2.eq_1
def K9_3 : C := .seq (.pl <| .st (.ext 4 1) <|
    .st (.act none (.px (some 4) (.build [.slice none 0 0, .slice none 0 0, .slice none 0 0] []))) <|
    .st (.act none (.pset none 2 0 3 (.v 4))) <|
    .st (.act none (.px (some 3) (.mv (.c (.bool false))))) .done) (.ret)
@[simp] def W9_3 := @C.wpe _ _ K9_3.eq_1
def K9_4 : C := .cond 4 (.v 6) K9_3 (.skip)
@[simp] def W9_4 := @C.wpe _ _ K9_4.eq_1
def K9_5 : Pl := .st (.act none (.px (some 6) (.un .not (.v 5)))) .done
@[simp] def W9_5 := @Pl.wpe _ _ K9_5.eq_1
def K9_6 : C := .seq (.seq (.pl <| .st (.ext 4 3) <|
    .st (.act none (.pget (some 4) none 1 0 (some 3))) <|
    .st (.act none (.ex (some 5) (.call fn_spec_AutomatonValid [.v 4]))) K9_5) K9_4) K9_2
@[simp] def W9_6 := @C.wpe _ _ K9_6.eq_1
def B_spec_TrimAutomaton : C := .seq (.pl <| .st (.ext 4 0) <|
    .st (.act none (.pnew 1 (.v 0) [])) <|
    .st (.act none (.pnew 2 (.c (.agg #[.slice none 0 0, .slice none 0 0, .slice none 0 0])) [])) <|
    .st (.act none (.px (some 3) (.mv (.c (.bool false))))) .done) K9_6
@[simp] def WB_spec_TrimAutomaton := @C.wpe _ _ B_spec_TrimAutomaton.eq_1
def R_spec_TrimAutomaton : FIR := ⟨B_spec_TrimAutomaton, 4, [(2, some (some 3)), (3, none)]⟩
theorem IR_spec_TrimAutomaton : cfun Try.prog H_spec_TrimAutomaton Try.f9 = some R_spec_TrimAutomaton := by kernel_rfl
theorem EN_spec_TrimAutomaton {args : List Value} {h : Heap} {k : Value → Heap → Prop} (hargs : args.length = 1) (hw : B_spec_TrimAutomaton.wp Try.prog (retQ [(2, some (some 3)), (3, none)] k) (env0 args 4) h) : CallE Try.prog fn_spec_TrimAutomaton args h k := enter Try.func9 rfl IR_spec_TrimAutomaton hargs hw

def H_spec_l10Sorted : Hint := ⟨[(0, false), (1, false), (4, false), (5, false), (6, false), (7, false)], [[2]]⟩
def K81_1 : C := .seq (.pl <| .st (.ext 6 1) <|
    .st (.act none (.px (some 6) (.mv (.v 3)))) <|
    .st (.act none (.px (some 2) (.mv (.v 6)))) .done) (.ret)
@[simp] def W81_1 := @C.wpe _ _ K81_1.eq_1
def K81_2 : Pl := .st (.act none (.px (some 3) (.mv (.v 9)))) .done
@[simp] def W81_2 := @Pl.wpe _ _ K81_2.eq_1
def K81_3 : C := .pl <| .st (.ext 6 4) <|
    .st (.act none (.px (some 6) (.mv (.v 3)))) <|
    .st (.act none (.px (some 7) (.mv (.v 1)))) <|
    .st (.act none (.psl 8 [.int .i64 0] [(0, 1, .v 7)])) <|
    .st (.act none (.ex (some 9) (.app 8 1 [.int .i64 0] (.o (.v 6)) (.p 1 8)))) K81_2
@[simp] def W81_3 := @C.wpe _ _ K81_3.eq_1
def K81_4 : C := .cond 6 (.v 7) K81_3 (.skip)
@[simp] def W81_4 := @C.wpe _ _ K81_4.eq_1
def K81_5 : C := .seq (.seq (.pl <| .st (.ext 6 2) <|
    .st (.act none (.px (some 6) (.mv (.v 4)))) <|
    .st (.act none (.px (some 7) (.un .not (.v 6)))) .done) K81_4) K81_1
@[simp] def W81_5 := @C.wpe _ _ K81_5.eq_1
def K81_6 : C := .pl <| .st (.ext 6 2) <|
    .st (.act none (.px (some 6) (.mv (.v 5)))) <|
    .st (.act none (.px (some 7) (.bin .add (.v 6) (.c (.int .i64 1))))) <|
    .st (.act none (.px (some 5) (.mv (.v 7)))) .done
@[simp] def W81_6 := @C.wpe _ _ K81_6.eq_1
def K81_7 : Pl := .st (.act none (.px (some 3) (.mv (.v 12)))) .done
@[simp] def W81_7 := @Pl.wpe _ _ K81_7.eq_1
def K81_8 : C := .pl <| .st (.ext 6 7) <|
    .st (.act none (.px (some 6) (.mv (.v 3)))) <|
    .st (.act none (.px (some 7) (.mv (.v 0)))) <|
    .st (.act none (.px (some 8) (.mv (.v 5)))) <|
    .st (.act none (.px (some 9) (.ia 1 (.v 7) (.v 8)))) <|
    .st (.act none (.ld (some 10) (.v 9) none)) <|
    .st (.act none (.psl 11 [.int .i64 0] [(0, 1, .v 10)])) <|
    .st (.act none (.ex (some 12) (.app 8 1 [.int .i64 0] (.o (.v 6)) (.p 1 11)))) K81_7
@[simp] def W81_8 := @C.wpe _ _ K81_8.eq_1
def K81_9 : C := .pl <| .st (.ext 6 0) <|
    .st (.act none (.px (some 4) (.mv (.c (.bool true))))) .done
@[simp] def W81_9 := @C.wpe _ _ K81_9.eq_1
def K81_10 : Pl := .st (.act none (.px (some 3) (.mv (.v 9)))) .done
@[simp] def W81_10 := @Pl.wpe _ _ K81_10.eq_1
def K81_11 : C := .seq (.pl <| .st (.ext 6 4) <|
    .st (.act none (.px (some 6) (.mv (.v 3)))) <|
    .st (.act none (.px (some 7) (.mv (.v 1)))) <|
    .st (.act none (.psl 8 [.int .i64 0] [(0, 1, .v 7)])) <|
    .st (.act none (.ex (some 9) (.app 8 1 [.int .i64 0] (.o (.v 6)) (.p 1 8)))) K81_10) K81_9
@[simp] def W81_11 := @C.wpe _ _ K81_11.eq_1
def K81_12 : C := .cond 6 (.v 15) K81_11 (.skip)
@[simp] def W81_12 := @C.wpe _ _ K81_12.eq_1
def K81_13 : C := .seq (.seq (.pl <| .st (.ext 6 10) <|
    .st (.act none (.px (some 6) (.mv (.v 0)))) <|
    .st (.act none (.px (some 7) (.mv (.v 5)))) <|
    .st (.act none (.px (some 8) (.ia 1 (.v 6) (.v 7)))) <|
    .st (.act none (.ld (some 9) (.v 8) none)) <|
    .st (.act none (.px (some 10) (.mv (.v 1)))) <|
    .st (.act none (.px (some 11) (.bin .gtr (.v 9) (.v 10)))) <|
    .st (.act none (.px (some 12) (.mv (.v 11)))) <|
    .st (.act (some (.v 12, true)) (.px (some 13) (.mv (.v 4)))) <|
    .st (.act (some (.v 12, true)) (.px (some 14) (.un .not (.v 13)))) <|
    .st (.act none (.px (some 15) (.pick (.v 12) (.v 14) (.c (.bool false))))) .done) K81_12) K81_8
@[simp] def W81_13 := @C.wpe _ _ K81_13.eq_1
def K81_14 : C := .seq (.pl <| .st (.ext 6 1) <|
    .st (.act none (.px (some 6) (.mv (.v 0)))) <|
    .st (.act none (.px (some 2) (.mv (.v 6)))) .done) (.ret)
@[simp] def W81_14 := @C.wpe _ _ K81_14.eq_1
def K81_15 : C := .cond 6 (.v 11) K81_14 (.skip)
@[simp] def W81_15 := @C.wpe _ _ K81_15.eq_1
def K81_16 : C := .seq (.block 1 (.seq (.seq (.pl <| .st (.ext 6 6) <|
    .st (.act none (.px (some 6) (.mv (.v 0)))) <|
    .st (.act none (.px (some 7) (.mv (.v 5)))) <|
    .st (.act none (.px (some 8) (.ia 1 (.v 6) (.v 7)))) <|
    .st (.act none (.ld (some 9) (.v 8) none)) <|
    .st (.act none (.px (some 10) (.mv (.v 1)))) <|
    .st (.act none (.px (some 11) (.bin .eql (.v 9) (.v 10)))) .done) K81_15) K81_13)) K81_6
@[simp] def W81_16 := @C.wpe _ _ K81_16.eq_1
def K81_17 : C := .cond 6 (.v 9) (.skip) (.exit 0)
@[simp] def W81_17 := @C.wpe _ _ K81_17.eq_1
def K81_18 : C := .seq (.seq (.pl <| .st (.ext 6 4) <|
    .st (.act none (.px (some 6) (.mv (.v 5)))) <|
    .st (.act none (.px (some 7) (.mv (.v 0)))) <|
    .st (.act none (.px (some 8) (.lenV (.v 7)))) <|
    .st (.act none (.px (some 9) (.bin .lss (.v 6) (.v 8)))) .done) K81_17) K81_16
@[simp] def W81_18 := @C.wpe _ _ K81_18.eq_1
def K81_19 : C := .block 0 (.loop 6 [2] K81_18)
@[simp] def W81_19 := @C.wpe _ _ K81_19.eq_1
def K81_20 : C := .seq (.seq (.pl <| .st (.ext 6 0) <|
    .st (.act none (.px (some 5) (.mv (.c (.int .i64 0))))) .done) K81_19) K81_5
@[simp] def W81_20 := @C.wpe _ _ K81_20.eq_1
def K81_21 : C := .seq (.pl <| .st (.ext 6 0) <|
    .st (.act none (.px (some 4) (.mv (.c (.bool false))))) .done) K81_20
@[simp] def W81_21 := @C.wpe _ _ K81_21.eq_1
def K81_22 : Pl := .st (.act none (.px (some 3) (.mv (.v 6)))) .done
@[simp] def W81_22 := @Pl.wpe _ _ K81_22.eq_1
def K81_23 : C := .seq (.pl <| .st (.ext 6 1) <|
    .st (.act none (.ex (some 6) (.bls 1 0 [.int .i64 0] []))) K81_22) K81_21
@[simp] def W81_23 := @C.wpe _ _ K81_23.eq_1
def B_spec_l10Sorted : C := .seq (.pl <| .st (.ext 6 0) <|
    .st (.act none (.px (some 2) (.mv (.c (.slice none 0 0))))) .done) K81_23
@[simp] def WB_spec_l10Sorted := @C.wpe _ _ B_spec_l10Sorted.eq_1
def R_spec_l10Sorted : FIR := ⟨B_spec_l10Sorted, 6, [(2, none)]⟩
theorem IR_spec_l10Sorted : cfun Try.prog H_spec_l10Sorted Try.f81 = some R_spec_l10Sorted := by kernel_rfl
theorem EN_spec_l10Sorted {args : List Value} {h : Heap} {k : Value → Heap → Prop} (hargs : args.length = 2) (hw : B_spec_l10Sorted.wp Try.prog (retQ [(2, none)] k) (env0 args 6) h) : CallE Try.prog fn_spec_l10Sorted args h k := enter Try.func81 rfl IR_spec_l10Sorted hargs hw

def H_spec_l12Only : Hint := ⟨[(0, false), (1, false), (4, false), (5, false), (6, false)], [[2]]⟩
def K74_1 : C := .seq (.pl <| .st (.ext 5 1) <|
    .st (.act none (.px (some 5) (.mv (.v 3)))) <|
    .st (.act none (.px (some 2) (.mv (.v 5)))) .done) (.ret)
@[simp] def W74_1 := @C.wpe _ _ K74_1.eq_1
def K74_2 : C := .pl <| .st (.ext 5 2) <|
    .st (.act none (.px (some 5) (.mv (.v 4)))) <|
    .st (.act none (.px (some 6) (.bin .add (.v 5) (.c (.int .i64 1))))) <|
    .st (.act none (.px (some 4) (.mv (.v 6)))) .done
@[simp] def W74_2 := @C.wpe _ _ K74_2.eq_1
def K74_3 : Pl := .st (.act none (.px (some 3) (.mv (.v 11)))) .done
@[simp] def W74_3 := @Pl.wpe _ _ K74_3.eq_1
def K74_4 : C := .pl <| .st (.ext 5 7) <|
    .st (.act none (.px (some 5) (.mv (.v 3)))) <|
    .st (.act none (.px (some 6) (.mv (.v 0)))) <|
    .st (.act none (.px (some 7) (.mv (.v 4)))) <|
    .st (.act none (.px (some 8) (.ia 1 (.v 6) (.v 7)))) <|
    .st (.act none (.ld (some 9) (.v 8) none)) <|
    .st (.act none (.psl 10 [.int .i64 0] [(0, 1, .v 9)])) <|
    .st (.act none (.ex (some 11) (.app 8 1 [.int .i64 0] (.o (.v 5)) (.p 1 10)))) K74_3
@[simp] def W74_4 := @C.wpe _ _ K74_4.eq_1
def K74_5 : C := .cond 5 (.v 11) K74_4 (.skip)
@[simp] def W74_5 := @C.wpe _ _ K74_5.eq_1
def K74_6 : C := .seq (.block 1 (.seq (.pl <| .st (.ext 5 7) <|
    .st (.act none (.px (some 5) (.mv (.v 1)))) <|
    .st (.act none (.px (some 6) (.mv (.v 0)))) <|
    .st (.act none (.px (some 7) (.mv (.v 4)))) <|
    .st (.act none (.px (some 8) (.ia 1 (.v 6) (.v 7)))) <|
    .st (.act none (.ld (some 9) (.v 8) none)) <|
    .st (.act none (.px (some 10) (.ia 1 (.v 5) (.v 9)))) <|
    .st (.act none (.ld (some 11) (.v 10) none)) .done) K74_5)) K74_2
@[simp] def W74_6 := @C.wpe _ _ K74_6.eq_1
def K74_7 : C := .cond 5 (.v 8) (.skip) (.exit 0)
@[simp] def W74_7 := @C.wpe _ _ K74_7.eq_1
def K74_8 : C := .seq (.seq (.pl <| .st (.ext 5 4) <|
    .st (.act none (.px (some 5) (.mv (.v 4)))) <|
    .st (.act none (.px (some 6) (.mv (.v 0)))) <|
    .st (.act none (.px (some 7) (.lenV (.v 6)))) <|
    .st (.act none (.px (some 8) (.bin .lss (.v 5) (.v 7)))) .done) K74_7) K74_6
@[simp] def W74_8 := @C.wpe _ _ K74_8.eq_1
def K74_9 : C := .block 0 (.loop 5 [2] K74_8)
@[simp] def W74_9 := @C.wpe _ _ K74_9.eq_1
def K74_10 : C := .seq (.seq (.pl <| .st (.ext 5 0) <|
    .st (.act none (.px (some 4) (.mv (.c (.int .i64 0))))) .done) K74_9) K74_1
@[simp] def W74_10 := @C.wpe _ _ K74_10.eq_1
def K74_11 : Pl := .st (.act none (.px (some 3) (.mv (.v 5)))) .done
@[simp] def W74_11 := @Pl.wpe _ _ K74_11.eq_1
def K74_12 : C := .seq (.pl <| .st (.ext 5 1) <|
    .st (.act none (.ex (some 5) (.bls 1 0 [.int .i64 0] []))) K74_11) K74_10
@[simp] def W74_12 := @C.wpe _ _ K74_12.eq_1
def B_spec_l12Only : C := .seq (.pl <| .st (.ext 5 0) <|
    .st (.act none (.px (some 2) (.mv (.c (.slice none 0 0))))) .done) K74_12
@[simp] def WB_spec_l12Only := @C.wpe _ _ B_spec_l12Only.eq_1
def R_spec_l12Only : FIR := ⟨B_spec_l12Only, 5, [(2, none)]⟩
theorem IR_spec_l12Only : cfun Try.prog H_spec_l12Only Try.f74 = some R_spec_l12Only := by kernel_rfl
theorem EN_spec_l12Only {args : List Value} {h : Heap} {k : Value → Heap → Prop} (hargs : args.length = 2) (hw : B_spec_l12Only.wp Try.prog (retQ [(2, none)] k) (env0 args 5) h) : CallE Try.prog fn_spec_l12Only args h k := enter Try.func74 rfl IR_spec_l12Only hargs hw

def H_spec_l12States : Hint := ⟨[(0, false), (1, false), (2, true), (4, false), (5, false), (6, false), (7, false)], [[0, 3]]⟩
def K46_1 : Pl := .st (.act none (.px (some 3) (.mv (.v 9)))) .done
@[simp] def W46_1 := @Pl.wpe _ _ K46_1.eq_1
def K46_2 : C := .seq (.pl <| .st (.ext 7 3) <|
    .st (.act none (.psl 7 [] [])) <|
    .st (.act none (.px (some 8) (.mv (.v 5)))) <|
    .st (.act none (.ex (some 9) (.app 8 1 [.int .i64 0] (.p 0 7) (.o (.v 8))))) K46_1) (.ret)
@[simp] def W46_2 := @C.wpe _ _ K46_2.eq_1
def K46_3 : C := .pl <| .st (.ext 7 2) <|
    .st (.act none (.px (some 7) (.mv (.v 6)))) <|
    .st (.act none (.px (some 8) (.bin .add (.v 7) (.c (.int .i64 1))))) <|
    .st (.act none (.px (some 6) (.mv (.v 8)))) .done
@[simp] def W46_3 := @C.wpe _ _ K46_3.eq_1
def K46_4 : Pl := .st (.act none (.px (some 5) (.mv (.v 15)))) .done
@[simp] def W46_4 := @Pl.wpe _ _ K46_4.eq_1
def K46_5 : Pl := .st (.act none (.ex (some 15) (.call fn_spec_l12Only [.v 13, .v 14]))) K46_4
@[simp] def W46_5 := @Pl.wpe _ _ K46_5.eq_1
def K46_6 : C := .seq (.block 1 (.pl <| .st (.ext 7 9) <|
    .st (.act none (.pget (some 7) none 2 0 (some 3))) <|
    .st (.act none (.px (some 8) (.mv (.v 5)))) <|
    .st (.act none (.px (some 9) (.mv (.v 1)))) <|
    .st (.act none (.px (some 10) (.mv (.v 6)))) <|
    .st (.act none (.px (some 11) (.ia 1 (.v 9) (.v 10)))) <|
    .st (.act none (.ld (some 12) (.v 11) none)) <|
    .st (.act none (.px (some 14) (.mv (.v 4)))) <|
    .st (.act none (.ex (some 13) (.call fn_spec_l12Step [.v 7, .v 8, .v 12]))) K46_5)) K46_3
@[simp] def W46_6 := @C.wpe _ _ K46_6.eq_1
def K46_7 : C := .cond 7 (.v 10) (.skip) (.exit 0)
@[simp] def W46_7 := @C.wpe _ _ K46_7.eq_1
def K46_8 : C := .seq (.seq (.pl <| .st (.ext 7 4) <|
    .st (.act none (.px (some 7) (.mv (.v 6)))) <|
    .st (.act none (.px (some 8) (.mv (.v 1)))) <|
    .st (.act none (.px (some 9) (.lenV (.v 8)))) <|
    .st (.act none (.px (some 10) (.bin .lss (.v 7) (.v 9)))) .done) K46_7) K46_6
@[simp] def W46_8 := @C.wpe _ _ K46_8.eq_1
def K46_9 : C := .block 0 (.loop 7 [0, 3] K46_8)
@[simp] def W46_9 := @C.wpe _ _ K46_9.eq_1
def K46_10 : C := .seq (.seq (.pl <| .st (.ext 7 0) <|
    .st (.act none (.px (some 6) (.mv (.c (.int .i64 0))))) .done) K46_9) K46_2
@[simp] def W46_10 := @C.wpe _ _ K46_10.eq_1
def K46_11 : Pl := .st (.act none (.px (some 5) (.mv (.v 10)))) .done
@[simp] def W46_11 := @Pl.wpe _ _ K46_11.eq_1
def K46_12 : C := .seq (.pl <| .st (.ext 7 4) <|
    .st (.act none (.als 7 none 2)) <|
    .st (.act none (.pget (some 8) (some 7) 2 0 none)) <|
    .st (.act none (.px (some 9) (.mv (.v 4)))) <|
    .st (.act none (.ex (some 10) (.call fn_spec_l12Only [.v 8, .v 9]))) K46_11) K46_10
@[simp] def W46_12 := @C.wpe _ _ K46_12.eq_1
def K46_13 : Pl := .st (.act none (.px (some 4) (.mv (.v 8)))) .done
@[simp] def W46_13 := @Pl.wpe _ _ K46_13.eq_1
def K46_14 : C := .seq (.pl <| .st (.ext 7 2) <|
    .st (.act none (.pget (some 7) none 2 0 (some 3))) <|
    .st (.act none (.ex (some 8) (.call fn_spec_LiveStates [.v 7]))) K46_13) K46_12
@[simp] def W46_14 := @C.wpe _ _ K46_14.eq_1
def B_spec_l12States : C := .seq (.pl <| .st (.ext 7 0) <|
    .st (.act none (.pnew 2 (.v 0) [])) <|
    .st (.act none (.px (some 3) (.mv (.c (.slice none 0 0))))) .done) K46_14
@[simp] def WB_spec_l12States := @C.wpe _ _ B_spec_l12States.eq_1
def R_spec_l12States : FIR := ⟨B_spec_l12States, 7, [(3, none)]⟩
theorem IR_spec_l12States : cfun Try.prog H_spec_l12States Try.f46 = some R_spec_l12States := by kernel_rfl
theorem EN_spec_l12States {args : List Value} {h : Heap} {k : Value → Heap → Prop} (hargs : args.length = 2) (hw : B_spec_l12States.wp Try.prog (retQ [(3, none)] k) (env0 args 7) h) : CallE Try.prog fn_spec_l12States args h k := enter Try.func46 rfl IR_spec_l12States hargs hw

def H_spec_l12Step : Hint := ⟨[(0, false), (1, false), (2, false), (3, true), (6, false), (7, false), (8, false)], [[0, 4]]⟩
def K75_1 : C := .seq (.pl <| .st (.ext 7 1) <|
    .st (.act none (.px (some 7) (.mv (.v 5)))) <|
    .st (.act none (.px (some 4) (.mv (.v 7)))) .done) (.ret)
@[simp] def W75_1 := @C.wpe _ _ K75_1.eq_1
def K75_2 : C := .pl <| .st (.ext 7 2) <|
    .st (.act none (.px (some 7) (.mv (.v 6)))) <|
    .st (.act none (.px (some 8) (.bin .add (.v 7) (.c (.int .i64 1))))) <|
    .st (.act none (.px (some 6) (.mv (.v 8)))) .done
@[simp] def W75_2 := @C.wpe _ _ K75_2.eq_1
def K75_3 : Pl := .st (.act none (.px (some 5) (.mv (.v 14)))) .done
@[simp] def W75_3 := @Pl.wpe _ _ K75_3.eq_1
def K75_4 : C := .pl <| .st (.ext 7 8) <|
    .st (.act none (.px (some 7) (.mv (.v 5)))) <|
    .st (.act none (.als 8 none 3)) <|
    .st (.act none (.pget (some 9) (some 8) 3 2 none)) <|
    .st (.act none (.px (some 10) (.mv (.v 6)))) <|
    .st (.act none (.px (some 11) (.ia 4 (.v 9) (.v 10)))) <|
    .st (.act none (.px (some 12) (.fa 3 (.v 11)))) <|
    .st (.act none (.ld (some 13) (.v 12) none)) <|
    .st (.act none (.ex (some 14) (.call fn_spec_l10Sorted [.v 7, .v 13]))) K75_3
@[simp] def W75_4 := @C.wpe _ _ K75_4.eq_1
def K75_5 : C := .cond 7 (.v 23) K75_4 (.skip)
@[simp] def W75_5 := @C.wpe _ _ K75_5.eq_1
def K75_6 : Pl := .st (.act none (.px (some 23) (.pick (.v 15) (.v 22) (.c (.bool false))))) .done
@[simp] def W75_6 := @Pl.wpe _ _ K75_6.eq_1
def K75_7 : Pl := .st (.act none (.px (some 15) (.mv (.v 14)))) <|
    .st (.act (some (.v 15, true)) (.als 16 none 3)) <|
    .st (.act (some (.v 15, true)) (.pget (some 17) (some 16) 3 2 none)) <|
    .st (.act (some (.v 15, true)) (.px (some 18) (.mv (.v 6)))) <|
    .st (.act (some (.v 15, true)) (.px (some 19) (.ia 4 (.v 17) (.v 18)))) <|
    .st (.act (some (.v 15, true)) (.ld (some 20) (.v 19) (some 4))) <|
    .st (.act (some (.v 15, true)) (.px (some 21) (.mv (.v 2)))) <|
    .st (.act (some (.v 15, true)) (.ex (some 22) (.call fn_spec_l7On [.v 20, .v 21]))) K75_6
@[simp] def W75_7 := @Pl.wpe _ _ K75_7.eq_1
def K75_8 : C := .seq (.block 1 (.seq (.pl <| .st (.ext 7 17) <|
    .st (.act none (.px (some 7) (.mv (.v 1)))) <|
    .st (.act none (.als 8 none 3)) <|
    .st (.act none (.pget (some 9) (some 8) 3 2 none)) <|
    .st (.act none (.px (some 10) (.mv (.v 6)))) <|
    .st (.act none (.px (some 11) (.ia 4 (.v 9) (.v 10)))) <|
    .st (.act none (.px (some 12) (.fa 0 (.v 11)))) <|
    .st (.act none (.ld (some 13) (.v 12) none)) <|
    .st (.act none (.ex (some 14) (.call fn_spec_l4In [.v 7, .v 13]))) K75_7) K75_5)) K75_2
@[simp] def W75_8 := @C.wpe _ _ K75_8.eq_1
def K75_9 : C := .cond 7 (.v 11) (.skip) (.exit 0)
@[simp] def W75_9 := @C.wpe _ _ K75_9.eq_1
def K75_10 : C := .seq (.seq (.pl <| .st (.ext 7 5) <|
    .st (.act none (.px (some 7) (.mv (.v 6)))) <|
    .st (.act none (.als 8 none 3)) <|
    .st (.act none (.pget (some 9) (some 8) 3 2 none)) <|
    .st (.act none (.px (some 10) (.lenV (.v 9)))) <|
    .st (.act none (.px (some 11) (.bin .lss (.v 7) (.v 10)))) .done) K75_9) K75_8
@[simp] def W75_10 := @C.wpe _ _ K75_10.eq_1
def K75_11 : C := .block 0 (.loop 7 [0, 4] K75_10)
@[simp] def W75_11 := @C.wpe _ _ K75_11.eq_1
def K75_12 : C := .seq (.seq (.pl <| .st (.ext 7 0) <|
    .st (.act none (.px (some 6) (.mv (.c (.int .i64 0))))) .done) K75_11) K75_1
@[simp] def W75_12 := @C.wpe _ _ K75_12.eq_1
def K75_13 : Pl := .st (.act none (.px (some 5) (.mv (.v 7)))) .done
@[simp] def W75_13 := @Pl.wpe _ _ K75_13.eq_1
def K75_14 : C := .seq (.pl <| .st (.ext 7 1) <|
    .st (.act none (.ex (some 7) (.bls 1 0 [.int .i64 0] []))) K75_13) K75_12
@[simp] def W75_14 := @C.wpe _ _ K75_14.eq_1
def B_spec_l12Step : C := .seq (.pl <| .st (.ext 7 0) <|
    .st (.act none (.pnew 3 (.v 0) [])) <|
    .st (.act none (.px (some 4) (.mv (.c (.slice none 0 0))))) .done) K75_14
@[simp] def WB_spec_l12Step := @C.wpe _ _ B_spec_l12Step.eq_1
def R_spec_l12Step : FIR := ⟨B_spec_l12Step, 7, [(4, none)]⟩
theorem IR_spec_l12Step : cfun Try.prog H_spec_l12Step Try.f75 = some R_spec_l12Step := by kernel_rfl
theorem EN_spec_l12Step {args : List Value} {h : Heap} {k : Value → Heap → Prop} (hargs : args.length = 3) (hw : B_spec_l12Step.wp Try.prog (retQ [(4, none)] k) (env0 args 7) h) : CallE Try.prog fn_spec_l12Step args h k := enter Try.func75 rfl IR_spec_l12Step hargs hw

def H_spec_l12Word : Hint := ⟨[(0, false), (2, false)], []⟩
def K45_1 : Pl := .st (.act none (.px (some 4) (.mv (.v 3)))) <|
    .st (.act (some (.v 4, true)) (.px (some 5) (.mv (.v 0)))) <|
    .st (.act (some (.v 4, true)) (.px (some 6) (.lenV (.v 5)))) <|
    .st (.act (some (.v 4, true)) (.px (some 7) (.bin .leq (.v 6) (.c (.int .i64 200))))) <|
    .st (.act none (.px (some 8) (.pick (.v 4) (.v 7) (.c (.bool false))))) <|
    .st (.act none (.px (some 1) (.mv (.v 8)))) .done
@[simp] def W45_1 := @Pl.wpe _ _ K45_1.eq_1
def K45_2 : C := .seq (.pl <| .st (.ext 2 7) <|
    .st (.act none (.px (some 2) (.mv (.v 0)))) <|
    .st (.act none (.ex (some 3) (.call fn_spec_l6Letters [.v 2]))) K45_1) (.ret)
@[simp] def W45_2 := @C.wpe _ _ K45_2.eq_1
def B_spec_l12Word : C := .seq (.pl <| .st (.ext 2 0) <|
    .st (.act none (.px (some 1) (.mv (.c (.bool false))))) .done) K45_2
@[simp] def WB_spec_l12Word := @C.wpe _ _ B_spec_l12Word.eq_1
def R_spec_l12Word : FIR := ⟨B_spec_l12Word, 2, [(1, none)]⟩
theorem IR_spec_l12Word : cfun Try.prog H_spec_l12Word Try.f45 = some R_spec_l12Word := by kernel_rfl
theorem EN_spec_l12Word {args : List Value} {h : Heap} {k : Value → Heap → Prop} (hargs : args.length = 1) (hw : B_spec_l12Word.wp Try.prog (retQ [(1, none)] k) (env0 args 2) h) : CallE Try.prog fn_spec_l12Word args h k := enter Try.func45 rfl IR_spec_l12Word hargs hw

def H_spec_l13Answers : Hint := ⟨[(0, false), (1, false), (2, false), (6, false), (7, false), (8, false), (9, false), (10, false)], [[3, 5, 6, 7], [3, 6, 7], [3]]⟩
def K109_1 : C := .seq (.pl <| .st (.ext 8 0) <|
    .st (.act none (.px (some 3) (.mv (.c (.bool true))))) .done) (.ret)
@[simp] def W109_1 := @C.wpe _ _ K109_1.eq_1
def K109_2 : C := .pl <| .st (.ext 8 2) <|
    .st (.act none (.px (some 8) (.mv (.v 4)))) <|
    .st (.act none (.px (some 9) (.bin .add (.v 8) (.c (.int .i64 1))))) <|
    .st (.act none (.px (some 4) (.mv (.v 9)))) .done
@[simp] def W109_2 := @C.wpe _ _ K109_2.eq_1
def K109_3 : C := .pl <| .st (.ext 8 2) <|
    .st (.act none (.px (some 8) (.mv (.v 5)))) <|
    .st (.act none (.px (some 9) (.bin .add (.v 8) (.c (.int .i64 1))))) <|
    .st (.act none (.px (some 5) (.mv (.v 9)))) .done
@[simp] def W109_3 := @C.wpe _ _ K109_3.eq_1
def K109_4 : C := .seq (.pl <| .st (.ext 8 0) <|
    .st (.act none (.px (some 3) (.mv (.c (.bool false))))) .done) (.ret)
@[simp] def W109_4 := @C.wpe _ _ K109_4.eq_1
def K109_5 : C := .cond 8 (.v 9) K109_4 (.skip)
@[simp] def W109_5 := @C.wpe _ _ K109_5.eq_1
def K109_6 : C := .seq (.pl <| .st (.ext 8 2) <|
    .st (.act none (.px (some 8) (.mv (.v 6)))) <|
    .st (.act none (.px (some 9) (.un .not (.v 8)))) .done) K109_5
@[simp] def W109_6 := @C.wpe _ _ K109_6.eq_1
def K109_7 : C := .pl <| .st (.ext 8 2) <|
    .st (.act none (.px (some 8) (.mv (.v 7)))) <|
    .st (.act none (.px (some 9) (.bin .add (.v 8) (.c (.int .i64 1))))) <|
    .st (.act none (.px (some 7) (.mv (.v 9)))) .done
@[simp] def W109_7 := @C.wpe _ _ K109_7.eq_1
def K109_8 : Pl := .st (.act none (.px (some 14) (.mv (.v 13)))) <|
    .st (.act (some (.v 14, true)) (.px (some 15) (.mv (.v 2)))) <|
    .st (.act (some (.v 14, true)) (.px (some 16) (.mv (.v 0)))) <|
    .st (.act (some (.v 14, true)) (.px (some 17) (.mv (.v 5)))) <|
    .st (.act (some (.v 14, true)) (.px (some 18) (.ia 4 (.v 16) (.v 17)))) <|
    .st (.act (some (.v 14, true)) (.px (some 19) (.fa 3 (.v 18)))) <|
    .st (.act (some (.v 14, true)) (.ld (some 20) (.v 19) none)) <|
    .st (.act (some (.v 14, true)) (.px (some 21) (.ia 1 (.v 15) (.v 20)))) <|
    .st (.act (some (.v 14, true)) (.ld (some 22) (.v 21) none)) <|
    .st (.act (some (.v 14, true)) (.px (some 23) (.mv (.v 1)))) <|
    .st (.act (some (.v 14, true)) (.px (some 24) (.mv (.v 7)))) <|
    .st (.act (some (.v 14, true)) (.px (some 25) (.ia 4 (.v 23) (.v 24)))) <|
    .st (.act (some (.v 14, true)) (.px (some 26) (.fa 3 (.v 25)))) <|
    .st (.act (some (.v 14, true)) (.ld (some 27) (.v 26) none)) <|
    .st (.act (some (.v 14, true)) (.px (some 28) (.ia 1 (.v 22) (.v 27)))) <|
    .st (.act (some (.v 14, true)) (.ld (some 29) (.v 28) none)) <|
    .st (.act none (.px (some 30) (.pick (.v 14) (.v 29) (.c (.bool false))))) <|
    .st (.act none (.px (some 6) (.mv (.v 30)))) .done
@[simp] def W109_8 := @Pl.wpe _ _ K109_8.eq_1
def K109_9 : C := .seq (.block 5 (.pl <| .st (.ext 8 23) <|
    .st (.act none (.px (some 8) (.mv (.v 1)))) <|
    .st (.act none (.px (some 9) (.mv (.v 7)))) <|
    .st (.act none (.px (some 10) (.ia 4 (.v 8) (.v 9)))) <|
    .st (.act none (.ld (some 11) (.v 10) (some 4))) <|
    .st (.act none (.px (some 12) (.mv (.v 4)))) <|
    .st (.act none (.ex (some 13) (.call fn_spec_l7On [.v 11, .v 12]))) K109_8)) K109_7
@[simp] def W109_9 := @C.wpe _ _ K109_9.eq_1
def K109_10 : C := .cond 8 (.v 15) (.skip) (.exit 4)
@[simp] def W109_10 := @C.wpe _ _ K109_10.eq_1
def K109_11 : C := .seq (.seq (.pl <| .st (.ext 8 8) <|
    .st (.act none (.px (some 8) (.mv (.v 7)))) <|
    .st (.act none (.px (some 9) (.mv (.v 1)))) <|
    .st (.act none (.px (some 10) (.lenV (.v 9)))) <|
    .st (.act none (.px (some 11) (.bin .lss (.v 8) (.v 10)))) <|
    .st (.act none (.px (some 12) (.mv (.v 11)))) <|
    .st (.act (some (.v 12, true)) (.px (some 13) (.mv (.v 6)))) <|
    .st (.act (some (.v 12, true)) (.px (some 14) (.un .not (.v 13)))) <|
    .st (.act none (.px (some 15) (.pick (.v 12) (.v 14) (.c (.bool false))))) .done) K109_10) K109_9
@[simp] def W109_11 := @C.wpe _ _ K109_11.eq_1
def K109_12 : C := .block 4 (.loop 8 [3] K109_11)
@[simp] def W109_12 := @C.wpe _ _ K109_12.eq_1
def K109_13 : C := .seq (.seq (.pl <| .st (.ext 8 0) <|
    .st (.act none (.px (some 7) (.mv (.c (.int .i64 0))))) .done) K109_12) K109_6
@[simp] def W109_13 := @C.wpe _ _ K109_13.eq_1
def K109_14 : C := .seq (.pl <| .st (.ext 8 0) <|
    .st (.act none (.px (some 6) (.mv (.c (.bool false))))) .done) K109_13
@[simp] def W109_14 := @C.wpe _ _ K109_14.eq_1
def K109_15 : C := .cond 8 (.v 14) (.exit 3) (.skip)
@[simp] def W109_15 := @C.wpe _ _ K109_15.eq_1
def K109_16 : Pl := .st (.act none (.px (some 14) (.un .not (.v 13)))) .done
@[simp] def W109_16 := @Pl.wpe _ _ K109_16.eq_1
def K109_17 : C := .seq (.block 3 (.seq (.seq (.pl <| .st (.ext 8 7) <|
    .st (.act none (.px (some 8) (.mv (.v 0)))) <|
    .st (.act none (.px (some 9) (.mv (.v 5)))) <|
    .st (.act none (.px (some 10) (.ia 4 (.v 8) (.v 9)))) <|
    .st (.act none (.ld (some 11) (.v 10) (some 4))) <|
    .st (.act none (.px (some 12) (.mv (.v 4)))) <|
    .st (.act none (.ex (some 13) (.call fn_spec_l7On [.v 11, .v 12]))) K109_16) K109_15) K109_14)) K109_3
@[simp] def W109_17 := @C.wpe _ _ K109_17.eq_1
def K109_18 : C := .cond 8 (.v 11) (.skip) (.exit 2)
@[simp] def W109_18 := @C.wpe _ _ K109_18.eq_1
def K109_19 : C := .seq (.seq (.pl <| .st (.ext 8 4) <|
    .st (.act none (.px (some 8) (.mv (.v 5)))) <|
    .st (.act none (.px (some 9) (.mv (.v 0)))) <|
    .st (.act none (.px (some 10) (.lenV (.v 9)))) <|
    .st (.act none (.px (some 11) (.bin .lss (.v 8) (.v 10)))) .done) K109_18) K109_17
@[simp] def W109_19 := @C.wpe _ _ K109_19.eq_1
def K109_20 : C := .block 2 (.loop 8 [3, 6, 7] K109_19)
@[simp] def W109_20 := @C.wpe _ _ K109_20.eq_1
def K109_21 : C := .seq (.block 1 (.seq (.pl <| .st (.ext 8 0) <|
    .st (.act none (.px (some 5) (.mv (.c (.int .i64 0))))) .done) K109_20)) K109_2
@[simp] def W109_21 := @C.wpe _ _ K109_21.eq_1
def K109_22 : C := .cond 8 (.v 9) (.skip) (.exit 0)
@[simp] def W109_22 := @C.wpe _ _ K109_22.eq_1
def K109_23 : C := .seq (.seq (.pl <| .st (.ext 8 2) <|
    .st (.act none (.px (some 8) (.mv (.v 4)))) <|
    .st (.act none (.px (some 9) (.bin .leq (.v 8) (.c (.int .i64 7))))) .done) K109_22) K109_21
@[simp] def W109_23 := @C.wpe _ _ K109_23.eq_1
def K109_24 : C := .block 0 (.loop 8 [3, 5, 6, 7] K109_23)
@[simp] def W109_24 := @C.wpe _ _ K109_24.eq_1
def K109_25 : C := .seq (.seq (.pl <| .st (.ext 8 0) <|
    .st (.act none (.px (some 4) (.mv (.c (.int .i64 0))))) .done) K109_24) K109_1
@[simp] def W109_25 := @C.wpe _ _ K109_25.eq_1
def B_spec_l13Answers : C := .seq (.pl <| .st (.ext 8 0) <|
    .st (.act none (.px (some 3) (.mv (.c (.bool false))))) .done) K109_25
@[simp] def WB_spec_l13Answers := @C.wpe _ _ B_spec_l13Answers.eq_1
def R_spec_l13Answers : FIR := ⟨B_spec_l13Answers, 8, [(3, none)]⟩
theorem IR_spec_l13Answers : cfun Try.prog H_spec_l13Answers Try.f109 = some R_spec_l13Answers := by kernel_rfl
theorem EN_spec_l13Answers {args : List Value} {h : Heap} {k : Value → Heap → Prop} (hargs : args.length = 3) (hw : B_spec_l13Answers.wp Try.prog (retQ [(3, none)] k) (env0 args 8) h) : CallE Try.prog fn_spec_l13Answers args h k := enter Try.func109 rfl IR_spec_l13Answers hargs hw

def H_spec_l13Keep : Hint := ⟨[(0, false), (1, false), (2, true), (4, true), (5, true), (6, false), (7, false), (8, false), (9, false), (10, true)], [[0, 7, 8, 9], [0, 6, 8, 9], [0, 6, 7, 9]]⟩
def K63_1 : C := .seq (.pl <| .st (.ext 10 1) <|
    .st (.act none (.pget (some 10) none 4 0 (some 3))) <|
    .st (.act none (.pset none 3 0 3 (.v 10))) .done) (.ret)
@[simp] def W63_1 := @C.wpe _ _ K63_1.eq_1
def K63_2 : Pl := .st (.act none (.als 11 none 4)) <|
    .st (.act none (.pset (some 11) 4 1 1 (.v 10))) .done
@[simp] def W63_2 := @Pl.wpe _ _ K63_2.eq_1
def K63_3 : C := .pl <| .st (.ext 10 2) <|
    .st (.act none (.ex (some 10) (.bls 1 1 [.bool false] [(0, 1, .c (.bool false))]))) K63_2
@[simp] def W63_3 := @C.wpe _ _ K63_3.eq_1
def K63_4 : C := .cond 10 (.v 13) K63_3 (.skip)
@[simp] def W63_4 := @C.wpe _ _ K63_4.eq_1
def K63_5 : C := .seq (.seq (.pl <| .st (.ext 10 4) <|
    .st (.act none (.als 10 none 4)) <|
    .st (.act none (.pget (some 11) (some 10) 4 1 none)) <|
    .st (.act none (.px (some 12) (.lenV (.v 11)))) <|
    .st (.act none (.px (some 13) (.bin .eql (.v 12) (.c (.int .i64 0))))) .done) K63_4) K63_1
@[simp] def W63_5 := @C.wpe _ _ K63_5.eq_1
def K63_6 : C := .pl <| .st (.ext 10 2) <|
    .st (.act none (.px (some 10) (.mv (.v 8)))) <|
    .st (.act none (.px (some 11) (.bin .add (.v 10) (.c (.int .i64 1))))) <|
    .st (.act none (.px (some 8) (.mv (.v 11)))) .done
@[simp] def W63_6 := @C.wpe _ _ K63_6.eq_1
def K63_7 : Pl := .st (.act none (.als 29 none 4)) <|
    .st (.act none (.pset (some 29) 4 2 1 (.v 28))) .done
@[simp] def W63_7 := @Pl.wpe _ _ K63_7.eq_1
def K63_8 : C := .pl <| .st (.ext 10 20) <|
    .st (.act none (.als 10 none 4)) <|
    .st (.act none (.pget (some 11) (some 10) 4 2 none)) <|
    .st (.act none (.px (some 12) (.mv (.v 5)))) <|
    .st (.act none (.als 13 none 9)) <|
    .st (.act none (.pget (some 14) (some 13) 9 0 none)) <|
    .st (.act none (.px (some 15) (.ia 1 (.v 12) (.v 14)))) <|
    .st (.act none (.ld (some 16) (.v 15) none)) <|
    .st (.act none (.als 17 none 9)) <|
    .st (.act none (.pget (some 18) (some 17) 9 1 none)) <|
    .st (.act none (.als 19 none 9)) <|
    .st (.act none (.pget (some 20) (some 19) 9 2 none)) <|
    .st (.act none (.px (some 21) (.mv (.v 5)))) <|
    .st (.act none (.als 22 none 9)) <|
    .st (.act none (.pget (some 23) (some 22) 9 3 none)) <|
    .st (.act none (.px (some 24) (.ia 1 (.v 21) (.v 23)))) <|
    .st (.act none (.ld (some 25) (.v 24) none)) <|
    .st (.act none (.px (some 26) (.build [.int .i64 0, .int .i64 0, .int .i64 0, .int .i64 0] [(0, 1, .v 16), (1, 1, .v 18), (2, 1, .v 20), (3, 1, .v 25)]))) <|
    .st (.act none (.psl 27 [.int .i64 0, .int .i64 0, .int .i64 0, .int .i64 0] [(0, 4, .v 26)])) <|
    .st (.act none (.ex (some 28) (.app 32 4 [.int .i64 0, .int .i64 0, .int .i64 0, .int .i64 0] (.o (.v 11)) (.p 1 27)))) K63_7
@[simp] def W63_8 := @C.wpe _ _ K63_8.eq_1
def K63_9 : C := .cond 10 (.v 21) K63_8 (.skip)
@[simp] def W63_9 := @C.wpe _ _ K63_9.eq_1
def K63_10 : C := .seq (.pl <| .st (.ext 10 12) <|
    .st (.act none (.px (some 10) (.mv (.v 1)))) <|
    .st (.act none (.als 11 none 9)) <|
    .st (.act none (.pget (some 12) (some 11) 9 0 none)) <|
    .st (.act none (.px (some 13) (.ia 1 (.v 10) (.v 12)))) <|
    .st (.act none (.ld (some 14) (.v 13) none)) <|
    .st (.act none (.px (some 15) (.mv (.v 14)))) <|
    .st (.act (some (.v 15, true)) (.px (some 16) (.mv (.v 1)))) <|
    .st (.act (some (.v 15, true)) (.als 17 none 9)) <|
    .st (.act (some (.v 15, true)) (.pget (some 18) (some 17) 9 3 none)) <|
    .st (.act (some (.v 15, true)) (.px (some 19) (.ia 1 (.v 16) (.v 18)))) <|
    .st (.act (some (.v 15, true)) (.ld (some 20) (.v 19) none)) <|
    .st (.act none (.px (some 21) (.pick (.v 15) (.v 20) (.c (.bool false))))) .done) K63_9
@[simp] def W63_10 := @C.wpe _ _ K63_10.eq_1
def K63_11 : C := .seq (.block 5 (.seq (.pl <| .st (.ext 10 5) <|
    .st (.act none (.als 10 none 2)) <|
    .st (.act none (.pget (some 11) (some 10) 2 2 none)) <|
    .st (.act none (.px (some 12) (.mv (.v 8)))) <|
    .st (.act none (.px (some 13) (.ia 4 (.v 11) (.v 12)))) <|
    .st (.act none (.ld (some 14) (.v 13) (some 4))) <|
    .st (.act none (.pnew 9 (.c (.agg #[.int .i64 0, .int .i64 0, .int .i64 0, .int .i64 0])) [])) <|
    .st (.act none (.pset none 9 0 4 (.v 14))) .done) K63_10)) K63_6
@[simp] def W63_11 := @C.wpe _ _ K63_11.eq_1
def K63_12 : C := .cond 10 (.v 14) (.skip) (.exit 4)
@[simp] def W63_12 := @C.wpe _ _ K63_12.eq_1
def K63_13 : C := .seq (.seq (.pl <| .st (.ext 10 5) <|
    .st (.act none (.px (some 10) (.mv (.v 8)))) <|
    .st (.act none (.als 11 none 2)) <|
    .st (.act none (.pget (some 12) (some 11) 2 2 none)) <|
    .st (.act none (.px (some 13) (.lenV (.v 12)))) <|
    .st (.act none (.px (some 14) (.bin .lss (.v 10) (.v 13)))) .done) K63_12) K63_11
@[simp] def W63_13 := @C.wpe _ _ K63_13.eq_1
def K63_14 : C := .block 4 (.loop 10 [0, 6, 7, 9] K63_13)
@[simp] def W63_14 := @C.wpe _ _ K63_14.eq_1
def K63_15 : C := .seq (.seq (.pl <| .st (.ext 10 0) <|
    .st (.act none (.px (some 8) (.mv (.c (.int .i64 0))))) .done) K63_14) K63_5
@[simp] def W63_15 := @C.wpe _ _ K63_15.eq_1
def K63_16 : C := .pl <| .st (.ext 10 2) <|
    .st (.act none (.px (some 10) (.mv (.v 7)))) <|
    .st (.act none (.px (some 11) (.bin .add (.v 10) (.c (.int .i64 1))))) <|
    .st (.act none (.px (some 7) (.mv (.v 11)))) .done
@[simp] def W63_16 := @C.wpe _ _ K63_16.eq_1
def K63_17 : Pl := .st (.act none (.als 22 none 4)) <|
    .st (.act none (.pset (some 22) 4 0 1 (.v 21))) .done
@[simp] def W63_17 := @Pl.wpe _ _ K63_17.eq_1
def K63_18 : C := .pl <| .st (.ext 10 13) <|
    .st (.act none (.als 10 none 4)) <|
    .st (.act none (.pget (some 11) (some 10) 4 0 none)) <|
    .st (.act none (.px (some 12) (.mv (.v 5)))) <|
    .st (.act none (.als 13 none 2)) <|
    .st (.act none (.pget (some 14) (some 13) 2 0 none)) <|
    .st (.act none (.px (some 15) (.mv (.v 7)))) <|
    .st (.act none (.px (some 16) (.ia 1 (.v 14) (.v 15)))) <|
    .st (.act none (.ld (some 17) (.v 16) none)) <|
    .st (.act none (.px (some 18) (.ia 1 (.v 12) (.v 17)))) <|
    .st (.act none (.ld (some 19) (.v 18) none)) <|
    .st (.act none (.psl 20 [.int .i64 0] [(0, 1, .v 19)])) <|
    .st (.act none (.ex (some 21) (.app 8 1 [.int .i64 0] (.o (.v 11)) (.p 1 20)))) K63_17
@[simp] def W63_18 := @C.wpe _ _ K63_18.eq_1
def K63_19 : C := .cond 10 (.v 17) K63_18 (.skip)
@[simp] def W63_19 := @C.wpe _ _ K63_19.eq_1
def K63_20 : C := .seq (.block 3 (.seq (.pl <| .st (.ext 10 8) <|
    .st (.act none (.px (some 10) (.mv (.v 1)))) <|
    .st (.act none (.als 11 none 2)) <|
    .st (.act none (.pget (some 12) (some 11) 2 0 none)) <|
    .st (.act none (.px (some 13) (.mv (.v 7)))) <|
    .st (.act none (.px (some 14) (.ia 1 (.v 12) (.v 13)))) <|
    .st (.act none (.ld (some 15) (.v 14) none)) <|
    .st (.act none (.px (some 16) (.ia 1 (.v 10) (.v 15)))) <|
    .st (.act none (.ld (some 17) (.v 16) none)) .done) K63_19)) K63_16
@[simp] def W63_20 := @C.wpe _ _ K63_20.eq_1
def K63_21 : C := .cond 10 (.v 14) (.skip) (.exit 2)
@[simp] def W63_21 := @C.wpe _ _ K63_21.eq_1
def K63_22 : C := .seq (.seq (.pl <| .st (.ext 10 5) <|
    .st (.act none (.px (some 10) (.mv (.v 7)))) <|
    .st (.act none (.als 11 none 2)) <|
    .st (.act none (.pget (some 12) (some 11) 2 0 none)) <|
    .st (.act none (.px (some 13) (.lenV (.v 12)))) <|
    .st (.act none (.px (some 14) (.bin .lss (.v 10) (.v 13)))) .done) K63_21) K63_20
@[simp] def W63_22 := @C.wpe _ _ K63_22.eq_1
def K63_23 : C := .block 2 (.loop 10 [0, 6, 8, 9] K63_22)
@[simp] def W63_23 := @C.wpe _ _ K63_23.eq_1
def K63_24 : C := .seq (.seq (.pl <| .st (.ext 10 0) <|
    .st (.act none (.px (some 7) (.mv (.c (.int .i64 0))))) .done) K63_23) K63_15
@[simp] def W63_24 := @C.wpe _ _ K63_24.eq_1
def K63_25 : C := .pl <| .st (.ext 10 2) <|
    .st (.act none (.px (some 10) (.mv (.v 6)))) <|
    .st (.act none (.px (some 11) (.bin .add (.v 10) (.c (.int .i64 1))))) <|
    .st (.act none (.px (some 6) (.mv (.v 11)))) .done
@[simp] def W63_25 := @C.wpe _ _ K63_25.eq_1
def K63_26 : Pl := .st (.act none (.als 19 none 4)) <|
    .st (.act none (.pset (some 19) 4 1 1 (.v 18))) .done
@[simp] def W63_26 := @Pl.wpe _ _ K63_26.eq_1
def K63_27 : C := .pl <| .st (.ext 10 10) <|
    .st (.act none (.als 10 none 4)) <|
    .st (.act none (.pget (some 11) (some 10) 4 1 none)) <|
    .st (.act none (.als 12 none 2)) <|
    .st (.act none (.pget (some 13) (some 12) 2 1 none)) <|
    .st (.act none (.px (some 14) (.mv (.v 6)))) <|
    .st (.act none (.px (some 15) (.ia 1 (.v 13) (.v 14)))) <|
    .st (.act none (.ld (some 16) (.v 15) none)) <|
    .st (.act none (.psl 17 [.bool false] [(0, 1, .v 16)])) <|
    .st (.act none (.ex (some 18) (.app 1 1 [.bool false] (.o (.v 11)) (.p 1 17)))) K63_26
@[simp] def W63_27 := @C.wpe _ _ K63_27.eq_1
def K63_28 : C := .cond 10 (.v 13) K63_27 (.skip)
@[simp] def W63_28 := @C.wpe _ _ K63_28.eq_1
def K63_29 : C := .seq (.pl <| .st (.ext 10 4) <|
    .st (.act none (.px (some 10) (.mv (.v 1)))) <|
    .st (.act none (.px (some 11) (.mv (.v 6)))) <|
    .st (.act none (.px (some 12) (.ia 1 (.v 10) (.v 11)))) <|
    .st (.act none (.ld (some 13) (.v 12) none)) .done) K63_28
@[simp] def W63_29 := @C.wpe _ _ K63_29.eq_1
def K63_30 : Pl := .st (.act none (.px (some 5) (.mv (.v 15)))) .done
@[simp] def W63_30 := @Pl.wpe _ _ K63_30.eq_1
def K63_31 : C := .seq (.block 1 (.seq (.pl <| .st (.ext 10 6) <|
    .st (.act none (.px (some 10) (.mv (.v 5)))) <|
    .st (.act none (.als 11 none 4)) <|
    .st (.act none (.pget (some 12) (some 11) 4 1 none)) <|
    .st (.act none (.px (some 13) (.lenV (.v 12)))) <|
    .st (.act none (.psl 14 [.int .i64 0] [(0, 1, .v 13)])) <|
    .st (.act none (.ex (some 15) (.app 8 1 [.int .i64 0] (.o (.v 10)) (.p 1 14)))) K63_30) K63_29)) K63_25
@[simp] def W63_31 := @C.wpe _ _ K63_31.eq_1
def K63_32 : C := .cond 10 (.v 13) (.skip) (.exit 0)
@[simp] def W63_32 := @C.wpe _ _ K63_32.eq_1
def K63_33 : C := .seq (.seq (.pl <| .st (.ext 10 4) <|
    .st (.act none (.px (some 10) (.mv (.v 6)))) <|
    .st (.act none (.px (some 11) (.mv (.v 1)))) <|
    .st (.act none (.px (some 12) (.lenV (.v 11)))) <|
    .st (.act none (.px (some 13) (.bin .lss (.v 10) (.v 12)))) .done) K63_32) K63_31
@[simp] def W63_33 := @C.wpe _ _ K63_33.eq_1
def K63_34 : C := .block 0 (.loop 10 [0, 7, 8, 9] K63_33)
@[simp] def W63_34 := @C.wpe _ _ K63_34.eq_1
def K63_35 : C := .seq (.seq (.pl <| .st (.ext 10 0) <|
    .st (.act none (.px (some 6) (.mv (.c (.int .i64 0))))) .done) K63_34) K63_24
@[simp] def W63_35 := @C.wpe _ _ K63_35.eq_1
def K63_36 : Pl := .st (.act none (.px (some 5) (.mv (.v 10)))) .done
@[simp] def W63_36 := @Pl.wpe _ _ K63_36.eq_1
def K63_37 : C := .seq (.pl <| .st (.ext 10 1) <|
    .st (.act none (.ex (some 10) (.bls 1 0 [.int .i64 0] []))) K63_36) K63_35
@[simp] def W63_37 := @C.wpe _ _ K63_37.eq_1
def K63_38 : C := .seq (.pl <| .st (.ext 10 1) <|
    .st (.act none (.px (some 10) (.build [.slice none 0 0, .slice none 0 0, .slice none 0 0] []))) <|
    .st (.act none (.pnew 4 (.c (.agg #[.slice none 0 0, .slice none 0 0, .slice none 0 0])) [])) <|
    .st (.act none (.pset none 4 0 3 (.v 10))) .done) K63_37
@[simp] def W63_38 := @C.wpe _ _ K63_38.eq_1
def B_spec_l13Keep : C := .seq (.pl <| .st (.ext 10 0) <|
    .st (.act none (.pnew 2 (.v 0) [])) <|
    .st (.act none (.pnew 3 (.c (.agg #[.slice none 0 0, .slice none 0 0, .slice none 0 0])) [])) .done) K63_38
@[simp] def WB_spec_l13Keep := @C.wpe _ _ B_spec_l13Keep.eq_1
def R_spec_l13Keep : FIR := ⟨B_spec_l13Keep, 10, [(3, some (some 3))]⟩
theorem IR_spec_l13Keep : cfun Try.prog H_spec_l13Keep Try.f63 = some R_spec_l13Keep := by kernel_rfl
theorem EN_spec_l13Keep {args : List Value} {h : Heap} {k : Value → Heap → Prop} (hargs : args.length = 2) (hw : B_spec_l13Keep.wp Try.prog (retQ [(3, some (some 3))] k) (env0 args 10) h) : CallE Try.prog fn_spec_l13Keep args h k := enter Try.func63 rfl IR_spec_l13Keep hargs hw

def H_spec_l13Leaving : Hint := ⟨[(0, false), (1, true), (2, false), (3, false), (4, false)], [[0, 2]]⟩
def K108_1 : C := .seq (.pl <| .st (.ext 5 1) <|
    .st (.act none (.px (some 5) (.mv (.v 3)))) <|
    .st (.act none (.px (some 2) (.mv (.v 5)))) .done) (.ret)
@[simp] def W108_1 := @C.wpe _ _ K108_1.eq_1
def K108_2 : C := .pl <| .st (.ext 5 2) <|
    .st (.act none (.px (some 5) (.mv (.v 4)))) <|
    .st (.act none (.px (some 6) (.bin .add (.v 5) (.c (.int .i64 1))))) <|
    .st (.act none (.px (some 4) (.mv (.v 6)))) .done
@[simp] def W108_2 := @C.wpe _ _ K108_2.eq_1
def K108_3 : Pl := .st (.re 11 (.v 10) none none) <|
    .st (.act none (.px (some 28) (.ia 1 (.v 5) (.v 11)))) <|
    .st (.act none (.ex none (.store 1 (.v 28) (.v 27)))) .done
@[simp] def W108_3 := @Pl.wpe _ _ K108_3.eq_1
def K108_4 : C := .seq (.block 1 (.pl <| .st (.ext 5 24) <|
    .st (.act none (.px (some 5) (.mv (.v 3)))) <|
    .st (.act none (.als 6 none 1)) <|
    .st (.act none (.pget (some 7) (some 6) 1 2 none)) <|
    .st (.act none (.px (some 8) (.mv (.v 4)))) <|
    .st (.act none (.px (some 9) (.ia 4 (.v 7) (.v 8)))) <|
    .st (.act none (.px (some 10) (.fa 0 (.v 9)))) <|
    .st (.act none (.ld (some 11) (.v 10) none)) <|
    .st (.act none (.px (some 12) (.mv (.v 3)))) <|
    .st (.act none (.als 13 none 1)) <|
    .st (.act none (.pget (some 14) (some 13) 1 2 none)) <|
    .st (.act none (.px (some 15) (.mv (.v 4)))) <|
    .st (.act none (.px (some 16) (.ia 4 (.v 14) (.v 15)))) <|
    .st (.act none (.px (some 17) (.fa 0 (.v 16)))) <|
    .st (.act none (.ld (some 18) (.v 17) none)) <|
    .st (.act none (.px (some 19) (.ia 1 (.v 12) (.v 18)))) <|
    .st (.act none (.ld (some 20) (.v 19) none)) <|
    .st (.act none (.als 21 none 1)) <|
    .st (.act none (.pget (some 22) (some 21) 1 2 none)) <|
    .st (.act none (.px (some 23) (.mv (.v 4)))) <|
    .st (.act none (.px (some 24) (.ia 4 (.v 22) (.v 23)))) <|
    .st (.act none (.ld (some 25) (.v 24) (some 4))) <|
    .st (.act none (.psl 26 [.int .i64 0, .int .i64 0, .int .i64 0, .int .i64 0] [(0, 4, .v 25)])) <|
    .st (.act none (.ex (some 27) (.app 32 4 [.int .i64 0, .int .i64 0, .int .i64 0, .int .i64 0] (.o (.v 20)) (.p 1 26)))) K108_3)) K108_2
@[simp] def W108_4 := @C.wpe _ _ K108_4.eq_1
def K108_5 : C := .cond 5 (.v 9) (.skip) (.exit 0)
@[simp] def W108_5 := @C.wpe _ _ K108_5.eq_1
def K108_6 : C := .seq (.seq (.pl <| .st (.ext 5 5) <|
    .st (.act none (.px (some 5) (.mv (.v 4)))) <|
    .st (.act none (.als 6 none 1)) <|
    .st (.act none (.pget (some 7) (some 6) 1 2 none)) <|
    .st (.act none (.px (some 8) (.lenV (.v 7)))) <|
    .st (.act none (.px (some 9) (.bin .lss (.v 5) (.v 8)))) .done) K108_5) K108_4
@[simp] def W108_6 := @C.wpe _ _ K108_6.eq_1
def K108_7 : C := .block 0 (.loop 5 [0, 2] K108_6)
@[simp] def W108_7 := @C.wpe _ _ K108_7.eq_1
def K108_8 : C := .seq (.seq (.pl <| .st (.ext 5 0) <|
    .st (.act none (.px (some 4) (.mv (.c (.int .i64 0))))) .done) K108_7) K108_1
@[simp] def W108_8 := @C.wpe _ _ K108_8.eq_1
def K108_9 : Pl := .st (.act none (.px (some 3) (.mv (.v 8)))) .done
@[simp] def W108_9 := @Pl.wpe _ _ K108_9.eq_1
def K108_10 : C := .seq (.pl <| .st (.ext 5 4) <|
    .st (.act none (.als 5 none 1)) <|
    .st (.act none (.pget (some 6) (some 5) 1 1 none)) <|
    .st (.act none (.px (some 7) (.lenV (.v 6)))) <|
    .st (.act none (.ex (some 8) (.mks 24 1 [.slice none 0 0] (.v 7) (.v 7)))) K108_9) K108_8
@[simp] def W108_10 := @C.wpe _ _ K108_10.eq_1
def B_spec_l13Leaving : C := .seq (.pl <| .st (.ext 5 0) <|
    .st (.act none (.pnew 1 (.v 0) [])) <|
    .st (.act none (.px (some 2) (.mv (.c (.slice none 0 0))))) .done) K108_10
@[simp] def WB_spec_l13Leaving := @C.wpe _ _ B_spec_l13Leaving.eq_1
def R_spec_l13Leaving : FIR := ⟨B_spec_l13Leaving, 5, [(2, none)]⟩
theorem IR_spec_l13Leaving : cfun Try.prog H_spec_l13Leaving Try.f108 = some R_spec_l13Leaving := by kernel_rfl
theorem EN_spec_l13Leaving {args : List Value} {h : Heap} {k : Value → Heap → Prop} (hargs : args.length = 1) (hw : B_spec_l13Leaving.wp Try.prog (retQ [(2, none)] k) (env0 args 5) h) : CallE Try.prog fn_spec_l13Leaving args h k := enter Try.func108 rfl IR_spec_l13Leaving hargs hw

def H_spec_l13Merge : Hint := ⟨[(0, false), (1, true), (2, true), (3, false), (4, false), (5, true), (6, false), (7, false), (8, false), (9, false), (10, true), (11, false), (12, false)], [[0, 7, 8, 9, 10, 11, 12], [0, 8, 9, 10, 11, 12], [0, 3, 6, 7, 9, 10, 11, 12], [0, 3, 6, 7, 8, 10, 11, 12], [0, 3, 6, 7, 8]]⟩
def K49_1 : C := .seq (.pl <| .st (.ext 13 1) <|
    .st (.act none (.pget (some 13) none 5 0 (some 3))) <|
    .st (.act none (.pset none 2 0 3 (.v 13))) .done) (.ret)
@[simp] def W49_1 := @C.wpe _ _ K49_1.eq_1
def K49_2 : C := .pl <| .st (.ext 13 2) <|
    .st (.act none (.px (some 13) (.mv (.v 9)))) <|
    .st (.act none (.px (some 14) (.bin .add (.v 13) (.c (.int .i64 1))))) <|
    .st (.act none (.px (some 9) (.mv (.v 14)))) .done
@[simp] def W49_2 := @C.wpe _ _ K49_2.eq_1
def K49_3 : Pl := .st (.act none (.als 18 none 5)) <|
    .st (.act none (.pset (some 18) 5 2 1 (.v 17))) .done
@[simp] def W49_3 := @Pl.wpe _ _ K49_3.eq_1
def K49_4 : C := .pl <| .st (.ext 13 6) <|
    .st (.act none (.als 13 none 5)) <|
    .st (.act none (.pget (some 14) (some 13) 5 2 none)) <|
    .st (.act none (.pget (some 15) none 10 0 (some 4))) <|
    .st (.act none (.psl 16 [.int .i64 0, .int .i64 0, .int .i64 0, .int .i64 0] [(0, 4, .v 15)])) <|
    .st (.act none (.ex (some 17) (.app 32 4 [.int .i64 0, .int .i64 0, .int .i64 0, .int .i64 0] (.o (.v 14)) (.p 1 16)))) K49_3
@[simp] def W49_4 := @C.wpe _ _ K49_4.eq_1
def K49_5 : C := .cond 13 (.v 14) K49_4 (.skip)
@[simp] def W49_5 := @C.wpe _ _ K49_5.eq_1
def K49_6 : C := .seq (.pl <| .st (.ext 13 2) <|
    .st (.act none (.px (some 13) (.mv (.v 11)))) <|
    .st (.act none (.px (some 14) (.un .not (.v 13)))) .done) K49_5
@[simp] def W49_6 := @C.wpe _ _ K49_6.eq_1
def K49_7 : C := .pl <| .st (.ext 13 2) <|
    .st (.act none (.px (some 13) (.mv (.v 12)))) <|
    .st (.act none (.px (some 14) (.bin .add (.v 13) (.c (.int .i64 1))))) <|
    .st (.act none (.px (some 12) (.mv (.v 14)))) .done
@[simp] def W49_7 := @C.wpe _ _ K49_7.eq_1
def K49_8 : C := .seq (.block 9 (.pl <| .st (.ext 13 10) <|
    .st (.act none (.px (some 13) (.mv (.v 11)))) <|
    .st (.act none (.px (some 14) (.mv (.v 13)))) <|
    .st (.act (some (.v 14, false)) (.als 15 none 5)) <|
    .st (.act (some (.v 14, false)) (.pget (some 16) (some 15) 5 2 none)) <|
    .st (.act (some (.v 14, false)) (.px (some 17) (.mv (.v 12)))) <|
    .st (.act (some (.v 14, false)) (.px (some 18) (.ia 4 (.v 16) (.v 17)))) <|
    .st (.act (some (.v 14, false)) (.ld (some 19) (.v 18) (some 4))) <|
    .st (.act (some (.v 14, false)) (.pget (some 20) none 10 0 (some 4))) <|
    .st (.act (some (.v 14, false)) (.px (some 21) (.eqf false [.i, .i, .i, .i] (.v 19) (.v 20)))) <|
    .st (.act none (.px (some 22) (.pick (.v 14) (.c (.bool true)) (.v 21)))) <|
    .st (.act none (.px (some 11) (.mv (.v 22)))) .done)) K49_7
@[simp] def W49_8 := @C.wpe _ _ K49_8.eq_1
def K49_9 : C := .cond 13 (.v 17) (.skip) (.exit 8)
@[simp] def W49_9 := @C.wpe _ _ K49_9.eq_1
def K49_10 : C := .seq (.seq (.pl <| .st (.ext 13 5) <|
    .st (.act none (.px (some 13) (.mv (.v 12)))) <|
    .st (.act none (.als 14 none 5)) <|
    .st (.act none (.pget (some 15) (some 14) 5 2 none)) <|
    .st (.act none (.px (some 16) (.lenV (.v 15)))) <|
    .st (.act none (.px (some 17) (.bin .lss (.v 13) (.v 16)))) .done) K49_9) K49_8
@[simp] def W49_10 := @C.wpe _ _ K49_10.eq_1
def K49_11 : C := .block 8 (.loop 13 [0, 3, 6, 7, 8] K49_10)
@[simp] def W49_11 := @C.wpe _ _ K49_11.eq_1
def K49_12 : C := .seq (.seq (.pl <| .st (.ext 13 0) <|
    .st (.act none (.px (some 12) (.mv (.c (.int .i64 0))))) .done) K49_11) K49_6
@[simp] def W49_12 := @C.wpe _ _ K49_12.eq_1
def K49_13 : C := .seq (.pl <| .st (.ext 13 0) <|
    .st (.act none (.px (some 11) (.mv (.c (.bool false))))) .done) K49_12
@[simp] def W49_13 := @C.wpe _ _ K49_13.eq_1
def K49_14 : C := .seq (.block 7 (.seq (.pl <| .st (.ext 13 31) <|
    .st (.act none (.px (some 13) (.mv (.v 4)))) <|
    .st (.act none (.als 14 none 1)) <|
    .st (.act none (.pget (some 15) (some 14) 1 2 none)) <|
    .st (.act none (.px (some 16) (.mv (.v 9)))) <|
    .st (.act none (.px (some 17) (.ia 4 (.v 15) (.v 16)))) <|
    .st (.act none (.px (some 18) (.fa 0 (.v 17)))) <|
    .st (.act none (.ld (some 19) (.v 18) none)) <|
    .st (.act none (.px (some 20) (.ia 1 (.v 13) (.v 19)))) <|
    .st (.act none (.ld (some 21) (.v 20) none)) <|
    .st (.act none (.als 22 none 1)) <|
    .st (.act none (.pget (some 23) (some 22) 1 2 none)) <|
    .st (.act none (.px (some 24) (.mv (.v 9)))) <|
    .st (.act none (.px (some 25) (.ia 4 (.v 23) (.v 24)))) <|
    .st (.act none (.px (some 26) (.fa 1 (.v 25)))) <|
    .st (.act none (.ld (some 27) (.v 26) none)) <|
    .st (.act none (.als 28 none 1)) <|
    .st (.act none (.pget (some 29) (some 28) 1 2 none)) <|
    .st (.act none (.px (some 30) (.mv (.v 9)))) <|
    .st (.act none (.px (some 31) (.ia 4 (.v 29) (.v 30)))) <|
    .st (.act none (.px (some 32) (.fa 2 (.v 31)))) <|
    .st (.act none (.ld (some 33) (.v 32) none)) <|
    .st (.act none (.px (some 34) (.mv (.v 4)))) <|
    .st (.act none (.als 35 none 1)) <|
    .st (.act none (.pget (some 36) (some 35) 1 2 none)) <|
    .st (.act none (.px (some 37) (.mv (.v 9)))) <|
    .st (.act none (.px (some 38) (.ia 4 (.v 36) (.v 37)))) <|
    .st (.act none (.px (some 39) (.fa 3 (.v 38)))) <|
    .st (.act none (.ld (some 40) (.v 39) none)) <|
    .st (.act none (.px (some 41) (.ia 1 (.v 34) (.v 40)))) <|
    .st (.act none (.ld (some 42) (.v 41) none)) <|
    .st (.act none (.px (some 43) (.build [.int .i64 0, .int .i64 0, .int .i64 0, .int .i64 0] [(0, 1, .v 21), (1, 1, .v 27), (2, 1, .v 33), (3, 1, .v 42)]))) <|
    .st (.act none (.pnew 10 (.c (.agg #[.int .i64 0, .int .i64 0, .int .i64 0, .int .i64 0])) [])) <|
    .st (.act none (.pset none 10 0 4 (.v 43))) .done) K49_13)) K49_2
@[simp] def W49_14 := @C.wpe _ _ K49_14.eq_1
def K49_15 : C := .cond 13 (.v 17) (.skip) (.exit 6)
@[simp] def W49_15 := @C.wpe _ _ K49_15.eq_1
def K49_16 : C := .seq (.seq (.pl <| .st (.ext 13 5) <|
    .st (.act none (.px (some 13) (.mv (.v 9)))) <|
    .st (.act none (.als 14 none 1)) <|
    .st (.act none (.pget (some 15) (some 14) 1 2 none)) <|
    .st (.act none (.px (some 16) (.lenV (.v 15)))) <|
    .st (.act none (.px (some 17) (.bin .lss (.v 13) (.v 16)))) .done) K49_15) K49_14
@[simp] def W49_16 := @C.wpe _ _ K49_16.eq_1
def K49_17 : C := .block 6 (.loop 13 [0, 3, 6, 7, 8, 10, 11, 12] K49_16)
@[simp] def W49_17 := @C.wpe _ _ K49_17.eq_1
def K49_18 : C := .seq (.seq (.pl <| .st (.ext 13 0) <|
    .st (.act none (.px (some 9) (.mv (.c (.int .i64 0))))) .done) K49_17) K49_1
@[simp] def W49_18 := @C.wpe _ _ K49_18.eq_1
def K49_19 : C := .pl <| .st (.ext 13 2) <|
    .st (.act none (.px (some 13) (.mv (.v 8)))) <|
    .st (.act none (.px (some 14) (.bin .add (.v 13) (.c (.int .i64 1))))) <|
    .st (.act none (.px (some 8) (.mv (.v 14)))) .done
@[simp] def W49_19 := @C.wpe _ _ K49_19.eq_1
def K49_20 : Pl := .st (.act none (.als 24 none 5)) <|
    .st (.act none (.pset (some 24) 5 0 1 (.v 23))) .done
@[simp] def W49_20 := @Pl.wpe _ _ K49_20.eq_1
def K49_21 : C := .seq (.block 5 (.pl <| .st (.ext 13 12) <|
    .st (.act none (.als 13 none 5)) <|
    .st (.act none (.pget (some 14) (some 13) 5 0 none)) <|
    .st (.act none (.px (some 15) (.mv (.v 4)))) <|
    .st (.act none (.als 16 none 1)) <|
    .st (.act none (.pget (some 17) (some 16) 1 0 none)) <|
    .st (.act none (.px (some 18) (.mv (.v 8)))) <|
    .st (.act none (.px (some 19) (.ia 1 (.v 17) (.v 18)))) <|
    .st (.act none (.ld (some 20) (.v 19) none)) <|
    .st (.act none (.px (some 21) (.ia 1 (.v 15) (.v 20)))) <|
    .st (.act none (.ld (some 22) (.v 21) none)) <|
    .st (.act none (.ex (some 23) (.call fn_spec_l10Sorted [.v 14, .v 22]))) K49_20)) K49_19
@[simp] def W49_21 := @C.wpe _ _ K49_21.eq_1
def K49_22 : C := .cond 13 (.v 17) (.skip) (.exit 4)
@[simp] def W49_22 := @C.wpe _ _ K49_22.eq_1
def K49_23 : C := .seq (.seq (.pl <| .st (.ext 13 5) <|
    .st (.act none (.px (some 13) (.mv (.v 8)))) <|
    .st (.act none (.als 14 none 1)) <|
    .st (.act none (.pget (some 15) (some 14) 1 0 none)) <|
    .st (.act none (.px (some 16) (.lenV (.v 15)))) <|
    .st (.act none (.px (some 17) (.bin .lss (.v 13) (.v 16)))) .done) K49_22) K49_21
@[simp] def W49_23 := @C.wpe _ _ K49_23.eq_1
def K49_24 : C := .block 4 (.loop 13 [0, 3, 6, 7, 9, 10, 11, 12] K49_23)
@[simp] def W49_24 := @C.wpe _ _ K49_24.eq_1
def K49_25 : C := .seq (.seq (.pl <| .st (.ext 13 0) <|
    .st (.act none (.px (some 8) (.mv (.c (.int .i64 0))))) .done) K49_24) K49_18
@[simp] def W49_25 := @C.wpe _ _ K49_25.eq_1
def K49_26 : C := .pl <| .st (.ext 13 2) <|
    .st (.act none (.px (some 13) (.mv (.v 6)))) <|
    .st (.act none (.px (some 14) (.bin .add (.v 13) (.c (.int .i64 1))))) <|
    .st (.act none (.px (some 6) (.mv (.v 14)))) .done
@[simp] def W49_26 := @C.wpe _ _ K49_26.eq_1
def K49_27 : Pl := .st (.act none (.px (some 4) (.mv (.v 19)))) .done
@[simp] def W49_27 := @Pl.wpe _ _ K49_27.eq_1
def K49_28 : C := .pl <| .st (.ext 13 7) <|
    .st (.act none (.px (some 13) (.mv (.v 4)))) <|
    .st (.act none (.px (some 14) (.mv (.v 4)))) <|
    .st (.act none (.px (some 15) (.mv (.v 7)))) <|
    .st (.act none (.px (some 16) (.ia 1 (.v 14) (.v 15)))) <|
    .st (.act none (.ld (some 17) (.v 16) none)) <|
    .st (.act none (.psl 18 [.int .i64 0] [(0, 1, .v 17)])) <|
    .st (.act none (.ex (some 19) (.app 8 1 [.int .i64 0] (.o (.v 13)) (.p 1 18)))) K49_27
@[simp] def W49_28 := @C.wpe _ _ K49_28.eq_1
def K49_29 : Pl := .st (.act none (.als 22 none 5)) <|
    .st (.act none (.pset (some 22) 5 1 1 (.v 21))) .done
@[simp] def W49_29 := @Pl.wpe _ _ K49_29.eq_1
def K49_30 : C := .pl <| .st (.ext 13 10) <|
    .st (.act none (.als 13 none 5)) <|
    .st (.act none (.pget (some 14) (some 13) 5 1 none)) <|
    .st (.act none (.als 15 none 1)) <|
    .st (.act none (.pget (some 16) (some 15) 1 1 none)) <|
    .st (.act none (.px (some 17) (.mv (.v 6)))) <|
    .st (.act none (.px (some 18) (.ia 1 (.v 16) (.v 17)))) <|
    .st (.act none (.ld (some 19) (.v 18) none)) <|
    .st (.act none (.psl 20 [.bool false] [(0, 1, .v 19)])) <|
    .st (.act none (.ex (some 21) (.app 1 1 [.bool false] (.o (.v 14)) (.p 1 20)))) K49_29
@[simp] def W49_30 := @C.wpe _ _ K49_30.eq_1
def K49_31 : Pl := .st (.act none (.px (some 4) (.mv (.v 18)))) .done
@[simp] def W49_31 := @Pl.wpe _ _ K49_31.eq_1
def K49_32 : C := .seq (.pl <| .st (.ext 13 6) <|
    .st (.act none (.px (some 13) (.mv (.v 4)))) <|
    .st (.act none (.als 14 none 5)) <|
    .st (.act none (.pget (some 15) (some 14) 5 1 none)) <|
    .st (.act none (.px (some 16) (.lenV (.v 15)))) <|
    .st (.act none (.psl 17 [.int .i64 0] [(0, 1, .v 16)])) <|
    .st (.act none (.ex (some 18) (.app 8 1 [.int .i64 0] (.o (.v 13)) (.p 1 17)))) K49_31) K49_30
@[simp] def W49_32 := @C.wpe _ _ K49_32.eq_1
def K49_33 : C := .cond 13 (.v 15) K49_28 K49_32
@[simp] def W49_33 := @C.wpe _ _ K49_33.eq_1
def K49_34 : C := .seq (.pl <| .st (.ext 13 3) <|
    .st (.act none (.px (some 13) (.mv (.v 7)))) <|
    .st (.act none (.px (some 14) (.mv (.v 6)))) <|
    .st (.act none (.px (some 15) (.bin .lss (.v 13) (.v 14)))) .done) K49_33
@[simp] def W49_34 := @C.wpe _ _ K49_34.eq_1
def K49_35 : C := .block 3 (.pl <| .st (.ext 13 2) <|
    .st (.act none (.px (some 13) (.mv (.v 7)))) <|
    .st (.act none (.px (some 14) (.bin .add (.v 13) (.c (.int .i64 1))))) <|
    .st (.act none (.px (some 7) (.mv (.v 14)))) .done)
@[simp] def W49_35 := @C.wpe _ _ K49_35.eq_1
def K49_36 : C := .cond 13 (.v 34) (.skip) (.exit 2)
@[simp] def W49_36 := @C.wpe _ _ K49_36.eq_1
def K49_37 : C := .seq (.seq (.pl <| .st (.ext 13 22) <|
    .st (.act none (.px (some 13) (.mv (.v 7)))) <|
    .st (.act none (.px (some 14) (.mv (.v 6)))) <|
    .st (.act none (.px (some 15) (.bin .lss (.v 13) (.v 14)))) <|
    .st (.act none (.px (some 16) (.mv (.v 15)))) <|
    .st (.act (some (.v 16, true)) (.px (some 17) (.mv (.v 3)))) <|
    .st (.act (some (.v 16, true)) (.px (some 18) (.mv (.v 6)))) <|
    .st (.act (some (.v 16, true)) (.px (some 19) (.ia 1 (.v 17) (.v 18)))) <|
    .st (.act (some (.v 16, true)) (.ld (some 20) (.v 19) none)) <|
    .st (.act (some (.v 16, true)) (.px (some 21) (.mv (.v 7)))) <|
    .st (.act (some (.v 16, true)) (.px (some 22) (.ia 1 (.v 20) (.v 21)))) <|
    .st (.act (some (.v 16, true)) (.ld (some 23) (.v 22) none)) <|
    .st (.act (some (.v 16, true)) (.px (some 24) (.mv (.v 23)))) <|
    .st (.act (some (.v 24, true)) (.px (some 25) (.mv (.v 3)))) <|
    .st (.act (some (.v 24, true)) (.px (some 26) (.mv (.v 7)))) <|
    .st (.act (some (.v 24, true)) (.px (some 27) (.ia 1 (.v 25) (.v 26)))) <|
    .st (.act (some (.v 24, true)) (.ld (some 28) (.v 27) none)) <|
    .st (.act (some (.v 24, true)) (.px (some 29) (.mv (.v 6)))) <|
    .st (.act (some (.v 24, true)) (.px (some 30) (.ia 1 (.v 28) (.v 29)))) <|
    .st (.act (some (.v 24, true)) (.ld (some 31) (.v 30) none)) <|
    .st (.act (some (.v 16, true)) (.px (some 32) (.pick (.v 24) (.v 31) (.c (.bool false))))) <|
    .st (.act (some (.v 16, true)) (.px (some 33) (.un .not (.v 32)))) <|
    .st (.act none (.px (some 34) (.pick (.v 16) (.v 33) (.c (.bool false))))) .done) K49_36) K49_35
@[simp] def W49_37 := @C.wpe _ _ K49_37.eq_1
def K49_38 : C := .seq (.block 2 (.loop 13 [0, 8, 9, 10, 11, 12] K49_37)) K49_34
@[simp] def W49_38 := @C.wpe _ _ K49_38.eq_1
def K49_39 : C := .seq (.block 1 (.seq (.pl <| .st (.ext 13 0) <|
    .st (.act none (.px (some 7) (.mv (.c (.int .i64 0))))) .done) K49_38)) K49_26
@[simp] def W49_39 := @C.wpe _ _ K49_39.eq_1
def K49_40 : C := .cond 13 (.v 16) (.skip) (.exit 0)
@[simp] def W49_40 := @C.wpe _ _ K49_40.eq_1
def K49_41 : C := .seq (.seq (.pl <| .st (.ext 13 4) <|
    .st (.act none (.px (some 13) (.mv (.v 6)))) <|
    .st (.act none (.px (some 14) (.mv (.v 3)))) <|
    .st (.act none (.px (some 15) (.lenV (.v 14)))) <|
    .st (.act none (.px (some 16) (.bin .lss (.v 13) (.v 15)))) .done) K49_40) K49_39
@[simp] def W49_41 := @C.wpe _ _ K49_41.eq_1
def K49_42 : C := .block 0 (.loop 13 [0, 7, 8, 9, 10, 11, 12] K49_41)
@[simp] def W49_42 := @C.wpe _ _ K49_42.eq_1
def K49_43 : C := .seq (.seq (.pl <| .st (.ext 13 0) <|
    .st (.act none (.px (some 6) (.mv (.c (.int .i64 0))))) .done) K49_42) K49_25
@[simp] def W49_43 := @C.wpe _ _ K49_43.eq_1
def K49_44 : C := .seq (.pl <| .st (.ext 13 1) <|
    .st (.act none (.px (some 13) (.build [.slice none 0 0, .slice none 0 0, .slice none 0 0] []))) <|
    .st (.act none (.pnew 5 (.c (.agg #[.slice none 0 0, .slice none 0 0, .slice none 0 0])) [])) <|
    .st (.act none (.pset none 5 0 3 (.v 13))) .done) K49_43
@[simp] def W49_44 := @C.wpe _ _ K49_44.eq_1
def K49_45 : Pl := .st (.act none (.px (some 4) (.mv (.v 13)))) .done
@[simp] def W49_45 := @Pl.wpe _ _ K49_45.eq_1
def K49_46 : C := .seq (.pl <| .st (.ext 13 1) <|
    .st (.act none (.ex (some 13) (.bls 1 0 [.int .i64 0] []))) K49_45) K49_44
@[simp] def W49_46 := @C.wpe _ _ K49_46.eq_1
def K49_47 : Pl := .st (.act none (.px (some 3) (.mv (.v 14)))) .done
@[simp] def W49_47 := @Pl.wpe _ _ K49_47.eq_1
def K49_48 : C := .seq (.pl <| .st (.ext 13 2) <|
    .st (.act none (.pget (some 13) none 1 0 (some 3))) <|
    .st (.act none (.ex (some 14) (.call fn_spec_l13Relation [.v 13]))) K49_47) K49_46
@[simp] def W49_48 := @C.wpe _ _ K49_48.eq_1
def B_spec_l13Merge : C := .seq (.pl <| .st (.ext 13 0) <|
    .st (.act none (.pnew 1 (.v 0) [])) <|
    .st (.act none (.pnew 2 (.c (.agg #[.slice none 0 0, .slice none 0 0, .slice none 0 0])) [])) .done) K49_48
@[simp] def WB_spec_l13Merge := @C.wpe _ _ B_spec_l13Merge.eq_1
def R_spec_l13Merge : FIR := ⟨B_spec_l13Merge, 13, [(2, some (some 3))]⟩
theorem IR_spec_l13Merge : cfun Try.prog H_spec_l13Merge Try.f49 = some R_spec_l13Merge := by kernel_rfl
theorem EN_spec_l13Merge {args : List Value} {h : Heap} {k : Value → Heap → Prop} (hargs : args.length = 1) (hw : B_spec_l13Merge.wp Try.prog (retQ [(2, some (some 3))] k) (env0 args 13) h) : CallE Try.prog fn_spec_l13Merge args h k := enter Try.func49 rfl IR_spec_l13Merge hargs hw

def H_spec_l13Relation : Hint := ⟨[(0, false), (1, true), (2, false), (3, false), (4, false), (5, false), (6, false), (7, false), (8, false), (9, false), (10, false), (11, false)], [[0, 2, 6, 7, 8, 9, 10, 11], [0, 2, 8, 9, 10, 11], [0, 1, 2, 5, 6, 7, 10, 11], [0, 1, 2, 5, 6, 7, 11], [0, 1, 2, 5, 6, 7]]⟩
def K80_1 : C := .seq (.pl <| .st (.ext 12 1) <|
    .st (.act none (.px (some 12) (.mv (.v 4)))) <|
    .st (.act none (.px (some 2) (.mv (.v 12)))) .done) (.ret)
@[simp] def W80_1 := @C.wpe _ _ K80_1.eq_1
def K80_2 : C := .pl <| .st (.ext 12 2) <|
    .st (.act none (.px (some 12) (.mv (.v 10)))) <|
    .st (.act none (.px (some 13) (.bin .add (.v 12) (.c (.int .i64 1))))) <|
    .st (.act none (.px (some 10) (.mv (.v 13)))) .done
@[simp] def W80_2 := @C.wpe _ _ K80_2.eq_1
def K80_3 : C := .pl <| .st (.ext 12 2) <|
    .st (.act none (.px (some 12) (.mv (.v 11)))) <|
    .st (.act none (.px (some 13) (.bin .add (.v 12) (.c (.int .i64 1))))) <|
    .st (.act none (.px (some 11) (.mv (.v 13)))) .done
@[simp] def W80_3 := @C.wpe _ _ K80_3.eq_1
def K80_4 : C := .pl <| .st (.ext 12 0) <|
    .st (.act none (.px (some 9) (.mv (.c (.bool true))))) .done
@[simp] def W80_4 := @C.wpe _ _ K80_4.eq_1
def K80_5 : C := .seq (.pl <| .st (.ext 12 6) <|
    .st (.act none (.px (some 12) (.mv (.v 4)))) <|
    .st (.act none (.px (some 13) (.mv (.v 10)))) <|
    .st (.act none (.px (some 14) (.ia 1 (.v 12) (.v 13)))) <|
    .st (.act none (.ld (some 15) (.v 14) none)) <|
    .st (.act none (.px (some 16) (.mv (.v 11)))) <|
    .st (.act none (.px (some 17) (.ia 1 (.v 15) (.v 16)))) <|
    .st (.act none (.ex none (.store 1 (.v 17) (.c (.bool false))))) .done) K80_4
@[simp] def W80_5 := @C.wpe _ _ K80_5.eq_1
def K80_6 : C := .cond 12 (.v 31) K80_5 (.skip)
@[simp] def W80_6 := @C.wpe _ _ K80_6.eq_1
def K80_7 : Pl := .st (.act (some (.v 19, true)) (.px (some 30) (.un .not (.v 29)))) <|
    .st (.act none (.px (some 31) (.pick (.v 19) (.v 30) (.c (.bool false))))) .done
@[simp] def W80_7 := @Pl.wpe _ _ K80_7.eq_1
def K80_8 : C := .seq (.block 9 (.seq (.pl <| .st (.ext 12 20) <|
    .st (.act none (.px (some 12) (.mv (.v 4)))) <|
    .st (.act none (.px (some 13) (.mv (.v 10)))) <|
    .st (.act none (.px (some 14) (.ia 1 (.v 12) (.v 13)))) <|
    .st (.act none (.ld (some 15) (.v 14) none)) <|
    .st (.act none (.px (some 16) (.mv (.v 11)))) <|
    .st (.act none (.px (some 17) (.ia 1 (.v 15) (.v 16)))) <|
    .st (.act none (.ld (some 18) (.v 17) none)) <|
    .st (.act none (.px (some 19) (.mv (.v 18)))) <|
    .st (.act (some (.v 19, true)) (.px (some 20) (.mv (.v 8)))) <|
    .st (.act (some (.v 19, true)) (.px (some 21) (.mv (.v 10)))) <|
    .st (.act (some (.v 19, true)) (.px (some 22) (.ia 1 (.v 20) (.v 21)))) <|
    .st (.act (some (.v 19, true)) (.ld (some 23) (.v 22) none)) <|
    .st (.act (some (.v 19, true)) (.px (some 24) (.mv (.v 8)))) <|
    .st (.act (some (.v 19, true)) (.px (some 25) (.mv (.v 11)))) <|
    .st (.act (some (.v 19, true)) (.px (some 26) (.ia 1 (.v 24) (.v 25)))) <|
    .st (.act (some (.v 19, true)) (.ld (some 27) (.v 26) none)) <|
    .st (.act (some (.v 19, true)) (.px (some 28) (.mv (.v 4)))) <|
    .st (.act (some (.v 19, true)) (.ex (some 29) (.call fn_spec_l13Answers [.v 23, .v 27, .v 28]))) K80_7) K80_6)) K80_3
@[simp] def W80_8 := @C.wpe _ _ K80_8.eq_1
def K80_9 : C := .cond 12 (.v 14) (.skip) (.exit 8)
@[simp] def W80_9 := @C.wpe _ _ K80_9.eq_1
def K80_10 : C := .seq (.seq (.pl <| .st (.ext 12 3) <|
    .st (.act none (.px (some 12) (.mv (.v 11)))) <|
    .st (.act none (.px (some 13) (.mv (.v 3)))) <|
    .st (.act none (.px (some 14) (.bin .lss (.v 12) (.v 13)))) .done) K80_9) K80_8
@[simp] def W80_10 := @C.wpe _ _ K80_10.eq_1
def K80_11 : C := .block 8 (.loop 12 [0, 1, 2, 5, 6, 7] K80_10)
@[simp] def W80_11 := @C.wpe _ _ K80_11.eq_1
def K80_12 : C := .seq (.block 7 (.seq (.pl <| .st (.ext 12 0) <|
    .st (.act none (.px (some 11) (.mv (.c (.int .i64 0))))) .done) K80_11)) K80_2
@[simp] def W80_12 := @C.wpe _ _ K80_12.eq_1
def K80_13 : C := .cond 12 (.v 14) (.skip) (.exit 6)
@[simp] def W80_13 := @C.wpe _ _ K80_13.eq_1
def K80_14 : C := .seq (.seq (.pl <| .st (.ext 12 3) <|
    .st (.act none (.px (some 12) (.mv (.v 10)))) <|
    .st (.act none (.px (some 13) (.mv (.v 3)))) <|
    .st (.act none (.px (some 14) (.bin .lss (.v 12) (.v 13)))) .done) K80_13) K80_12
@[simp] def W80_14 := @C.wpe _ _ K80_14.eq_1
def K80_15 : C := .block 6 (.loop 12 [0, 1, 2, 5, 6, 7, 11] K80_14)
@[simp] def W80_15 := @C.wpe _ _ K80_15.eq_1
def K80_16 : C := .seq (.pl <| .st (.ext 12 0) <|
    .st (.act none (.px (some 10) (.mv (.c (.int .i64 0))))) .done) K80_15
@[simp] def W80_16 := @C.wpe _ _ K80_16.eq_1
def K80_17 : C := .block 5 (.seq (.pl <| .st (.ext 12 0) <|
    .st (.act none (.px (some 9) (.mv (.c (.bool false))))) .done) K80_16)
@[simp] def W80_17 := @C.wpe _ _ K80_17.eq_1
def K80_18 : C := .cond 12 (.v 12) (.skip) (.exit 4)
@[simp] def W80_18 := @C.wpe _ _ K80_18.eq_1
def K80_19 : C := .seq (.seq (.pl <| .st (.ext 12 1) <|
    .st (.act none (.px (some 12) (.mv (.v 9)))) .done) K80_18) K80_17
@[simp] def W80_19 := @C.wpe _ _ K80_19.eq_1
def K80_20 : C := .block 4 (.loop 12 [0, 1, 2, 5, 6, 7, 10, 11] K80_19)
@[simp] def W80_20 := @C.wpe _ _ K80_20.eq_1
def K80_21 : C := .seq (.seq (.pl <| .st (.ext 12 0) <|
    .st (.act none (.px (some 9) (.mv (.c (.bool true))))) .done) K80_20) K80_1
@[simp] def W80_21 := @C.wpe _ _ K80_21.eq_1
def K80_22 : Pl := .st (.act none (.px (some 8) (.mv (.v 13)))) .done
@[simp] def W80_22 := @Pl.wpe _ _ K80_22.eq_1
def K80_23 : C := .seq (.pl <| .st (.ext 12 2) <|
    .st (.act none (.pget (some 12) none 1 0 (some 3))) <|
    .st (.act none (.ex (some 13) (.call fn_spec_l13Leaving [.v 12]))) K80_22) K80_21
@[simp] def W80_23 := @C.wpe _ _ K80_23.eq_1
def K80_24 : C := .pl <| .st (.ext 12 2) <|
    .st (.act none (.px (some 12) (.mv (.v 5)))) <|
    .st (.act none (.px (some 13) (.bin .add (.v 12) (.c (.int .i64 1))))) <|
    .st (.act none (.px (some 5) (.mv (.v 13)))) .done
@[simp] def W80_24 := @C.wpe _ _ K80_24.eq_1
def K80_25 : Pl := .st (.act none (.px (some 4) (.mv (.v 15)))) .done
@[simp] def W80_25 := @Pl.wpe _ _ K80_25.eq_1
def K80_26 : C := .pl <| .st (.ext 12 4) <|
    .st (.act none (.px (some 12) (.mv (.v 4)))) <|
    .st (.act none (.px (some 13) (.mv (.v 6)))) <|
    .st (.act none (.psl 14 [.slice none 0 0] [(0, 1, .v 13)])) <|
    .st (.act none (.ex (some 15) (.app 24 1 [.slice none 0 0] (.o (.v 12)) (.p 1 14)))) K80_25
@[simp] def W80_26 := @C.wpe _ _ K80_26.eq_1
def K80_27 : C := .pl <| .st (.ext 12 2) <|
    .st (.act none (.px (some 12) (.mv (.v 7)))) <|
    .st (.act none (.px (some 13) (.bin .add (.v 12) (.c (.int .i64 1))))) <|
    .st (.act none (.px (some 7) (.mv (.v 13)))) .done
@[simp] def W80_27 := @C.wpe _ _ K80_27.eq_1
def K80_28 : Pl := .st (.act none (.px (some 6) (.mv (.v 27)))) .done
@[simp] def W80_28 := @Pl.wpe _ _ K80_28.eq_1
def K80_29 : C := .seq (.block 3 (.pl <| .st (.ext 12 16) <|
    .st (.act none (.px (some 12) (.mv (.v 6)))) <|
    .st (.act none (.als 13 none 1)) <|
    .st (.act none (.pget (some 14) (some 13) 1 1 none)) <|
    .st (.act none (.px (some 15) (.mv (.v 5)))) <|
    .st (.act none (.px (some 16) (.ia 1 (.v 14) (.v 15)))) <|
    .st (.act none (.ld (some 17) (.v 16) none)) <|
    .st (.act none (.px (some 18) (.un .not (.v 17)))) <|
    .st (.act none (.px (some 19) (.mv (.v 18)))) <|
    .st (.act (some (.v 19, false)) (.als 20 none 1)) <|
    .st (.act (some (.v 19, false)) (.pget (some 21) (some 20) 1 1 none)) <|
    .st (.act (some (.v 19, false)) (.px (some 22) (.mv (.v 7)))) <|
    .st (.act (some (.v 19, false)) (.px (some 23) (.ia 1 (.v 21) (.v 22)))) <|
    .st (.act (some (.v 19, false)) (.ld (some 24) (.v 23) none)) <|
    .st (.act none (.px (some 25) (.pick (.v 19) (.c (.bool true)) (.v 24)))) <|
    .st (.act none (.psl 26 [.bool false] [(0, 1, .v 25)])) <|
    .st (.act none (.ex (some 27) (.app 1 1 [.bool false] (.o (.v 12)) (.p 1 26)))) K80_28)) K80_27
@[simp] def W80_29 := @C.wpe _ _ K80_29.eq_1
def K80_30 : C := .cond 12 (.v 14) (.skip) (.exit 2)
@[simp] def W80_30 := @C.wpe _ _ K80_30.eq_1
def K80_31 : C := .seq (.seq (.pl <| .st (.ext 12 3) <|
    .st (.act none (.px (some 12) (.mv (.v 7)))) <|
    .st (.act none (.px (some 13) (.mv (.v 3)))) <|
    .st (.act none (.px (some 14) (.bin .lss (.v 12) (.v 13)))) .done) K80_30) K80_29
@[simp] def W80_31 := @C.wpe _ _ K80_31.eq_1
def K80_32 : C := .block 2 (.loop 12 [0, 2, 8, 9, 10, 11] K80_31)
@[simp] def W80_32 := @C.wpe _ _ K80_32.eq_1
def K80_33 : C := .seq (.seq (.pl <| .st (.ext 12 0) <|
    .st (.act none (.px (some 7) (.mv (.c (.int .i64 0))))) .done) K80_32) K80_26
@[simp] def W80_33 := @C.wpe _ _ K80_33.eq_1
def K80_34 : Pl := .st (.act none (.px (some 6) (.mv (.v 12)))) .done
@[simp] def W80_34 := @Pl.wpe _ _ K80_34.eq_1
def K80_35 : C := .seq (.block 1 (.seq (.pl <| .st (.ext 12 1) <|
    .st (.act none (.ex (some 12) (.bls 1 0 [.bool false] []))) K80_34) K80_33)) K80_24
@[simp] def W80_35 := @C.wpe _ _ K80_35.eq_1
def K80_36 : C := .cond 12 (.v 14) (.skip) (.exit 0)
@[simp] def W80_36 := @C.wpe _ _ K80_36.eq_1
def K80_37 : C := .seq (.seq (.pl <| .st (.ext 12 3) <|
    .st (.act none (.px (some 12) (.mv (.v 5)))) <|
    .st (.act none (.px (some 13) (.mv (.v 3)))) <|
    .st (.act none (.px (some 14) (.bin .lss (.v 12) (.v 13)))) .done) K80_36) K80_35
@[simp] def W80_37 := @C.wpe _ _ K80_37.eq_1
def K80_38 : C := .block 0 (.loop 12 [0, 2, 6, 7, 8, 9, 10, 11] K80_37)
@[simp] def W80_38 := @C.wpe _ _ K80_38.eq_1
def K80_39 : C := .seq (.seq (.pl <| .st (.ext 12 0) <|
    .st (.act none (.px (some 5) (.mv (.c (.int .i64 0))))) .done) K80_38) K80_23
@[simp] def W80_39 := @C.wpe _ _ K80_39.eq_1
def K80_40 : Pl := .st (.act none (.px (some 4) (.mv (.v 12)))) .done
@[simp] def W80_40 := @Pl.wpe _ _ K80_40.eq_1
def K80_41 : C := .seq (.pl <| .st (.ext 12 1) <|
    .st (.act none (.ex (some 12) (.bls 1 0 [.slice none 0 0] []))) K80_40) K80_39
@[simp] def W80_41 := @C.wpe _ _ K80_41.eq_1
def K80_42 : C := .seq (.pl <| .st (.ext 12 3) <|
    .st (.act none (.als 12 none 1)) <|
    .st (.act none (.pget (some 13) (some 12) 1 1 none)) <|
    .st (.act none (.px (some 14) (.lenV (.v 13)))) <|
    .st (.act none (.px (some 3) (.mv (.v 14)))) .done) K80_41
@[simp] def W80_42 := @C.wpe _ _ K80_42.eq_1
def B_spec_l13Relation : C := .seq (.pl <| .st (.ext 12 0) <|
    .st (.act none (.pnew 1 (.v 0) [])) <|
    .st (.act none (.px (some 2) (.mv (.c (.slice none 0 0))))) .done) K80_42
@[simp] def WB_spec_l13Relation := @C.wpe _ _ B_spec_l13Relation.eq_1
def R_spec_l13Relation : FIR := ⟨B_spec_l13Relation, 12, [(2, none)]⟩
theorem IR_spec_l13Relation : cfun Try.prog H_spec_l13Relation Try.f80 = some R_spec_l13Relation := by kernel_rfl
theorem EN_spec_l13Relation {args : List Value} {h : Heap} {k : Value → Heap → Prop} (hargs : args.length = 1) (hw : B_spec_l13Relation.wp Try.prog (retQ [(2, none)] k) (env0 args 12) h) : CallE Try.prog fn_spec_l13Relation args h k := enter Try.func80 rfl IR_spec_l13Relation hargs hw

def H_spec_l13Trim : Hint := ⟨[(0, false), (1, true), (2, true), (3, false), (4, false), (5, false), (6, false)], [[0]]⟩
def K34_1 : Pl := .st (.act none (.pset none 2 0 3 (.v 9))) .done
@[simp] def W34_1 := @Pl.wpe _ _ K34_1.eq_1
def K34_2 : C := .seq (.pl <| .st (.ext 7 3) <|
    .st (.act none (.pget (some 7) none 1 0 (some 3))) <|
    .st (.act none (.px (some 8) (.mv (.v 5)))) <|
    .st (.act none (.ex (some 9) (.call fn_spec_l13Keep [.v 7, .v 8]))) K34_1) (.ret)
@[simp] def W34_2 := @C.wpe _ _ K34_2.eq_1
def K34_3 : C := .pl <| .st (.ext 7 2) <|
    .st (.act none (.px (some 7) (.mv (.v 6)))) <|
    .st (.act none (.px (some 8) (.bin .add (.v 7) (.c (.int .i64 1))))) <|
    .st (.act none (.px (some 6) (.mv (.v 8)))) .done
@[simp] def W34_3 := @C.wpe _ _ K34_3.eq_1
def K34_4 : C := .seq (.block 1 (.pl <| .st (.ext 7 13) <|
    .st (.act none (.px (some 7) (.mv (.v 5)))) <|
    .st (.act none (.px (some 8) (.mv (.v 4)))) <|
    .st (.act none (.px (some 9) (.mv (.v 6)))) <|
    .st (.act none (.px (some 10) (.ia 1 (.v 8) (.v 9)))) <|
    .st (.act none (.ld (some 11) (.v 10) none)) <|
    .st (.act none (.px (some 12) (.mv (.v 3)))) <|
    .st (.act none (.px (some 13) (.mv (.v 4)))) <|
    .st (.act none (.px (some 14) (.mv (.v 6)))) <|
    .st (.act none (.px (some 15) (.ia 1 (.v 13) (.v 14)))) <|
    .st (.act none (.ld (some 16) (.v 15) none)) <|
    .st (.act none (.px (some 17) (.ia 1 (.v 12) (.v 16)))) <|
    .st (.act none (.ld (some 18) (.v 17) none)) <|
    .st (.act none (.px (some 19) (.ia 1 (.v 7) (.v 11)))) <|
    .st (.act none (.ex none (.store 1 (.v 19) (.v 18)))) .done)) K34_3
@[simp] def W34_4 := @C.wpe _ _ K34_4.eq_1
def K34_5 : C := .cond 7 (.v 10) (.skip) (.exit 0)
@[simp] def W34_5 := @C.wpe _ _ K34_5.eq_1
def K34_6 : C := .seq (.seq (.pl <| .st (.ext 7 4) <|
    .st (.act none (.px (some 7) (.mv (.v 6)))) <|
    .st (.act none (.px (some 8) (.mv (.v 4)))) <|
    .st (.act none (.px (some 9) (.lenV (.v 8)))) <|
    .st (.act none (.px (some 10) (.bin .lss (.v 7) (.v 9)))) .done) K34_5) K34_4
@[simp] def W34_6 := @C.wpe _ _ K34_6.eq_1
def K34_7 : C := .block 0 (.loop 7 [0] K34_6)
@[simp] def W34_7 := @C.wpe _ _ K34_7.eq_1
def K34_8 : C := .seq (.seq (.pl <| .st (.ext 7 0) <|
    .st (.act none (.px (some 6) (.mv (.c (.int .i64 0))))) .done) K34_7) K34_2
@[simp] def W34_8 := @C.wpe _ _ K34_8.eq_1
def K34_9 : Pl := .st (.act none (.px (some 5) (.mv (.v 9)))) .done
@[simp] def W34_9 := @Pl.wpe _ _ K34_9.eq_1
def K34_10 : C := .seq (.pl <| .st (.ext 7 3) <|
    .st (.act none (.px (some 7) (.mv (.v 3)))) <|
    .st (.act none (.px (some 8) (.lenV (.v 7)))) <|
    .st (.act none (.ex (some 9) (.mks 1 1 [.bool false] (.v 8) (.v 8)))) K34_9) K34_8
@[simp] def W34_10 := @C.wpe _ _ K34_10.eq_1
def K34_11 : Pl := .st (.act none (.px (some 4) (.mv (.v 11)))) .done
@[simp] def W34_11 := @Pl.wpe _ _ K34_11.eq_1
def K34_12 : Pl := .st (.act none (.ex (some 11) (.call fn_spec_l7Reach [.v 8, .v 10]))) K34_11
@[simp] def W34_12 := @Pl.wpe _ _ K34_12.eq_1
def K34_13 : C := .seq (.pl <| .st (.ext 7 5) <|
    .st (.act none (.pget (some 7) none 1 0 (some 3))) <|
    .st (.act none (.als 9 none 1)) <|
    .st (.act none (.pget (some 10) (some 9) 1 0 none)) <|
    .st (.act none (.ex (some 8) (.call fn_spec_l7Next [.v 7]))) K34_12) K34_10
@[simp] def W34_13 := @C.wpe _ _ K34_13.eq_1
def K34_14 : Pl := .st (.act none (.px (some 3) (.mv (.v 8)))) .done
@[simp] def W34_14 := @Pl.wpe _ _ K34_14.eq_1
def K34_15 : C := .seq (.pl <| .st (.ext 7 2) <|
    .st (.act none (.pget (some 7) none 1 0 (some 3))) <|
    .st (.act none (.ex (some 8) (.call fn_spec_LiveStates [.v 7]))) K34_14) K34_13
@[simp] def W34_15 := @C.wpe _ _ K34_15.eq_1
def B_spec_l13Trim : C := .seq (.pl <| .st (.ext 7 0) <|
    .st (.act none (.pnew 1 (.v 0) [])) <|
    .st (.act none (.pnew 2 (.c (.agg #[.slice none 0 0, .slice none 0 0, .slice none 0 0])) [])) .done) K34_15
@[simp] def WB_spec_l13Trim := @C.wpe _ _ B_spec_l13Trim.eq_1
def R_spec_l13Trim : FIR := ⟨B_spec_l13Trim, 7, [(2, some (some 3))]⟩
theorem IR_spec_l13Trim : cfun Try.prog H_spec_l13Trim Try.f34 = some R_spec_l13Trim := by kernel_rfl
theorem EN_spec_l13Trim {args : List Value} {h : Heap} {k : Value → Heap → Prop} (hargs : args.length = 1) (hw : B_spec_l13Trim.wp Try.prog (retQ [(2, some (some 3))] k) (env0 args 7) h) : CallE Try.prog fn_spec_l13Trim args h k := enter Try.func34 rfl IR_spec_l13Trim hargs hw

def H_spec_l2Ints : Hint := ⟨[(0, false), (1, false), (4, false), (5, false)], [[2]]⟩
def K88_1 : C := .seq (.pl <| .st (.ext 4 0) <|
    .st (.act none (.px (some 2) (.mv (.c (.bool true))))) .done) (.ret)
@[simp] def W88_1 := @C.wpe _ _ K88_1.eq_1
def K88_2 : C := .pl <| .st (.ext 4 2) <|
    .st (.act none (.px (some 4) (.mv (.v 3)))) <|
    .st (.act none (.px (some 5) (.bin .add (.v 4) (.c (.int .i64 1))))) <|
    .st (.act none (.px (some 3) (.mv (.v 5)))) .done
@[simp] def W88_2 := @C.wpe _ _ K88_2.eq_1
def K88_3 : C := .seq (.pl <| .st (.ext 4 0) <|
    .st (.act none (.px (some 2) (.mv (.c (.bool false))))) .done) (.ret)
@[simp] def W88_3 := @C.wpe _ _ K88_3.eq_1
def K88_4 : C := .cond 4 (.v 12) K88_3 (.skip)
@[simp] def W88_4 := @C.wpe _ _ K88_4.eq_1
def K88_5 : C := .seq (.block 1 (.seq (.pl <| .st (.ext 4 9) <|
    .st (.act none (.px (some 4) (.mv (.v 0)))) <|
    .st (.act none (.px (some 5) (.mv (.v 3)))) <|
    .st (.act none (.px (some 6) (.ia 1 (.v 4) (.v 5)))) <|
    .st (.act none (.ld (some 7) (.v 6) none)) <|
    .st (.act none (.px (some 8) (.mv (.v 1)))) <|
    .st (.act none (.px (some 9) (.mv (.v 3)))) <|
    .st (.act none (.px (some 10) (.ia 1 (.v 8) (.v 9)))) <|
    .st (.act none (.ld (some 11) (.v 10) none)) <|
    .st (.act none (.px (some 12) (.bin .neq (.v 7) (.v 11)))) .done) K88_4)) K88_2
@[simp] def W88_5 := @C.wpe _ _ K88_5.eq_1
def K88_6 : C := .cond 4 (.v 7) (.skip) (.exit 0)
@[simp] def W88_6 := @C.wpe _ _ K88_6.eq_1
def K88_7 : C := .seq (.seq (.pl <| .st (.ext 4 4) <|
    .st (.act none (.px (some 4) (.mv (.v 3)))) <|
    .st (.act none (.px (some 5) (.mv (.v 0)))) <|
    .st (.act none (.px (some 6) (.lenV (.v 5)))) <|
    .st (.act none (.px (some 7) (.bin .lss (.v 4) (.v 6)))) .done) K88_6) K88_5
@[simp] def W88_7 := @C.wpe _ _ K88_7.eq_1
def K88_8 : C := .block 0 (.loop 4 [2] K88_7)
@[simp] def W88_8 := @C.wpe _ _ K88_8.eq_1
def K88_9 : C := .seq (.seq (.pl <| .st (.ext 4 0) <|
    .st (.act none (.px (some 3) (.mv (.c (.int .i64 0))))) .done) K88_8) K88_1
@[simp] def W88_9 := @C.wpe _ _ K88_9.eq_1
def K88_10 : C := .seq (.pl <| .st (.ext 4 0) <|
    .st (.act none (.px (some 2) (.mv (.c (.bool false))))) .done) (.ret)
@[simp] def W88_10 := @C.wpe _ _ K88_10.eq_1
def K88_11 : C := .cond 4 (.v 8) K88_10 (.skip)
@[simp] def W88_11 := @C.wpe _ _ K88_11.eq_1
def K88_12 : C := .seq (.seq (.pl <| .st (.ext 4 5) <|
    .st (.act none (.px (some 4) (.mv (.v 0)))) <|
    .st (.act none (.px (some 5) (.lenV (.v 4)))) <|
    .st (.act none (.px (some 6) (.mv (.v 1)))) <|
    .st (.act none (.px (some 7) (.lenV (.v 6)))) <|
    .st (.act none (.px (some 8) (.bin .neq (.v 5) (.v 7)))) .done) K88_11) K88_9
@[simp] def W88_12 := @C.wpe _ _ K88_12.eq_1
def B_spec_l2Ints : C := .seq (.pl <| .st (.ext 4 0) <|
    .st (.act none (.px (some 2) (.mv (.c (.bool false))))) .done) K88_12
@[simp] def WB_spec_l2Ints := @C.wpe _ _ B_spec_l2Ints.eq_1
def R_spec_l2Ints : FIR := ⟨B_spec_l2Ints, 4, [(2, none)]⟩
theorem IR_spec_l2Ints : cfun Try.prog H_spec_l2Ints Try.f88 = some R_spec_l2Ints := by kernel_rfl
theorem EN_spec_l2Ints {args : List Value} {h : Heap} {k : Value → Heap → Prop} (hargs : args.length = 2) (hw : B_spec_l2Ints.wp Try.prog (retQ [(2, none)] k) (env0 args 4) h) : CallE Try.prog fn_spec_l2Ints args h k := enter Try.func88 rfl IR_spec_l2Ints hargs hw

def H_spec_l4In : Hint := ⟨[(0, false), (1, false), (4, false), (5, false)], [[2]]⟩
def K99_1 : C := .seq (.pl <| .st (.ext 4 0) <|
    .st (.act none (.px (some 2) (.mv (.c (.bool false))))) .done) (.ret)
@[simp] def W99_1 := @C.wpe _ _ K99_1.eq_1
def K99_2 : C := .pl <| .st (.ext 4 2) <|
    .st (.act none (.px (some 4) (.mv (.v 3)))) <|
    .st (.act none (.px (some 5) (.bin .add (.v 4) (.c (.int .i64 1))))) <|
    .st (.act none (.px (some 3) (.mv (.v 5)))) .done
@[simp] def W99_2 := @C.wpe _ _ K99_2.eq_1
def K99_3 : C := .seq (.pl <| .st (.ext 4 0) <|
    .st (.act none (.px (some 2) (.mv (.c (.bool true))))) .done) (.ret)
@[simp] def W99_3 := @C.wpe _ _ K99_3.eq_1
def K99_4 : C := .cond 4 (.v 9) K99_3 (.skip)
@[simp] def W99_4 := @C.wpe _ _ K99_4.eq_1
def K99_5 : C := .seq (.block 1 (.seq (.pl <| .st (.ext 4 6) <|
    .st (.act none (.px (some 4) (.mv (.v 0)))) <|
    .st (.act none (.px (some 5) (.mv (.v 3)))) <|
    .st (.act none (.px (some 6) (.ia 1 (.v 4) (.v 5)))) <|
    .st (.act none (.ld (some 7) (.v 6) none)) <|
    .st (.act none (.px (some 8) (.mv (.v 1)))) <|
    .st (.act none (.px (some 9) (.bin .eql (.v 7) (.v 8)))) .done) K99_4)) K99_2
@[simp] def W99_5 := @C.wpe _ _ K99_5.eq_1
def K99_6 : C := .cond 4 (.v 7) (.skip) (.exit 0)
@[simp] def W99_6 := @C.wpe _ _ K99_6.eq_1
def K99_7 : C := .seq (.seq (.pl <| .st (.ext 4 4) <|
    .st (.act none (.px (some 4) (.mv (.v 3)))) <|
    .st (.act none (.px (some 5) (.mv (.v 0)))) <|
    .st (.act none (.px (some 6) (.lenV (.v 5)))) <|
    .st (.act none (.px (some 7) (.bin .lss (.v 4) (.v 6)))) .done) K99_6) K99_5
@[simp] def W99_7 := @C.wpe _ _ K99_7.eq_1
def K99_8 : C := .block 0 (.loop 4 [2] K99_7)
@[simp] def W99_8 := @C.wpe _ _ K99_8.eq_1
def K99_9 : C := .seq (.seq (.pl <| .st (.ext 4 0) <|
    .st (.act none (.px (some 3) (.mv (.c (.int .i64 0))))) .done) K99_8) K99_1
@[simp] def W99_9 := @C.wpe _ _ K99_9.eq_1
def B_spec_l4In : C := .seq (.pl <| .st (.ext 4 0) <|
    .st (.act none (.px (some 2) (.mv (.c (.bool false))))) .done) K99_9
@[simp] def WB_spec_l4In := @C.wpe _ _ B_spec_l4In.eq_1
def R_spec_l4In : FIR := ⟨B_spec_l4In, 4, [(2, none)]⟩
theorem IR_spec_l4In : cfun Try.prog H_spec_l4In Try.f99 = some R_spec_l4In := by kernel_rfl
theorem EN_spec_l4In {args : List Value} {h : Heap} {k : Value → Heap → Prop} (hargs : args.length = 2) (hw : B_spec_l4In.wp Try.prog (retQ [(2, none)] k) (env0 args 4) h) : CallE Try.prog fn_spec_l4In args h k := enter Try.func99 rfl IR_spec_l4In hargs hw

def H_spec_l6Letters : Hint := ⟨[(0, false), (2, false), (3, false)], [[1]]⟩
def K73_1 : C := .seq (.pl <| .st (.ext 3 0) <|
    .st (.act none (.px (some 1) (.mv (.c (.bool true))))) .done) (.ret)
@[simp] def W73_1 := @C.wpe _ _ K73_1.eq_1
def K73_2 : C := .pl <| .st (.ext 3 2) <|
    .st (.act none (.px (some 3) (.mv (.v 2)))) <|
    .st (.act none (.px (some 4) (.bin .add (.v 3) (.c (.int .i64 1))))) <|
    .st (.act none (.px (some 2) (.mv (.v 4)))) .done
@[simp] def W73_2 := @C.wpe _ _ K73_2.eq_1
def K73_3 : C := .seq (.pl <| .st (.ext 3 0) <|
    .st (.act none (.px (some 1) (.mv (.c (.bool false))))) .done) (.ret)
@[simp] def W73_3 := @C.wpe _ _ K73_3.eq_1
def K73_4 : C := .cond 3 (.v 14) K73_3 (.skip)
@[simp] def W73_4 := @C.wpe _ _ K73_4.eq_1
def K73_5 : C := .seq (.block 1 (.seq (.pl <| .st (.ext 3 12) <|
    .st (.act none (.px (some 3) (.mv (.v 0)))) <|
    .st (.act none (.px (some 4) (.mv (.v 2)))) <|
    .st (.act none (.px (some 5) (.ia 1 (.v 3) (.v 4)))) <|
    .st (.act none (.ld (some 6) (.v 5) none)) <|
    .st (.act none (.px (some 7) (.bin .lss (.v 6) (.c (.int .i64 0))))) <|
    .st (.act none (.px (some 8) (.mv (.v 7)))) <|
    .st (.act (some (.v 8, false)) (.px (some 9) (.mv (.v 0)))) <|
    .st (.act (some (.v 8, false)) (.px (some 10) (.mv (.v 2)))) <|
    .st (.act (some (.v 8, false)) (.px (some 11) (.ia 1 (.v 9) (.v 10)))) <|
    .st (.act (some (.v 8, false)) (.ld (some 12) (.v 11) none)) <|
    .st (.act (some (.v 8, false)) (.px (some 13) (.bin .gtr (.v 12) (.c (.int .i64 7))))) <|
    .st (.act none (.px (some 14) (.pick (.v 8) (.c (.bool true)) (.v 13)))) .done) K73_4)) K73_2
@[simp] def W73_5 := @C.wpe _ _ K73_5.eq_1
def K73_6 : C := .cond 3 (.v 6) (.skip) (.exit 0)
@[simp] def W73_6 := @C.wpe _ _ K73_6.eq_1
def K73_7 : C := .seq (.seq (.pl <| .st (.ext 3 4) <|
    .st (.act none (.px (some 3) (.mv (.v 2)))) <|
    .st (.act none (.px (some 4) (.mv (.v 0)))) <|
    .st (.act none (.px (some 5) (.lenV (.v 4)))) <|
    .st (.act none (.px (some 6) (.bin .lss (.v 3) (.v 5)))) .done) K73_6) K73_5
@[simp] def W73_7 := @C.wpe _ _ K73_7.eq_1
def K73_8 : C := .block 0 (.loop 3 [1] K73_7)
@[simp] def W73_8 := @C.wpe _ _ K73_8.eq_1
def K73_9 : C := .seq (.seq (.pl <| .st (.ext 3 0) <|
    .st (.act none (.px (some 2) (.mv (.c (.int .i64 0))))) .done) K73_8) K73_1
@[simp] def W73_9 := @C.wpe _ _ K73_9.eq_1
def B_spec_l6Letters : C := .seq (.pl <| .st (.ext 3 0) <|
    .st (.act none (.px (some 1) (.mv (.c (.bool false))))) .done) K73_9
@[simp] def WB_spec_l6Letters := @C.wpe _ _ B_spec_l6Letters.eq_1
def R_spec_l6Letters : FIR := ⟨B_spec_l6Letters, 3, [(1, none)]⟩
theorem IR_spec_l6Letters : cfun Try.prog H_spec_l6Letters Try.f73 = some R_spec_l6Letters := by kernel_rfl
theorem EN_spec_l6Letters {args : List Value} {h : Heap} {k : Value → Heap → Prop} (hargs : args.length = 1) (hw : B_spec_l6Letters.wp Try.prog (retQ [(1, none)] k) (env0 args 3) h) : CallE Try.prog fn_spec_l6Letters args h k := enter Try.func73 rfl IR_spec_l6Letters hargs hw


end Go.Proofs.Ytknkjplnngeebaa
