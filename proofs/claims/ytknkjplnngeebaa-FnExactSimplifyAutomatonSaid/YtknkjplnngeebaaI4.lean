/-
  More bodies of functions in the small language, as a program printed them.
-/
import Derived.Test.YtknkjplnngeebaaI1
namespace Go.Proofs.Ytknkjplnngeebaa
open Go
set_option linter.all false
set_option linter.defProp false
set_option maxRecDepth 1000000

def H_impl_AutomatonSame : Hint := ⟨[(0, false), (1, false), (2, true), (3, true), (4, false)], []⟩
def K89_1 : Pl := .st (.act none (.px (some 23) (.pick (.v 17) (.v 22) (.c (.bool false))))) <|
    .st (.act none (.px (some 4) (.mv (.v 23)))) .done
@[simp] def W89_1 := @Pl.wpe _ _ K89_1.eq_1
def K89_2 : Pl := .st (.act none (.px (some 16) (.pick (.v 10) (.v 15) (.c (.bool false))))) <|
    .st (.act none (.px (some 17) (.mv (.v 16)))) <|
    .st (.act (some (.v 17, true)) (.als 18 none 2)) <|
    .st (.act (some (.v 17, true)) (.pget (some 19) (some 18) 2 2 none)) <|
    .st (.act (some (.v 17, true)) (.als 20 none 3)) <|
    .st (.act (some (.v 17, true)) (.pget (some 21) (some 20) 3 2 none)) <|
    .st (.act (some (.v 17, true)) (.ex (some 22) (.call fn_slices_Equal_S_impl_Transition_impl_Transition [.v 19, .v 21]))) K89_1
@[simp] def W89_2 := @Pl.wpe _ _ K89_2.eq_1
def K89_3 : Pl := .st (.act none (.px (some 10) (.mv (.v 9)))) <|
    .st (.act (some (.v 10, true)) (.als 11 none 2)) <|
    .st (.act (some (.v 10, true)) (.pget (some 12) (some 11) 2 1 none)) <|
    .st (.act (some (.v 10, true)) (.als 13 none 3)) <|
    .st (.act (some (.v 10, true)) (.pget (some 14) (some 13) 3 1 none)) <|
    .st (.act (some (.v 10, true)) (.ex (some 15) (.call fn_slices_Equal_S_bool_bool [.v 12, .v 14]))) K89_2
@[simp] def W89_3 := @Pl.wpe _ _ K89_3.eq_1
def K89_4 : C := .seq (.pl <| .st (.ext 5 19) <|
    .st (.act none (.als 5 none 2)) <|
    .st (.act none (.pget (some 6) (some 5) 2 0 none)) <|
    .st (.act none (.als 7 none 3)) <|
    .st (.act none (.pget (some 8) (some 7) 3 0 none)) <|
    .st (.act none (.ex (some 9) (.call fn_slices_Equal_S_int_int [.v 6, .v 8]))) K89_3) (.ret)
@[simp] def W89_4 := @C.wpe _ _ K89_4.eq_1
def B_impl_AutomatonSame : C := .seq (.pl <| .st (.ext 5 0) <|
    .st (.act none (.pnew 2 (.v 0) [])) <|
    .st (.act none (.pnew 3 (.v 1) [])) <|
    .st (.act none (.px (some 4) (.mv (.c (.bool false))))) .done) K89_4
@[simp] def WB_impl_AutomatonSame := @C.wpe _ _ B_impl_AutomatonSame.eq_1
def R_impl_AutomatonSame : FIR := ⟨B_impl_AutomatonSame, 5, [(4, none)]⟩
theorem IR_impl_AutomatonSame : cfun Try.prog H_impl_AutomatonSame Try.f89 = some R_impl_AutomatonSame := by kernel_rfl
theorem EN_impl_AutomatonSame {args : List Value} {h : Heap} {k : Value → Heap → Prop} (hargs : args.length = 2) (hw : B_impl_AutomatonSame.wp Try.prog (retQ [(4, none)] k) (env0 args 5) h) : CallE Try.prog fn_impl_AutomatonSame args h k := enter Try.func89 rfl IR_impl_AutomatonSame hargs hw

def H_impl_Automaton_simplify : Hint := ⟨[(0, false), (1, true), (2, true), (3, true)], [[0, 3]]⟩
def K52_1 : C := .pl <| .st (.ext 4 1) <|
    .st (.act none (.pget (some 4) none 3 0 (some 3))) <|
    .st (.act none (.pset none 1 0 3 (.v 4))) .done
@[simp] def W52_1 := @C.wpe _ _ K52_1.eq_1
def K52_2 : C := .seq (.pl <| .st (.ext 4 1) <|
    .st (.act none (.pget (some 4) none 3 0 (some 3))) <|
    .st (.act none (.pset none 2 0 3 (.v 4))) .done) (.ret)
@[simp] def W52_2 := @C.wpe _ _ K52_2.eq_1
def K52_3 : C := .cond 4 (.v 6) K52_2 (.skip)
@[simp] def W52_3 := @C.wpe _ _ K52_3.eq_1
def K52_4 : C := .seq (.seq (.pl <| .st (.ext 4 3) <|
    .st (.act none (.pget (some 4) none 3 0 (some 3))) <|
    .st (.act none (.pget (some 5) none 1 0 (some 3))) <|
    .st (.act none (.ex (some 6) (.call fn_impl_AutomatonSame [.v 4, .v 5]))) .done) K52_3) K52_1
@[simp] def W52_4 := @C.wpe _ _ K52_4.eq_1
def K52_5 : Pl := .st (.act none (.pnew 3 (.c (.agg #[.slice none 0 0, .slice none 0 0, .slice none 0 0])) [])) <|
    .st (.act none (.pset none 3 0 3 (.v 6))) .done
@[simp] def W52_5 := @Pl.wpe _ _ K52_5.eq_1
def K52_6 : Pl := .st (.act none (.ex (some 6) (.call fn_impl_Automaton_merge [.v 5]))) K52_5
@[simp] def W52_6 := @Pl.wpe _ _ K52_6.eq_1
def K52_7 : C := .block 1 (.seq (.pl <| .st (.ext 4 3) <|
    .st (.act none (.pget (some 4) none 1 0 (some 3))) <|
    .st (.act none (.ex (some 5) (.call fn_impl_Automaton_trim [.v 4]))) K52_6) K52_4)
@[simp] def W52_7 := @C.wpe _ _ K52_7.eq_1
def K52_8 : C := .block 0 (.loop 4 [0, 3] K52_7)
@[simp] def W52_8 := @C.wpe _ _ K52_8.eq_1
def B_impl_Automaton_simplify : C := .seq (.pl <| .st (.ext 4 0) <|
    .st (.act none (.pnew 1 (.v 0) [])) <|
    .st (.act none (.pnew 2 (.c (.agg #[.slice none 0 0, .slice none 0 0, .slice none 0 0])) [])) .done) K52_8
@[simp] def WB_impl_Automaton_simplify := @C.wpe _ _ B_impl_Automaton_simplify.eq_1
def R_impl_Automaton_simplify : FIR := ⟨B_impl_Automaton_simplify, 4, [(2, some (some 3))]⟩
theorem IR_impl_Automaton_simplify : cfun Try.prog H_impl_Automaton_simplify Try.f52 = some R_impl_Automaton_simplify := by kernel_rfl
theorem EN_impl_Automaton_simplify {args : List Value} {h : Heap} {k : Value → Heap → Prop} (hargs : args.length = 1) (hw : B_impl_Automaton_simplify.wp Try.prog (retQ [(2, some (some 3))] k) (env0 args 4) h) : CallE Try.prog fn_impl_Automaton_simplify args h k := enter Try.func52 rfl IR_impl_Automaton_simplify hargs hw

def H_impl_SimplifyAutomaton : Hint := ⟨[(0, false), (1, true), (2, true), (3, false)], []⟩
def K24_1 : Pl := .st (.act none (.pset none 2 0 3 (.v 5))) <|
    .st (.act none (.px (some 3) (.mv (.c (.bool true))))) .done
@[simp] def W24_1 := @Pl.wpe _ _ K24_1.eq_1
def K24_2 : C := .seq (.pl <| .st (.ext 4 2) <|
    .st (.act none (.pget (some 4) none 1 0 (some 3))) <|
    .st (.act none (.ex (some 5) (.call fn_impl_Automaton_simplify [.v 4]))) K24_1) (.ret)
@[simp] def W24_2 := @C.wpe _ _ K24_2.eq_1
def K24_3 : C := .seq (.pl <| .st (.ext 4 1) <|
    .st (.act none (.px (some 4) (.build [.slice none 0 0, .slice none 0 0, .slice none 0 0] []))) <|
    .st (.act none (.pset none 2 0 3 (.v 4))) <|
    .st (.act none (.px (some 3) (.mv (.c (.bool false))))) .done) (.ret)
@[simp] def W24_3 := @C.wpe _ _ K24_3.eq_1
def K24_4 : C := .cond 4 (.v 6) K24_3 (.skip)
@[simp] def W24_4 := @C.wpe _ _ K24_4.eq_1
def K24_5 : Pl := .st (.act none (.px (some 6) (.un .not (.v 5)))) .done
@[simp] def W24_5 := @Pl.wpe _ _ K24_5.eq_1
def K24_6 : C := .seq (.seq (.pl <| .st (.ext 4 3) <|
    .st (.act none (.pget (some 4) none 1 0 (some 3))) <|
    .st (.act none (.ex (some 5) (.call fn_impl_AutomatonValid [.v 4]))) K24_5) K24_4) K24_2
@[simp] def W24_6 := @C.wpe _ _ K24_6.eq_1
def B_impl_SimplifyAutomaton : C := .seq (.pl <| .st (.ext 4 0) <|
    .st (.act none (.pnew 1 (.v 0) [])) <|
    .st (.act none (.pnew 2 (.c (.agg #[.slice none 0 0, .slice none 0 0, .slice none 0 0])) [])) <|
    .st (.act none (.px (some 3) (.mv (.c (.bool false))))) .done) K24_6
@[simp] def WB_impl_SimplifyAutomaton := @C.wpe _ _ B_impl_SimplifyAutomaton.eq_1
def R_impl_SimplifyAutomaton : FIR := ⟨B_impl_SimplifyAutomaton, 4, [(2, some (some 3)), (3, none)]⟩
theorem IR_impl_SimplifyAutomaton : cfun Try.prog H_impl_SimplifyAutomaton Try.f24 = some R_impl_SimplifyAutomaton := by kernel_rfl
theorem EN_impl_SimplifyAutomaton {args : List Value} {h : Heap} {k : Value → Heap → Prop} (hargs : args.length = 1) (hw : B_impl_SimplifyAutomaton.wp Try.prog (retQ [(2, some (some 3)), (3, none)] k) (env0 args 4) h) : CallE Try.prog fn_impl_SimplifyAutomaton args h k := enter Try.func24 rfl IR_impl_SimplifyAutomaton hargs hw

def H_laws_FnExactSimplifyAutomaton : Hint := ⟨[(0, false), (1, true), (2, false), (3, false), (4, true), (5, false), (6, true), (7, true), (8, false), (9, false), (10, false), (11, false), (12, true), (13, false)], []⟩
def K6_1 : C := .seq (.pl <| .st (.ext 14 0) <|
    .st (.act none (.px (some 2) (.mv (.c (.bool true))))) .done) (.ret)
@[simp] def W6_1 := @C.wpe _ _ K6_1.eq_1
def K6_2 : C := .seq (.pl <| .st (.ext 14 0) <|
    .st (.act none (.px (some 2) (.mv (.c (.bool false))))) .done) (.ret)
@[simp] def W6_2 := @C.wpe _ _ K6_2.eq_1
def K6_3 : C := .cond 14 (.v 16) K6_2 (.skip)
@[simp] def W6_3 := @C.wpe _ _ K6_3.eq_1
def K6_4 : C := .seq (.seq (.pl <| .st (.ext 14 3) <|
    .st (.act none (.px (some 14) (.mv (.v 11)))) <|
    .st (.act none (.px (some 15) (.mv (.v 10)))) <|
    .st (.act none (.px (some 16) (.bin .neq (.v 14) (.v 15)))) .done) K6_3) K6_1
@[simp] def W6_4 := @C.wpe _ _ K6_4.eq_1
def K6_5 : C := .seq (.pl <| .st (.ext 14 0) <|
    .st (.act none (.px (some 2) (.mv (.c (.bool false))))) .done) (.ret)
@[simp] def W6_5 := @C.wpe _ _ K6_5.eq_1
def K6_6 : C := .cond 14 (.v 15) K6_5 (.skip)
@[simp] def W6_6 := @C.wpe _ _ K6_6.eq_1
def K6_7 : C := .seq (.seq (.pl <| .st (.ext 14 2) <|
    .st (.act none (.px (some 14) (.mv (.v 11)))) <|
    .st (.act none (.px (some 15) (.bin .lss (.v 14) (.c (.int .i64 0))))) .done) K6_6) K6_4
@[simp] def W6_7 := @C.wpe _ _ K6_7.eq_1
def K6_8 : Pl := .st (.act none (.px (some 11) (.mv (.v 16)))) .done
@[simp] def W6_8 := @Pl.wpe _ _ K6_8.eq_1
def K6_9 : C := .seq (.pl <| .st (.ext 14 3) <|
    .st (.act none (.pget (some 14) none 7 0 (some 3))) <|
    .st (.act none (.px (some 15) (.mv (.v 11)))) <|
    .st (.act none (.ex (some 16) (.call fn_laws_heldAutomaton [.v 14, .v 15]))) K6_8) K6_7
@[simp] def W6_9 := @C.wpe _ _ K6_9.eq_1
def K6_10 : C := .seq (.pl <| .st (.ext 14 0) <|
    .st (.act none (.px (some 11) (.mv (.c (.int .i64 1))))) .done) K6_9
@[simp] def W6_10 := @C.wpe _ _ K6_10.eq_1
def K6_11 : C := .seq (.pl <| .st (.ext 14 0) <|
    .st (.act none (.px (some 2) (.mv (.c (.bool false))))) .done) (.ret)
@[simp] def W6_11 := @C.wpe _ _ K6_11.eq_1
def K6_12 : C := .cond 14 (.v 22) K6_11 (.skip)
@[simp] def W6_12 := @C.wpe _ _ K6_12.eq_1
def K6_13 : Pl := .st (.act none (.px (some 17) (.un .not (.v 16)))) <|
    .st (.act none (.px (some 18) (.mv (.v 17)))) <|
    .st (.act (some (.v 18, false)) (.px (some 19) (.mv (.v 13)))) <|
    .st (.act (some (.v 18, false)) (.px (some 20) (.mv (.v 5)))) <|
    .st (.act (some (.v 18, false)) (.px (some 21) (.eqb true (.v 19) (.v 20)))) <|
    .st (.act none (.px (some 22) (.pick (.v 18) (.c (.bool true)) (.v 21)))) .done
@[simp] def W6_13 := @Pl.wpe _ _ K6_13.eq_1
def K6_14 : C := .seq (.seq (.pl <| .st (.ext 14 9) <|
    .st (.act none (.pget (some 14) none 12 0 (some 3))) <|
    .st (.act none (.pget (some 15) none 4 0 (some 3))) <|
    .st (.act none (.ex (some 16) (.call fn_laws_eqAutomaton [.v 14, .v 15]))) K6_13) K6_12) K6_10
@[simp] def W6_14 := @C.wpe _ _ K6_14.eq_1
def K6_15 : Pl := .st (.act none (.px (some 17) (.mv (.v 16)))) <|
    .st (.act none (.px (some 18) (.extract 0 (.v 17)))) <|
    .st (.act none (.px (some 19) (.extract 1 (.v 17)))) <|
    .st (.act none (.pnew 12 (.c (.agg #[.slice none 0 0, .slice none 0 0, .slice none 0 0])) [])) <|
    .st (.act none (.pset none 12 0 3 (.v 18))) <|
    .st (.act none (.px (some 13) (.mv (.v 19)))) .done
@[simp] def W6_15 := @Pl.wpe _ _ K6_15.eq_1
def K6_16 : Pl := .st (.act none (.ex (some 16) (.call fn_impl_SimplifyAutomaton [.v 15]))) K6_15
@[simp] def W6_16 := @Pl.wpe _ _ K6_16.eq_1
def K6_17 : C := .seq (.pl <| .st (.ext 14 6) <|
    .st (.act none (.pget (some 14) none 1 0 (some 3))) <|
    .st (.act none (.ex (some 15) (.call fn_laws_toAutomaton [.v 14]))) K6_16) K6_14
@[simp] def W6_17 := @C.wpe _ _ K6_17.eq_1
def K6_18 : C := .seq (.pl <| .st (.ext 14 0) <|
    .st (.act none (.px (some 2) (.mv (.c (.bool false))))) .done) (.ret)
@[simp] def W6_18 := @C.wpe _ _ K6_18.eq_1
def K6_19 : C := .cond 14 (.v 16) K6_18 (.skip)
@[simp] def W6_19 := @C.wpe _ _ K6_19.eq_1
def K6_20 : C := .seq (.seq (.pl <| .st (.ext 14 3) <|
    .st (.act none (.px (some 14) (.mv (.v 11)))) <|
    .st (.act none (.px (some 15) (.mv (.v 10)))) <|
    .st (.act none (.px (some 16) (.bin .neq (.v 14) (.v 15)))) .done) K6_19) K6_17
@[simp] def W6_20 := @C.wpe _ _ K6_20.eq_1
def K6_21 : C := .seq (.pl <| .st (.ext 14 0) <|
    .st (.act none (.px (some 2) (.mv (.c (.bool false))))) .done) (.ret)
@[simp] def W6_21 := @C.wpe _ _ K6_21.eq_1
def K6_22 : C := .cond 14 (.v 15) K6_21 (.skip)
@[simp] def W6_22 := @C.wpe _ _ K6_22.eq_1
def K6_23 : C := .seq (.seq (.pl <| .st (.ext 14 2) <|
    .st (.act none (.px (some 14) (.mv (.v 11)))) <|
    .st (.act none (.px (some 15) (.bin .lss (.v 14) (.c (.int .i64 0))))) .done) K6_22) K6_20
@[simp] def W6_23 := @C.wpe _ _ K6_23.eq_1
def K6_24 : Pl := .st (.act none (.px (some 11) (.mv (.v 16)))) .done
@[simp] def W6_24 := @Pl.wpe _ _ K6_24.eq_1
def K6_25 : C := .seq (.pl <| .st (.ext 14 3) <|
    .st (.act none (.pget (some 14) none 7 0 (some 3))) <|
    .st (.act none (.px (some 15) (.mv (.v 11)))) <|
    .st (.act none (.ex (some 16) (.call fn_laws_heldAutomaton [.v 14, .v 15]))) K6_24) K6_23
@[simp] def W6_25 := @C.wpe _ _ K6_25.eq_1
def K6_26 : C := .seq (.pl <| .st (.ext 14 0) <|
    .st (.act none (.px (some 11) (.mv (.c (.int .i64 1))))) .done) K6_25
@[simp] def W6_26 := @C.wpe _ _ K6_26.eq_1
def K6_27 : Pl := .st (.act none (.px (some 10) (.mv (.v 16)))) .done
@[simp] def W6_27 := @Pl.wpe _ _ K6_27.eq_1
def K6_28 : C := .seq (.pl <| .st (.ext 14 3) <|
    .st (.act none (.pget (some 14) none 7 0 (some 3))) <|
    .st (.act none (.px (some 15) (.mv (.v 10)))) <|
    .st (.act none (.ex (some 16) (.call fn_laws_markAutomaton [.v 14, .v 15]))) K6_27) K6_26
@[simp] def W6_28 := @C.wpe _ _ K6_28.eq_1
def K6_29 : C := .seq (.pl <| .st (.ext 14 0) <|
    .st (.act none (.px (some 10) (.mv (.c (.int .i64 1))))) .done) K6_28
@[simp] def W6_29 := @C.wpe _ _ K6_29.eq_1
def K6_30 : C := .seq (.pl <| .st (.ext 14 0) <|
    .st (.act none (.px (some 2) (.mv (.c (.bool false))))) .done) (.ret)
@[simp] def W6_30 := @C.wpe _ _ K6_30.eq_1
def K6_31 : C := .cond 14 (.v 26) K6_30 (.skip)
@[simp] def W6_31 := @C.wpe _ _ K6_31.eq_1
def K6_32 : Pl := .st (.act (some (.v 16, false)) (.px (some 20) (.un .not (.v 19)))) <|
    .st (.act none (.px (some 21) (.pick (.v 16) (.c (.bool true)) (.v 20)))) <|
    .st (.act none (.px (some 22) (.mv (.v 21)))) <|
    .st (.act (some (.v 22, false)) (.px (some 23) (.mv (.v 8)))) <|
    .st (.act (some (.v 22, false)) (.px (some 24) (.mv (.v 5)))) <|
    .st (.act (some (.v 22, false)) (.px (some 25) (.eqb true (.v 23) (.v 24)))) <|
    .st (.act none (.px (some 26) (.pick (.v 22) (.c (.bool true)) (.v 25)))) .done
@[simp] def W6_32 := @Pl.wpe _ _ K6_32.eq_1
def K6_33 : C := .seq (.seq (.pl <| .st (.ext 14 13) <|
    .st (.act none (.px (some 14) (.mv (.v 9)))) <|
    .st (.act none (.px (some 15) (.bin .lss (.v 14) (.c (.int .i64 0))))) <|
    .st (.act none (.px (some 16) (.mv (.v 15)))) <|
    .st (.act (some (.v 16, false)) (.pget (some 17) none 7 0 (some 3))) <|
    .st (.act (some (.v 16, false)) (.pget (some 18) none 4 0 (some 3))) <|
    .st (.act (some (.v 16, false)) (.ex (some 19) (.call fn_laws_eqAutomaton [.v 17, .v 18]))) K6_32) K6_31) K6_29
@[simp] def W6_33 := @C.wpe _ _ K6_33.eq_1
def K6_34 : Pl := .st (.act none (.px (some 9) (.mv (.v 16)))) .done
@[simp] def W6_34 := @Pl.wpe _ _ K6_34.eq_1
def K6_35 : C := .seq (.pl <| .st (.ext 14 3) <|
    .st (.act none (.pget (some 14) none 6 0 (some 3))) <|
    .st (.act none (.px (some 15) (.mv (.v 9)))) <|
    .st (.act none (.ex (some 16) (.call fn_laws_markAutomaton [.v 14, .v 15]))) K6_34) K6_33
@[simp] def W6_35 := @C.wpe _ _ K6_35.eq_1
def K6_36 : C := .seq (.pl <| .st (.ext 14 0) <|
    .st (.act none (.px (some 9) (.mv (.c (.int .i64 1))))) .done) K6_35
@[simp] def W6_36 := @C.wpe _ _ K6_36.eq_1
def K6_37 : C := .seq (.pl <| .st (.ext 14 0) <|
    .st (.act none (.px (some 2) (.mv (.c (.bool false))))) .done) (.ret)
@[simp] def W6_37 := @C.wpe _ _ K6_37.eq_1
def K6_38 : C := .cond 14 (.v 18) K6_37 (.skip)
@[simp] def W6_38 := @C.wpe _ _ K6_38.eq_1
def K6_39 : Pl := .st (.act none (.px (some 18) (.un .not (.v 17)))) .done
@[simp] def W6_39 := @Pl.wpe _ _ K6_39.eq_1
def K6_40 : Pl := .st (.act none (.ex (some 17) (.call fn_laws_eqAutomaton [.v 14, .v 16]))) K6_39
@[simp] def W6_40 := @Pl.wpe _ _ K6_40.eq_1
def K6_41 : C := .seq (.seq (.pl <| .st (.ext 14 5) <|
    .st (.act none (.pget (some 14) none 6 0 (some 3))) <|
    .st (.act none (.pget (some 15) none 1 0 (some 3))) <|
    .st (.act none (.ex (some 16) (.call fn_laws_toAutomaton [.v 15]))) K6_40) K6_38) K6_36
@[simp] def W6_41 := @C.wpe _ _ K6_41.eq_1
def K6_42 : C := .seq (.pl <| .st (.ext 14 0) <|
    .st (.act none (.px (some 2) (.mv (.c (.bool false))))) .done) (.ret)
@[simp] def W6_42 := @C.wpe _ _ K6_42.eq_1
def K6_43 : C := .cond 14 (.v 22) K6_42 (.skip)
@[simp] def W6_43 := @C.wpe _ _ K6_43.eq_1
def K6_44 : Pl := .st (.act none (.px (some 17) (.un .not (.v 16)))) <|
    .st (.act none (.px (some 18) (.mv (.v 17)))) <|
    .st (.act (some (.v 18, false)) (.px (some 19) (.mv (.v 8)))) <|
    .st (.act (some (.v 18, false)) (.px (some 20) (.mv (.v 5)))) <|
    .st (.act (some (.v 18, false)) (.px (some 21) (.eqb true (.v 19) (.v 20)))) <|
    .st (.act none (.px (some 22) (.pick (.v 18) (.c (.bool true)) (.v 21)))) .done
@[simp] def W6_44 := @Pl.wpe _ _ K6_44.eq_1
def K6_45 : C := .seq (.seq (.pl <| .st (.ext 14 9) <|
    .st (.act none (.pget (some 14) none 7 0 (some 3))) <|
    .st (.act none (.pget (some 15) none 4 0 (some 3))) <|
    .st (.act none (.ex (some 16) (.call fn_laws_eqAutomaton [.v 14, .v 15]))) K6_44) K6_43) K6_41
@[simp] def W6_45 := @C.wpe _ _ K6_45.eq_1
def K6_46 : Pl := .st (.act none (.px (some 16) (.mv (.v 15)))) <|
    .st (.act none (.px (some 17) (.extract 0 (.v 16)))) <|
    .st (.act none (.px (some 18) (.extract 1 (.v 16)))) <|
    .st (.act none (.pnew 7 (.c (.agg #[.slice none 0 0, .slice none 0 0, .slice none 0 0])) [])) <|
    .st (.act none (.pset none 7 0 3 (.v 17))) <|
    .st (.act none (.px (some 8) (.mv (.v 18)))) .done
@[simp] def W6_46 := @Pl.wpe _ _ K6_46.eq_1
def K6_47 : C := .seq (.pl <| .st (.ext 14 5) <|
    .st (.act none (.pget (some 14) none 6 0 (some 3))) <|
    .st (.act none (.ex (some 15) (.call fn_impl_SimplifyAutomaton [.v 14]))) K6_46) K6_45
@[simp] def W6_47 := @C.wpe _ _ K6_47.eq_1
def K6_48 : Pl := .st (.act none (.pnew 6 (.c (.agg #[.slice none 0 0, .slice none 0 0, .slice none 0 0])) [])) <|
    .st (.act none (.pset none 6 0 3 (.v 15))) .done
@[simp] def W6_48 := @Pl.wpe _ _ K6_48.eq_1
def K6_49 : C := .seq (.pl <| .st (.ext 14 2) <|
    .st (.act none (.pget (some 14) none 1 0 (some 3))) <|
    .st (.act none (.ex (some 15) (.call fn_laws_toAutomaton [.v 14]))) K6_48) K6_47
@[simp] def W6_49 := @C.wpe _ _ K6_49.eq_1
def K6_50 : Pl := .st (.act none (.px (some 17) (.mv (.v 16)))) <|
    .st (.act none (.px (some 18) (.extract 0 (.v 17)))) <|
    .st (.act none (.px (some 19) (.extract 1 (.v 17)))) <|
    .st (.act none (.pnew 4 (.c (.agg #[.slice none 0 0, .slice none 0 0, .slice none 0 0])) [])) <|
    .st (.act none (.pset none 4 0 3 (.v 18))) <|
    .st (.act none (.px (some 5) (.mv (.v 19)))) .done
@[simp] def W6_50 := @Pl.wpe _ _ K6_50.eq_1
def K6_51 : Pl := .st (.act none (.ex (some 16) (.call fn_spec_SimplifyAutomaton [.v 15]))) K6_50
@[simp] def W6_51 := @Pl.wpe _ _ K6_51.eq_1
def K6_52 : C := .seq (.pl <| .st (.ext 14 6) <|
    .st (.act none (.pget (some 14) none 1 0 (some 3))) <|
    .st (.act none (.ex (some 15) (.call fn_laws_toAutomaton [.v 14]))) K6_51) K6_49
@[simp] def W6_52 := @C.wpe _ _ K6_52.eq_1
def K6_53 : C := .seq (.pl <| .st (.ext 14 0) <|
    .st (.act none (.px (some 2) (.mv (.c (.bool true))))) .done) (.ret)
@[simp] def W6_53 := @C.wpe _ _ K6_53.eq_1
def K6_54 : C := .cond 14 (.v 15) K6_53 (.skip)
@[simp] def W6_54 := @C.wpe _ _ K6_54.eq_1
def K6_55 : C := .seq (.seq (.pl <| .st (.ext 14 2) <|
    .st (.act none (.px (some 14) (.mv (.v 3)))) <|
    .st (.act none (.px (some 15) (.bin .lss (.v 14) (.c (.int .i64 0))))) .done) K6_54) K6_52
@[simp] def W6_55 := @C.wpe _ _ K6_55.eq_1
def K6_56 : Pl := .st (.act none (.px (some 3) (.mv (.v 16)))) .done
@[simp] def W6_56 := @Pl.wpe _ _ K6_56.eq_1
def K6_57 : C := .seq (.pl <| .st (.ext 14 3) <|
    .st (.act none (.pget (some 14) none 1 0 (some 3))) <|
    .st (.act none (.px (some 15) (.mv (.v 3)))) <|
    .st (.act none (.ex (some 16) (.call fn_laws_szAutomaton [.v 14, .v 15]))) K6_56) K6_55
@[simp] def W6_57 := @C.wpe _ _ K6_57.eq_1
def K6_58 : C := .seq (.pl <| .st (.ext 14 0) <|
    .st (.act none (.px (some 3) (.mv (.c (.int .i64 1048576))))) .done) K6_57
@[simp] def W6_58 := @C.wpe _ _ K6_58.eq_1
def B_laws_FnExactSimplifyAutomaton : C := .seq (.pl <| .st (.ext 14 0) <|
    .st (.act none (.pnew 1 (.v 0) [])) <|
    .st (.act none (.px (some 2) (.mv (.c (.bool false))))) .done) K6_58
@[simp] def WB_laws_FnExactSimplifyAutomaton := @C.wpe _ _ B_laws_FnExactSimplifyAutomaton.eq_1
def R_laws_FnExactSimplifyAutomaton : FIR := ⟨B_laws_FnExactSimplifyAutomaton, 14, [(2, none)]⟩
theorem IR_laws_FnExactSimplifyAutomaton : cfun Try.prog H_laws_FnExactSimplifyAutomaton Try.f6 = some R_laws_FnExactSimplifyAutomaton := by kernel_rfl
theorem EN_laws_FnExactSimplifyAutomaton {args : List Value} {h : Heap} {k : Value → Heap → Prop} (hargs : args.length = 1) (hw : B_laws_FnExactSimplifyAutomaton.wp Try.prog (retQ [(2, none)] k) (env0 args 14) h) : CallE Try.prog fn_laws_FnExactSimplifyAutomaton args h k := enter Try.func6 rfl IR_laws_FnExactSimplifyAutomaton hargs hw

def H_slices_Equal_S_bool_bool : Hint := ⟨[(0, false), (1, false), (4, false), (5, false), (12, false), (13, false)], [[2, 3]]⟩
def K114_1 : C := .seq (.pl <| .st (.ext 6 0) <|
    .st (.act none (.px (some 2) (.mv (.c (.bool true))))) .done) (.ret)
@[simp] def W114_1 := @C.wpe _ _ K114_1.eq_1
def K114_2 : C := .pl <| .st (.ext 6 1) <|
    .st (.act none (.px (some 6) (.bin .add (.v 5) (.c (.int .i64 1))))) <|
    .st (.act none (.px (some 5) (.mv (.v 6)))) .done
@[simp] def W114_2 := @C.wpe _ _ K114_2.eq_1
def K114_3 : C := .seq (.pl <| .st (.ext 6 0) <|
    .st (.act none (.px (some 2) (.mv (.c (.bool false))))) .done) (.ret)
@[simp] def W114_3 := @C.wpe _ _ K114_3.eq_1
def K114_4 : C := .cond 6 (.v 14) K114_3 (.skip)
@[simp] def W114_4 := @C.wpe _ _ K114_4.eq_1
def K114_5 : C := .seq (.pl <| .st (.ext 6 9) <|
    .st (.act none (.px (some 6) (.mv (.v 0)))) <|
    .st (.act none (.px (some 7) (.mv (.v 3)))) <|
    .st (.act none (.px (some 8) (.ia 1 (.v 6) (.v 7)))) <|
    .st (.act none (.ld (some 9) (.v 8) none)) <|
    .st (.act none (.px (some 10) (.mv (.v 1)))) <|
    .st (.act none (.px (some 11) (.mv (.v 3)))) <|
    .st (.act none (.px (some 12) (.ia 1 (.v 10) (.v 11)))) <|
    .st (.act none (.ld (some 13) (.v 12) none)) <|
    .st (.act none (.px (some 14) (.eqb true (.v 9) (.v 13)))) .done) K114_4
@[simp] def W114_5 := @C.wpe _ _ K114_5.eq_1
def K114_6 : C := .seq (.block 1 (.seq (.pl <| .st (.ext 6 1) <|
    .st (.act none (.px (some 6) (.mv (.v 5)))) <|
    .st (.act none (.px (some 3) (.mv (.v 6)))) .done) K114_5)) K114_2
@[simp] def W114_6 := @C.wpe _ _ K114_6.eq_1
def K114_7 : C := .seq (.cond 6 (.v 6) (.skip) (.exit 0)) K114_6
@[simp] def W114_7 := @C.wpe _ _ K114_7.eq_1
def K114_8 : C := .seq (.pl <| .st (.ext 6 1) <|
    .st (.act none (.px (some 6) (.bin .lss (.v 5) (.v 4)))) .done) K114_7
@[simp] def W114_8 := @C.wpe _ _ K114_8.eq_1
def K114_9 : C := .block 0 (.loop 6 [2, 3] K114_8)
@[simp] def W114_9 := @C.wpe _ _ K114_9.eq_1
def K114_10 : C := .seq (.seq (.pl <| .st (.ext 6 1) <|
    .st (.act none (.px (some 6) (.mv (.v 0)))) <|
    .st (.act none (.px (some 4) (.lenV (.v 6)))) <|
    .st (.act none (.px (some 5) (.mv (.c (.int .i64 0))))) .done) K114_9) K114_1
@[simp] def W114_10 := @C.wpe _ _ K114_10.eq_1
def K114_11 : C := .seq (.pl <| .st (.ext 6 0) <|
    .st (.act none (.px (some 2) (.mv (.c (.bool false))))) .done) (.ret)
@[simp] def W114_11 := @C.wpe _ _ K114_11.eq_1
def K114_12 : C := .cond 6 (.v 10) K114_11 (.skip)
@[simp] def W114_12 := @C.wpe _ _ K114_12.eq_1
def K114_13 : C := .seq (.seq (.pl <| .st (.ext 6 5) <|
    .st (.act none (.px (some 6) (.mv (.v 0)))) <|
    .st (.act none (.px (some 7) (.lenV (.v 6)))) <|
    .st (.act none (.px (some 8) (.mv (.v 1)))) <|
    .st (.act none (.px (some 9) (.lenV (.v 8)))) <|
    .st (.act none (.px (some 10) (.bin .neq (.v 7) (.v 9)))) .done) K114_12) K114_10
@[simp] def W114_13 := @C.wpe _ _ K114_13.eq_1
def B_slices_Equal_S_bool_bool : C := .seq (.pl <| .st (.ext 6 0) <|
    .st (.act none (.px (some 2) (.mv (.c (.bool false))))) .done) K114_13
@[simp] def WB_slices_Equal_S_bool_bool := @C.wpe _ _ B_slices_Equal_S_bool_bool.eq_1
def R_slices_Equal_S_bool_bool : FIR := ⟨B_slices_Equal_S_bool_bool, 6, [(2, none)]⟩
theorem IR_slices_Equal_S_bool_bool : cfun Try.prog H_slices_Equal_S_bool_bool Try.f114 = some R_slices_Equal_S_bool_bool := by kernel_rfl
theorem EN_slices_Equal_S_bool_bool {args : List Value} {h : Heap} {k : Value → Heap → Prop} (hargs : args.length = 2) (hw : B_slices_Equal_S_bool_bool.wp Try.prog (retQ [(2, none)] k) (env0 args 6) h) : CallE Try.prog fn_slices_Equal_S_bool_bool args h k := enter Try.func114 rfl IR_slices_Equal_S_bool_bool hargs hw

def H_slices_Equal_S_impl_Transition_impl_Transition : Hint := ⟨[(0, false), (1, false), (4, false), (5, false), (12, false), (13, false)], [[2, 3]]⟩
def K115_1 : C := .seq (.pl <| .st (.ext 6 0) <|
    .st (.act none (.px (some 2) (.mv (.c (.bool true))))) .done) (.ret)
@[simp] def W115_1 := @C.wpe _ _ K115_1.eq_1
def K115_2 : C := .pl <| .st (.ext 6 1) <|
    .st (.act none (.px (some 6) (.bin .add (.v 5) (.c (.int .i64 1))))) <|
    .st (.act none (.px (some 5) (.mv (.v 6)))) .done
@[simp] def W115_2 := @C.wpe _ _ K115_2.eq_1
def K115_3 : C := .seq (.pl <| .st (.ext 6 0) <|
    .st (.act none (.px (some 2) (.mv (.c (.bool false))))) .done) (.ret)
@[simp] def W115_3 := @C.wpe _ _ K115_3.eq_1
def K115_4 : C := .cond 6 (.v 14) K115_3 (.skip)
@[simp] def W115_4 := @C.wpe _ _ K115_4.eq_1
def K115_5 : C := .seq (.pl <| .st (.ext 6 9) <|
    .st (.act none (.px (some 6) (.mv (.v 0)))) <|
    .st (.act none (.px (some 7) (.mv (.v 3)))) <|
    .st (.act none (.px (some 8) (.ia 4 (.v 6) (.v 7)))) <|
    .st (.act none (.ld (some 9) (.v 8) (some 4))) <|
    .st (.act none (.px (some 10) (.mv (.v 1)))) <|
    .st (.act none (.px (some 11) (.mv (.v 3)))) <|
    .st (.act none (.px (some 12) (.ia 4 (.v 10) (.v 11)))) <|
    .st (.act none (.ld (some 13) (.v 12) (some 4))) <|
    .st (.act none (.px (some 14) (.eqf true [.i, .i, .i, .i] (.v 9) (.v 13)))) .done) K115_4
@[simp] def W115_5 := @C.wpe _ _ K115_5.eq_1
def K115_6 : C := .seq (.block 1 (.seq (.pl <| .st (.ext 6 1) <|
    .st (.act none (.px (some 6) (.mv (.v 5)))) <|
    .st (.act none (.px (some 3) (.mv (.v 6)))) .done) K115_5)) K115_2
@[simp] def W115_6 := @C.wpe _ _ K115_6.eq_1
def K115_7 : C := .seq (.cond 6 (.v 6) (.skip) (.exit 0)) K115_6
@[simp] def W115_7 := @C.wpe _ _ K115_7.eq_1
def K115_8 : C := .seq (.pl <| .st (.ext 6 1) <|
    .st (.act none (.px (some 6) (.bin .lss (.v 5) (.v 4)))) .done) K115_7
@[simp] def W115_8 := @C.wpe _ _ K115_8.eq_1
def K115_9 : C := .block 0 (.loop 6 [2, 3] K115_8)
@[simp] def W115_9 := @C.wpe _ _ K115_9.eq_1
def K115_10 : C := .seq (.seq (.pl <| .st (.ext 6 1) <|
    .st (.act none (.px (some 6) (.mv (.v 0)))) <|
    .st (.act none (.px (some 4) (.lenV (.v 6)))) <|
    .st (.act none (.px (some 5) (.mv (.c (.int .i64 0))))) .done) K115_9) K115_1
@[simp] def W115_10 := @C.wpe _ _ K115_10.eq_1
def K115_11 : C := .seq (.pl <| .st (.ext 6 0) <|
    .st (.act none (.px (some 2) (.mv (.c (.bool false))))) .done) (.ret)
@[simp] def W115_11 := @C.wpe _ _ K115_11.eq_1
def K115_12 : C := .cond 6 (.v 10) K115_11 (.skip)
@[simp] def W115_12 := @C.wpe _ _ K115_12.eq_1
def K115_13 : C := .seq (.seq (.pl <| .st (.ext 6 5) <|
    .st (.act none (.px (some 6) (.mv (.v 0)))) <|
    .st (.act none (.px (some 7) (.lenV (.v 6)))) <|
    .st (.act none (.px (some 8) (.mv (.v 1)))) <|
    .st (.act none (.px (some 9) (.lenV (.v 8)))) <|
    .st (.act none (.px (some 10) (.bin .neq (.v 7) (.v 9)))) .done) K115_12) K115_10
@[simp] def W115_13 := @C.wpe _ _ K115_13.eq_1
def B_slices_Equal_S_impl_Transition_impl_Transition : C := .seq (.pl <| .st (.ext 6 0) <|
    .st (.act none (.px (some 2) (.mv (.c (.bool false))))) .done) K115_13
@[simp] def WB_slices_Equal_S_impl_Transition_impl_Transition := @C.wpe _ _ B_slices_Equal_S_impl_Transition_impl_Transition.eq_1
def R_slices_Equal_S_impl_Transition_impl_Transition : FIR := ⟨B_slices_Equal_S_impl_Transition_impl_Transition, 6, [(2, none)]⟩
theorem IR_slices_Equal_S_impl_Transition_impl_Transition : cfun Try.prog H_slices_Equal_S_impl_Transition_impl_Transition Try.f115 = some R_slices_Equal_S_impl_Transition_impl_Transition := by kernel_rfl
theorem EN_slices_Equal_S_impl_Transition_impl_Transition {args : List Value} {h : Heap} {k : Value → Heap → Prop} (hargs : args.length = 2) (hw : B_slices_Equal_S_impl_Transition_impl_Transition.wp Try.prog (retQ [(2, none)] k) (env0 args 6) h) : CallE Try.prog fn_slices_Equal_S_impl_Transition_impl_Transition args h k := enter Try.func115 rfl IR_slices_Equal_S_impl_Transition_impl_Transition hargs hw

def H_slices_Equal_S_int_int : Hint := ⟨[(0, false), (1, false), (4, false), (5, false), (12, false), (13, false)], [[2, 3]]⟩
def K113_1 : C := .seq (.pl <| .st (.ext 6 0) <|
    .st (.act none (.px (some 2) (.mv (.c (.bool true))))) .done) (.ret)
@[simp] def W113_1 := @C.wpe _ _ K113_1.eq_1
def K113_2 : C := .pl <| .st (.ext 6 1) <|
    .st (.act none (.px (some 6) (.bin .add (.v 5) (.c (.int .i64 1))))) <|
    .st (.act none (.px (some 5) (.mv (.v 6)))) .done
@[simp] def W113_2 := @C.wpe _ _ K113_2.eq_1
def K113_3 : C := .seq (.pl <| .st (.ext 6 0) <|
    .st (.act none (.px (some 2) (.mv (.c (.bool false))))) .done) (.ret)
@[simp] def W113_3 := @C.wpe _ _ K113_3.eq_1
def K113_4 : C := .cond 6 (.v 14) K113_3 (.skip)
@[simp] def W113_4 := @C.wpe _ _ K113_4.eq_1
def K113_5 : C := .seq (.pl <| .st (.ext 6 9) <|
    .st (.act none (.px (some 6) (.mv (.v 0)))) <|
    .st (.act none (.px (some 7) (.mv (.v 3)))) <|
    .st (.act none (.px (some 8) (.ia 1 (.v 6) (.v 7)))) <|
    .st (.act none (.ld (some 9) (.v 8) none)) <|
    .st (.act none (.px (some 10) (.mv (.v 1)))) <|
    .st (.act none (.px (some 11) (.mv (.v 3)))) <|
    .st (.act none (.px (some 12) (.ia 1 (.v 10) (.v 11)))) <|
    .st (.act none (.ld (some 13) (.v 12) none)) <|
    .st (.act none (.px (some 14) (.bin .neq (.v 9) (.v 13)))) .done) K113_4
@[simp] def W113_5 := @C.wpe _ _ K113_5.eq_1
def K113_6 : C := .seq (.block 1 (.seq (.pl <| .st (.ext 6 1) <|
    .st (.act none (.px (some 6) (.mv (.v 5)))) <|
    .st (.act none (.px (some 3) (.mv (.v 6)))) .done) K113_5)) K113_2
@[simp] def W113_6 := @C.wpe _ _ K113_6.eq_1
def K113_7 : C := .seq (.cond 6 (.v 6) (.skip) (.exit 0)) K113_6
@[simp] def W113_7 := @C.wpe _ _ K113_7.eq_1
def K113_8 : C := .seq (.pl <| .st (.ext 6 1) <|
    .st (.act none (.px (some 6) (.bin .lss (.v 5) (.v 4)))) .done) K113_7
@[simp] def W113_8 := @C.wpe _ _ K113_8.eq_1
def K113_9 : C := .block 0 (.loop 6 [2, 3] K113_8)
@[simp] def W113_9 := @C.wpe _ _ K113_9.eq_1
def K113_10 : C := .seq (.seq (.pl <| .st (.ext 6 1) <|
    .st (.act none (.px (some 6) (.mv (.v 0)))) <|
    .st (.act none (.px (some 4) (.lenV (.v 6)))) <|
    .st (.act none (.px (some 5) (.mv (.c (.int .i64 0))))) .done) K113_9) K113_1
@[simp] def W113_10 := @C.wpe _ _ K113_10.eq_1
def K113_11 : C := .seq (.pl <| .st (.ext 6 0) <|
    .st (.act none (.px (some 2) (.mv (.c (.bool false))))) .done) (.ret)
@[simp] def W113_11 := @C.wpe _ _ K113_11.eq_1
def K113_12 : C := .cond 6 (.v 10) K113_11 (.skip)
@[simp] def W113_12 := @C.wpe _ _ K113_12.eq_1
def K113_13 : C := .seq (.seq (.pl <| .st (.ext 6 5) <|
    .st (.act none (.px (some 6) (.mv (.v 0)))) <|
    .st (.act none (.px (some 7) (.lenV (.v 6)))) <|
    .st (.act none (.px (some 8) (.mv (.v 1)))) <|
    .st (.act none (.px (some 9) (.lenV (.v 8)))) <|
    .st (.act none (.px (some 10) (.bin .neq (.v 7) (.v 9)))) .done) K113_12) K113_10
@[simp] def W113_13 := @C.wpe _ _ K113_13.eq_1
def B_slices_Equal_S_int_int : C := .seq (.pl <| .st (.ext 6 0) <|
    .st (.act none (.px (some 2) (.mv (.c (.bool false))))) .done) K113_13
@[simp] def WB_slices_Equal_S_int_int := @C.wpe _ _ B_slices_Equal_S_int_int.eq_1
def R_slices_Equal_S_int_int : FIR := ⟨B_slices_Equal_S_int_int, 6, [(2, none)]⟩
theorem IR_slices_Equal_S_int_int : cfun Try.prog H_slices_Equal_S_int_int Try.f113 = some R_slices_Equal_S_int_int := by kernel_rfl
theorem EN_slices_Equal_S_int_int {args : List Value} {h : Heap} {k : Value → Heap → Prop} (hargs : args.length = 2) (hw : B_slices_Equal_S_int_int.wp Try.prog (retQ [(2, none)] k) (env0 args 6) h) : CallE Try.prog fn_slices_Equal_S_int_int args h k := enter Try.func113 rfl IR_slices_Equal_S_int_int hargs hw

def H_spec_AutomatonSame : Hint := ⟨[(0, false), (1, false), (2, true), (3, true), (4, false), (5, false), (6, false)], [[0, 1, 4, 6], [0, 1, 4, 5]]⟩
def K51_1 : C := .seq (.pl <| .st (.ext 7 0) <|
    .st (.act none (.px (some 4) (.mv (.c (.bool true))))) .done) (.ret)
@[simp] def W51_1 := @C.wpe _ _ K51_1.eq_1
def K51_2 : C := .pl <| .st (.ext 7 2) <|
    .st (.act none (.px (some 7) (.mv (.v 6)))) <|
    .st (.act none (.px (some 8) (.bin .add (.v 7) (.c (.int .i64 1))))) <|
    .st (.act none (.px (some 6) (.mv (.v 8)))) .done
@[simp] def W51_2 := @C.wpe _ _ K51_2.eq_1
def K51_3 : C := .seq (.pl <| .st (.ext 7 0) <|
    .st (.act none (.px (some 4) (.mv (.c (.bool false))))) .done) (.ret)
@[simp] def W51_3 := @C.wpe _ _ K51_3.eq_1
def K51_4 : C := .cond 7 (.v 17) K51_3 (.skip)
@[simp] def W51_4 := @C.wpe _ _ K51_4.eq_1
def K51_5 : C := .seq (.block 3 (.seq (.pl <| .st (.ext 7 11) <|
    .st (.act none (.als 7 none 2)) <|
    .st (.act none (.pget (some 8) (some 7) 2 2 none)) <|
    .st (.act none (.px (some 9) (.mv (.v 6)))) <|
    .st (.act none (.px (some 10) (.ia 4 (.v 8) (.v 9)))) <|
    .st (.act none (.ld (some 11) (.v 10) (some 4))) <|
    .st (.act none (.als 12 none 3)) <|
    .st (.act none (.pget (some 13) (some 12) 3 2 none)) <|
    .st (.act none (.px (some 14) (.mv (.v 6)))) <|
    .st (.act none (.px (some 15) (.ia 4 (.v 13) (.v 14)))) <|
    .st (.act none (.ld (some 16) (.v 15) (some 4))) <|
    .st (.act none (.px (some 17) (.eqf true [.i, .i, .i, .i] (.v 11) (.v 16)))) .done) K51_4)) K51_2
@[simp] def W51_5 := @C.wpe _ _ K51_5.eq_1
def K51_6 : C := .cond 7 (.v 11) (.skip) (.exit 2)
@[simp] def W51_6 := @C.wpe _ _ K51_6.eq_1
def K51_7 : C := .seq (.seq (.pl <| .st (.ext 7 5) <|
    .st (.act none (.px (some 7) (.mv (.v 6)))) <|
    .st (.act none (.als 8 none 2)) <|
    .st (.act none (.pget (some 9) (some 8) 2 2 none)) <|
    .st (.act none (.px (some 10) (.lenV (.v 9)))) <|
    .st (.act none (.px (some 11) (.bin .lss (.v 7) (.v 10)))) .done) K51_6) K51_5
@[simp] def W51_7 := @C.wpe _ _ K51_7.eq_1
def K51_8 : C := .block 2 (.loop 7 [0, 1, 4, 5] K51_7)
@[simp] def W51_8 := @C.wpe _ _ K51_8.eq_1
def K51_9 : C := .seq (.seq (.pl <| .st (.ext 7 0) <|
    .st (.act none (.px (some 6) (.mv (.c (.int .i64 0))))) .done) K51_8) K51_1
@[simp] def W51_9 := @C.wpe _ _ K51_9.eq_1
def K51_10 : C := .pl <| .st (.ext 7 2) <|
    .st (.act none (.px (some 7) (.mv (.v 5)))) <|
    .st (.act none (.px (some 8) (.bin .add (.v 7) (.c (.int .i64 1))))) <|
    .st (.act none (.px (some 5) (.mv (.v 8)))) .done
@[simp] def W51_10 := @C.wpe _ _ K51_10.eq_1
def K51_11 : C := .seq (.pl <| .st (.ext 7 0) <|
    .st (.act none (.px (some 4) (.mv (.c (.bool false))))) .done) (.ret)
@[simp] def W51_11 := @C.wpe _ _ K51_11.eq_1
def K51_12 : C := .cond 7 (.v 17) K51_11 (.skip)
@[simp] def W51_12 := @C.wpe _ _ K51_12.eq_1
def K51_13 : C := .seq (.block 1 (.seq (.pl <| .st (.ext 7 11) <|
    .st (.act none (.als 7 none 2)) <|
    .st (.act none (.pget (some 8) (some 7) 2 1 none)) <|
    .st (.act none (.px (some 9) (.mv (.v 5)))) <|
    .st (.act none (.px (some 10) (.ia 1 (.v 8) (.v 9)))) <|
    .st (.act none (.ld (some 11) (.v 10) none)) <|
    .st (.act none (.als 12 none 3)) <|
    .st (.act none (.pget (some 13) (some 12) 3 1 none)) <|
    .st (.act none (.px (some 14) (.mv (.v 5)))) <|
    .st (.act none (.px (some 15) (.ia 1 (.v 13) (.v 14)))) <|
    .st (.act none (.ld (some 16) (.v 15) none)) <|
    .st (.act none (.px (some 17) (.eqb true (.v 11) (.v 16)))) .done) K51_12)) K51_10
@[simp] def W51_13 := @C.wpe _ _ K51_13.eq_1
def K51_14 : C := .cond 7 (.v 11) (.skip) (.exit 0)
@[simp] def W51_14 := @C.wpe _ _ K51_14.eq_1
def K51_15 : C := .seq (.seq (.pl <| .st (.ext 7 5) <|
    .st (.act none (.px (some 7) (.mv (.v 5)))) <|
    .st (.act none (.als 8 none 2)) <|
    .st (.act none (.pget (some 9) (some 8) 2 1 none)) <|
    .st (.act none (.px (some 10) (.lenV (.v 9)))) <|
    .st (.act none (.px (some 11) (.bin .lss (.v 7) (.v 10)))) .done) K51_14) K51_13
@[simp] def W51_15 := @C.wpe _ _ K51_15.eq_1
def K51_16 : C := .block 0 (.loop 7 [0, 1, 4, 6] K51_15)
@[simp] def W51_16 := @C.wpe _ _ K51_16.eq_1
def K51_17 : C := .seq (.seq (.pl <| .st (.ext 7 0) <|
    .st (.act none (.px (some 5) (.mv (.c (.int .i64 0))))) .done) K51_16) K51_9
@[simp] def W51_17 := @C.wpe _ _ K51_17.eq_1
def K51_18 : C := .seq (.pl <| .st (.ext 7 0) <|
    .st (.act none (.px (some 4) (.mv (.c (.bool false))))) .done) (.ret)
@[simp] def W51_18 := @C.wpe _ _ K51_18.eq_1
def K51_19 : C := .cond 7 (.v 30) K51_18 (.skip)
@[simp] def W51_19 := @C.wpe _ _ K51_19.eq_1
def K51_20 : Pl := .st (.act none (.px (some 12) (.un .not (.v 11)))) <|
    .st (.act none (.px (some 13) (.mv (.v 12)))) <|
    .st (.act (some (.v 13, false)) (.als 14 none 2)) <|
    .st (.act (some (.v 13, false)) (.pget (some 15) (some 14) 2 1 none)) <|
    .st (.act (some (.v 13, false)) (.px (some 16) (.lenV (.v 15)))) <|
    .st (.act (some (.v 13, false)) (.als 17 none 3)) <|
    .st (.act (some (.v 13, false)) (.pget (some 18) (some 17) 3 1 none)) <|
    .st (.act (some (.v 13, false)) (.px (some 19) (.lenV (.v 18)))) <|
    .st (.act (some (.v 13, false)) (.px (some 20) (.bin .neq (.v 16) (.v 19)))) <|
    .st (.act none (.px (some 21) (.pick (.v 13) (.c (.bool true)) (.v 20)))) <|
    .st (.act none (.px (some 22) (.mv (.v 21)))) <|
    .st (.act (some (.v 22, false)) (.als 23 none 2)) <|
    .st (.act (some (.v 22, false)) (.pget (some 24) (some 23) 2 2 none)) <|
    .st (.act (some (.v 22, false)) (.px (some 25) (.lenV (.v 24)))) <|
    .st (.act (some (.v 22, false)) (.als 26 none 3)) <|
    .st (.act (some (.v 22, false)) (.pget (some 27) (some 26) 3 2 none)) <|
    .st (.act (some (.v 22, false)) (.px (some 28) (.lenV (.v 27)))) <|
    .st (.act (some (.v 22, false)) (.px (some 29) (.bin .neq (.v 25) (.v 28)))) <|
    .st (.act none (.px (some 30) (.pick (.v 22) (.c (.bool true)) (.v 29)))) .done
@[simp] def W51_20 := @Pl.wpe _ _ K51_20.eq_1
def K51_21 : C := .seq (.seq (.pl <| .st (.ext 7 24) <|
    .st (.act none (.als 7 none 2)) <|
    .st (.act none (.pget (some 8) (some 7) 2 0 none)) <|
    .st (.act none (.als 9 none 3)) <|
    .st (.act none (.pget (some 10) (some 9) 3 0 none)) <|
    .st (.act none (.ex (some 11) (.call fn_spec_l2Ints [.v 8, .v 10]))) K51_20) K51_19) K51_17
@[simp] def W51_21 := @C.wpe _ _ K51_21.eq_1
def B_spec_AutomatonSame : C := .seq (.pl <| .st (.ext 7 0) <|
    .st (.act none (.pnew 2 (.v 0) [])) <|
    .st (.act none (.pnew 3 (.v 1) [])) <|
    .st (.act none (.px (some 4) (.mv (.c (.bool false))))) .done) K51_21
@[simp] def WB_spec_AutomatonSame := @C.wpe _ _ B_spec_AutomatonSame.eq_1
def R_spec_AutomatonSame : FIR := ⟨B_spec_AutomatonSame, 7, [(4, none)]⟩
theorem IR_spec_AutomatonSame : cfun Try.prog H_spec_AutomatonSame Try.f51 = some R_spec_AutomatonSame := by kernel_rfl
theorem EN_spec_AutomatonSame {args : List Value} {h : Heap} {k : Value → Heap → Prop} (hargs : args.length = 2) (hw : B_spec_AutomatonSame.wp Try.prog (retQ [(4, none)] k) (env0 args 7) h) : CallE Try.prog fn_spec_AutomatonSame args h k := enter Try.func51 rfl IR_spec_AutomatonSame hargs hw

def H_spec_SimplifyAutomaton : Hint := ⟨[(0, false), (1, true), (2, true), (3, false), (4, true)], [[0, 3, 4]]⟩
def K23_1 : C := .pl <| .st (.ext 5 1) <|
    .st (.act none (.pget (some 5) none 4 0 (some 3))) <|
    .st (.act none (.pset none 1 0 3 (.v 5))) .done
@[simp] def W23_1 := @C.wpe _ _ K23_1.eq_1
def K23_2 : C := .seq (.pl <| .st (.ext 5 1) <|
    .st (.act none (.pget (some 5) none 4 0 (some 3))) <|
    .st (.act none (.pset none 2 0 3 (.v 5))) <|
    .st (.act none (.px (some 3) (.mv (.c (.bool true))))) .done) (.ret)
@[simp] def W23_2 := @C.wpe _ _ K23_2.eq_1
def K23_3 : C := .cond 5 (.v 7) K23_2 (.skip)
@[simp] def W23_3 := @C.wpe _ _ K23_3.eq_1
def K23_4 : C := .seq (.seq (.pl <| .st (.ext 5 3) <|
    .st (.act none (.pget (some 5) none 4 0 (some 3))) <|
    .st (.act none (.pget (some 6) none 1 0 (some 3))) <|
    .st (.act none (.ex (some 7) (.call fn_spec_AutomatonSame [.v 5, .v 6]))) .done) K23_3) K23_1
@[simp] def W23_4 := @C.wpe _ _ K23_4.eq_1
def K23_5 : Pl := .st (.act none (.pnew 4 (.c (.agg #[.slice none 0 0, .slice none 0 0, .slice none 0 0])) [])) <|
    .st (.act none (.pset none 4 0 3 (.v 7))) .done
@[simp] def W23_5 := @Pl.wpe _ _ K23_5.eq_1
def K23_6 : Pl := .st (.act none (.ex (some 7) (.call fn_spec_l13Merge [.v 6]))) K23_5
@[simp] def W23_6 := @Pl.wpe _ _ K23_6.eq_1
def K23_7 : C := .block 1 (.seq (.pl <| .st (.ext 5 3) <|
    .st (.act none (.pget (some 5) none 1 0 (some 3))) <|
    .st (.act none (.ex (some 6) (.call fn_spec_l13Trim [.v 5]))) K23_6) K23_4)
@[simp] def W23_7 := @C.wpe _ _ K23_7.eq_1
def K23_8 : C := .block 0 (.loop 5 [0, 3, 4] K23_7)
@[simp] def W23_8 := @C.wpe _ _ K23_8.eq_1
def K23_9 : C := .seq (.pl <| .st (.ext 5 1) <|
    .st (.act none (.px (some 5) (.build [.slice none 0 0, .slice none 0 0, .slice none 0 0] []))) <|
    .st (.act none (.pset none 2 0 3 (.v 5))) <|
    .st (.act none (.px (some 3) (.mv (.c (.bool false))))) .done) (.ret)
@[simp] def W23_9 := @C.wpe _ _ K23_9.eq_1
def K23_10 : C := .cond 5 (.v 7) K23_9 (.skip)
@[simp] def W23_10 := @C.wpe _ _ K23_10.eq_1
def K23_11 : Pl := .st (.act none (.px (some 7) (.un .not (.v 6)))) .done
@[simp] def W23_11 := @Pl.wpe _ _ K23_11.eq_1
def K23_12 : C := .seq (.seq (.pl <| .st (.ext 5 3) <|
    .st (.act none (.pget (some 5) none 1 0 (some 3))) <|
    .st (.act none (.ex (some 6) (.call fn_spec_AutomatonValid [.v 5]))) K23_11) K23_10) K23_8
@[simp] def W23_12 := @C.wpe _ _ K23_12.eq_1
def B_spec_SimplifyAutomaton : C := .seq (.pl <| .st (.ext 5 0) <|
    .st (.act none (.pnew 1 (.v 0) [])) <|
    .st (.act none (.pnew 2 (.c (.agg #[.slice none 0 0, .slice none 0 0, .slice none 0 0])) [])) <|
    .st (.act none (.px (some 3) (.mv (.c (.bool false))))) .done) K23_12
@[simp] def WB_spec_SimplifyAutomaton := @C.wpe _ _ B_spec_SimplifyAutomaton.eq_1
def R_spec_SimplifyAutomaton : FIR := ⟨B_spec_SimplifyAutomaton, 5, [(2, some (some 3)), (3, none)]⟩
theorem IR_spec_SimplifyAutomaton : cfun Try.prog H_spec_SimplifyAutomaton Try.f23 = some R_spec_SimplifyAutomaton := by kernel_rfl
theorem EN_spec_SimplifyAutomaton {args : List Value} {h : Heap} {k : Value → Heap → Prop} (hargs : args.length = 1) (hw : B_spec_SimplifyAutomaton.wp Try.prog (retQ [(2, some (some 3)), (3, none)] k) (env0 args 5) h) : CallE Try.prog fn_spec_SimplifyAutomaton args h k := enter Try.func23 rfl IR_spec_SimplifyAutomaton hargs hw

def H_spec_l2Ints : Hint := ⟨[(0, false), (1, false), (4, false), (5, false)], [[2]]⟩
def K88_1 : C := .seq (.pl <| .st (.ext 4 0) <|
    .st (.act none (.px (some 2) (.mv (.c (.bool true))))) .done) (.ret)
@[simp] def W88_1 := @C.wpe _ _ K88_1.eq_1
def K88_2 : C := .pl <| .st (.ext 4 2) <|
    .st (.act none (.px (some 4) (.mv (.v 3)))) <|
    .st (.act none (.px (some 5) (.bin .add (.v 4) (.c (.int .i64 1))))) <|
    .st (.act none (.px (some 3) (.mv (.v 5)))) .done
@[simp] def W88_2 := @C.wpe _ _ K88_2.eq_1
def K88_3 : C := .seq (.pl <| .st (.ext 4 0) <|
    .st (.act none (.px (some 2) (.mv (.c (.bool false))))) .done) (.ret)
@[simp] def W88_3 := @C.wpe _ _ K88_3.eq_1
def K88_4 : C := .cond 4 (.v 12) K88_3 (.skip)
@[simp] def W88_4 := @C.wpe _ _ K88_4.eq_1
def K88_5 : C := .seq (.block 1 (.seq (.pl <| .st (.ext 4 9) <|
    .st (.act none (.px (some 4) (.mv (.v 0)))) <|
    .st (.act none (.px (some 5) (.mv (.v 3)))) <|
    .st (.act none (.px (some 6) (.ia 1 (.v 4) (.v 5)))) <|
    .st (.act none (.ld (some 7) (.v 6) none)) <|
    .st (.act none (.px (some 8) (.mv (.v 1)))) <|
    .st (.act none (.px (some 9) (.mv (.v 3)))) <|
    .st (.act none (.px (some 10) (.ia 1 (.v 8) (.v 9)))) <|
    .st (.act none (.ld (some 11) (.v 10) none)) <|
    .st (.act none (.px (some 12) (.bin .neq (.v 7) (.v 11)))) .done) K88_4)) K88_2
@[simp] def W88_5 := @C.wpe _ _ K88_5.eq_1
def K88_6 : C := .cond 4 (.v 7) (.skip) (.exit 0)
@[simp] def W88_6 := @C.wpe _ _ K88_6.eq_1
def K88_7 : C := .seq (.seq (.pl <| .st (.ext 4 4) <|
    .st (.act none (.px (some 4) (.mv (.v 3)))) <|
    .st (.act none (.px (some 5) (.mv (.v 0)))) <|
    .st (.act none (.px (some 6) (.lenV (.v 5)))) <|
    .st (.act none (.px (some 7) (.bin .lss (.v 4) (.v 6)))) .done) K88_6) K88_5
@[simp] def W88_7 := @C.wpe _ _ K88_7.eq_1
def K88_8 : C := .block 0 (.loop 4 [2] K88_7)
@[simp] def W88_8 := @C.wpe _ _ K88_8.eq_1
def K88_9 : C := .seq (.seq (.pl <| .st (.ext 4 0) <|
    .st (.act none (.px (some 3) (.mv (.c (.int .i64 0))))) .done) K88_8) K88_1
@[simp] def W88_9 := @C.wpe _ _ K88_9.eq_1
def K88_10 : C := .seq (.pl <| .st (.ext 4 0) <|
    .st (.act none (.px (some 2) (.mv (.c (.bool false))))) .done) (.ret)
@[simp] def W88_10 := @C.wpe _ _ K88_10.eq_1
def K88_11 : C := .cond 4 (.v 8) K88_10 (.skip)
@[simp] def W88_11 := @C.wpe _ _ K88_11.eq_1
def K88_12 : C := .seq (.seq (.pl <| .st (.ext 4 5) <|
    .st (.act none (.px (some 4) (.mv (.v 0)))) <|
    .st (.act none (.px (some 5) (.lenV (.v 4)))) <|
    .st (.act none (.px (some 6) (.mv (.v 1)))) <|
    .st (.act none (.px (some 7) (.lenV (.v 6)))) <|
    .st (.act none (.px (some 8) (.bin .neq (.v 5) (.v 7)))) .done) K88_11) K88_9
@[simp] def W88_12 := @C.wpe _ _ K88_12.eq_1
def B_spec_l2Ints : C := .seq (.pl <| .st (.ext 4 0) <|
    .st (.act none (.px (some 2) (.mv (.c (.bool false))))) .done) K88_12
@[simp] def WB_spec_l2Ints := @C.wpe _ _ B_spec_l2Ints.eq_1
def R_spec_l2Ints : FIR := ⟨B_spec_l2Ints, 4, [(2, none)]⟩
theorem IR_spec_l2Ints : cfun Try.prog H_spec_l2Ints Try.f88 = some R_spec_l2Ints := by kernel_rfl
theorem EN_spec_l2Ints {args : List Value} {h : Heap} {k : Value → Heap → Prop} (hargs : args.length = 2) (hw : B_spec_l2Ints.wp Try.prog (retQ [(2, none)] k) (env0 args 4) h) : CallE Try.prog fn_spec_l2Ints args h k := enter Try.func88 rfl IR_spec_l2Ints hargs hw


end Go.Proofs.Ytknkjplnngeebaa
