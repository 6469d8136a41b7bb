/-
  More bodies of functions in the small language, as a program printed them.
-/
import Derived.Test.YtknkjplnngeebaaI1
namespace Go.Proofs.Ytknkjplnngeebaa
open Go
set_option linter.all false
set_option linter.defProp false
set_option maxRecDepth 1000000

def H_impl_Automaton_after : Hint := ⟨[(0, false), (1, false), (2, false), (3, false), (4, true), (8, false), (9, false), (11, true), (16, false), (17, false), (18, false)], [[0, 4, 5, 7]]⟩
def K78_1 : C := .seq (.pl <| .st (.ext 11 1) <|
    .st (.act none (.px (some 11) (.mv (.v 6)))) <|
    .st (.act none (.px (some 5) (.mv (.v 11)))) .done) (.ret)
@[simp] def W78_1 := @C.wpe _ _ K78_1.eq_1
def K78_2 : C := .pl <| .st (.ext 11 1) <|
    .st (.act none (.px (some 11) (.bin .add (.v 10) (.c (.int .i64 1))))) <|
    .st (.act none (.px (some 10) (.mv (.v 11)))) .done
@[simp] def W78_2 := @C.wpe _ _ K78_2.eq_1
def K78_3 : C := .pl <| .st (.ext 11 4) <|
    .st (.act none (.px (some 11) (.mv (.v 6)))) <|
    .st (.act none (.als 12 none 7)) <|
    .st (.act none (.pget (some 13) (some 12) 7 3 none)) <|
    .st (.act none (.px (some 14) (.ia 1 (.v 11) (.v 13)))) <|
    .st (.act none (.ex none (.store 1 (.v 14) (.c (.bool true))))) .done
@[simp] def W78_3 := @C.wpe _ _ K78_3.eq_1
def K78_4 : C := .cond 11 (.v 27) K78_3 (.skip)
@[simp] def W78_4 := @C.wpe _ _ K78_4.eq_1
def K78_5 : Pl := .st (.act none (.px (some 27) (.pick (.v 23) (.v 26) (.c (.bool false))))) .done
@[simp] def W78_5 := @Pl.wpe _ _ K78_5.eq_1
def K78_6 : C := .seq (.pl <| .st (.ext 11 17) <|
    .st (.act none (.px (some 11) (.mv (.v 2)))) <|
    .st (.act none (.als 12 none 7)) <|
    .st (.act none (.pget (some 13) (some 12) 7 0 none)) <|
    .st (.act none (.px (some 14) (.ia 1 (.v 11) (.v 13)))) <|
    .st (.act none (.ld (some 15) (.v 14) none)) <|
    .st (.act none (.px (some 16) (.mv (.v 15)))) <|
    .st (.act (some (.v 16, true)) (.px (some 17) (.mv (.v 1)))) <|
    .st (.act (some (.v 16, true)) (.als 18 none 7)) <|
    .st (.act (some (.v 16, true)) (.pget (some 19) (some 18) 7 3 none)) <|
    .st (.act (some (.v 16, true)) (.px (some 20) (.ia 1 (.v 17) (.v 19)))) <|
    .st (.act (some (.v 16, true)) (.ld (some 21) (.v 20) none)) <|
    .st (.act none (.px (some 22) (.pick (.v 16) (.v 21) (.c (.bool false))))) <|
    .st (.act none (.px (some 23) (.mv (.v 22)))) <|
    .st (.act (some (.v 23, true)) (.pget (some 24) none 7 0 (some 4))) <|
    .st (.act (some (.v 23, true)) (.px (some 25) (.mv (.v 3)))) <|
    .st (.act (some (.v 23, true)) (.ex (some 26) (.call fn_impl_Transition_takes [.v 24, .v 25]))) K78_5) K78_4
@[simp] def W78_6 := @C.wpe _ _ K78_6.eq_1
def K78_7 : C := .seq (.block 1 (.seq (.pl <| .st (.ext 11 2) <|
    .st (.act none (.px (some 11) (.ia 4 (.v 8) (.v 10)))) <|
    .st (.act none (.ld (some 12) (.v 11) (some 4))) <|
    .st (.act none (.pnew 7 (.c (.agg #[.int .i64 0, .int .i64 0, .int .i64 0, .int .i64 0])) [])) <|
    .st (.act none (.pset none 7 0 4 (.v 12))) .done) K78_6)) K78_2
@[simp] def W78_7 := @C.wpe _ _ K78_7.eq_1
def K78_8 : C := .seq (.cond 11 (.v 11) (.skip) (.exit 0)) K78_7
@[simp] def W78_8 := @C.wpe _ _ K78_8.eq_1
def K78_9 : C := .seq (.pl <| .st (.ext 11 1) <|
    .st (.act none (.px (some 11) (.bin .lss (.v 10) (.v 9)))) .done) K78_8
@[simp] def W78_9 := @C.wpe _ _ K78_9.eq_1
def K78_10 : C := .block 0 (.loop 11 [0, 4, 5, 7] K78_9)
@[simp] def W78_10 := @C.wpe _ _ K78_10.eq_1
def K78_11 : C := .seq (.seq (.pl <| .st (.ext 11 1) <|
    .st (.act none (.als 11 none 4)) <|
    .st (.act none (.pget (some 8) (some 11) 4 2 none)) <|
    .st (.act none (.px (some 9) (.lenV (.v 8)))) <|
    .st (.act none (.px (some 10) (.mv (.c (.int .i64 0))))) .done) K78_10) K78_1
@[simp] def W78_11 := @C.wpe _ _ K78_11.eq_1
def K78_12 : Pl := .st (.act none (.px (some 6) (.mv (.v 13)))) .done
@[simp] def W78_12 := @Pl.wpe _ _ K78_12.eq_1
def K78_13 : C := .seq (.pl <| .st (.ext 11 3) <|
    .st (.act none (.px (some 11) (.mv (.v 1)))) <|
    .st (.act none (.px (some 12) (.lenV (.v 11)))) <|
    .st (.act none (.ex (some 13) (.mks 1 1 [.bool false] (.v 12) (.v 12)))) K78_12) K78_11
@[simp] def W78_13 := @C.wpe _ _ K78_13.eq_1
def B_impl_Automaton_after : C := .seq (.pl <| .st (.ext 11 0) <|
    .st (.act none (.pnew 4 (.v 0) [])) <|
    .st (.act none (.px (some 5) (.mv (.c (.slice none 0 0))))) .done) K78_13
@[simp] def WB_impl_Automaton_after := @C.wpe _ _ B_impl_Automaton_after.eq_1
def R_impl_Automaton_after : FIR := ⟨B_impl_Automaton_after, 11, [(5, none)]⟩
theorem IR_impl_Automaton_after : cfun Try.prog H_impl_Automaton_after Try.f78 = some R_impl_Automaton_after := by kernel_rfl
theorem EN_impl_Automaton_after {args : List Value} {h : Heap} {k : Value → Heap → Prop} (hargs : args.length = 4) (hw : B_impl_Automaton_after.wp Try.prog (retQ [(5, none)] k) (env0 args 11) h) : CallE Try.prog fn_impl_Automaton_after args h k := enter Try.func78 rfl IR_impl_Automaton_after hargs hw

def H_impl_Automaton_begin : Hint := ⟨[(0, false), (1, false), (2, true), (4, false), (5, false), (7, false), (12, false), (13, false), (14, false)], [[0, 2, 3, 5]]⟩
def K77_1 : C := .seq (.pl <| .st (.ext 9 1) <|
    .st (.act none (.px (some 9) (.mv (.v 4)))) <|
    .st (.act none (.px (some 3) (.mv (.v 9)))) .done) (.ret)
@[simp] def W77_1 := @C.wpe _ _ K77_1.eq_1
def K77_2 : C := .pl <| .st (.ext 9 1) <|
    .st (.act none (.px (some 9) (.bin .add (.v 8) (.c (.int .i64 1))))) <|
    .st (.act none (.px (some 8) (.mv (.v 9)))) .done
@[simp] def W77_2 := @C.wpe _ _ K77_2.eq_1
def K77_3 : C := .pl <| .st (.ext 9 7) <|
    .st (.act none (.px (some 9) (.mv (.v 4)))) <|
    .st (.act none (.px (some 10) (.mv (.v 5)))) <|
    .st (.act none (.px (some 11) (.mv (.v 1)))) <|
    .st (.act none (.px (some 12) (.mv (.v 5)))) <|
    .st (.act none (.px (some 13) (.ia 1 (.v 11) (.v 12)))) <|
    .st (.act none (.ld (some 14) (.v 13) none)) <|
    .st (.act none (.px (some 15) (.ia 1 (.v 9) (.v 10)))) <|
    .st (.act none (.ex none (.store 1 (.v 15) (.v 14)))) .done
@[simp] def W77_3 := @C.wpe _ _ K77_3.eq_1
def K77_4 : C := .seq (.block 1 (.seq (.pl <| .st (.ext 9 2) <|
    .st (.act none (.px (some 9) (.ia 1 (.v 6) (.v 8)))) <|
    .st (.act none (.ld (some 10) (.v 9) none)) <|
    .st (.act none (.px (some 5) (.mv (.v 10)))) .done) K77_3)) K77_2
@[simp] def W77_4 := @C.wpe _ _ K77_4.eq_1
def K77_5 : C := .seq (.cond 9 (.v 9) (.skip) (.exit 0)) K77_4
@[simp] def W77_5 := @C.wpe _ _ K77_5.eq_1
def K77_6 : C := .seq (.pl <| .st (.ext 9 1) <|
    .st (.act none (.px (some 9) (.bin .lss (.v 8) (.v 7)))) .done) K77_5
@[simp] def W77_6 := @C.wpe _ _ K77_6.eq_1
def K77_7 : C := .block 0 (.loop 9 [0, 2, 3, 5] K77_6)
@[simp] def W77_7 := @C.wpe _ _ K77_7.eq_1
def K77_8 : C := .seq (.seq (.pl <| .st (.ext 9 1) <|
    .st (.act none (.als 9 none 2)) <|
    .st (.act none (.pget (some 6) (some 9) 2 0 none)) <|
    .st (.act none (.px (some 7) (.lenV (.v 6)))) <|
    .st (.act none (.px (some 8) (.mv (.c (.int .i64 0))))) .done) K77_7) K77_1
@[simp] def W77_8 := @C.wpe _ _ K77_8.eq_1
def K77_9 : Pl := .st (.act none (.px (some 4) (.mv (.v 11)))) .done
@[simp] def W77_9 := @Pl.wpe _ _ K77_9.eq_1
def K77_10 : C := .seq (.pl <| .st (.ext 9 3) <|
    .st (.act none (.px (some 9) (.mv (.v 1)))) <|
    .st (.act none (.px (some 10) (.lenV (.v 9)))) <|
    .st (.act none (.ex (some 11) (.mks 1 1 [.bool false] (.v 10) (.v 10)))) K77_9) K77_8
@[simp] def W77_10 := @C.wpe _ _ K77_10.eq_1
def B_impl_Automaton_begin : C := .seq (.pl <| .st (.ext 9 0) <|
    .st (.act none (.pnew 2 (.v 0) [])) <|
    .st (.act none (.px (some 3) (.mv (.c (.slice none 0 0))))) .done) K77_10
@[simp] def WB_impl_Automaton_begin := @C.wpe _ _ B_impl_Automaton_begin.eq_1
def R_impl_Automaton_begin : FIR := ⟨B_impl_Automaton_begin, 9, [(3, none)]⟩
theorem IR_impl_Automaton_begin : cfun Try.prog H_impl_Automaton_begin Try.f77 = some R_impl_Automaton_begin := by kernel_rfl
theorem EN_impl_Automaton_begin {args : List Value} {h : Heap} {k : Value → Heap → Prop} (hargs : args.length = 2) (hw : B_impl_Automaton_begin.wp Try.prog (retQ [(3, none)] k) (env0 args 9) h) : CallE Try.prog fn_impl_Automaton_begin args h k := enter Try.func77 rfl IR_impl_Automaton_begin hargs hw

def H_impl_Automaton_prefix : Hint := ⟨[(0, false), (1, false), (2, true), (4, false), (5, false), (6, false), (8, false), (14, false), (15, false), (16, false)], [[0, 1, 3, 6]]⟩
def K48_1 : Pl := .st (.act none (.px (some 3) (.mv (.v 11)))) .done
@[simp] def W48_1 := @Pl.wpe _ _ K48_1.eq_1
def K48_2 : C := .seq (.pl <| .st (.ext 10 2) <|
    .st (.act none (.px (some 10) (.mv (.v 5)))) <|
    .st (.act none (.ex (some 11) (.call fn_impl_members [.v 10]))) K48_1) (.ret)
@[simp] def W48_2 := @C.wpe _ _ K48_2.eq_1
def K48_3 : C := .pl <| .st (.ext 10 1) <|
    .st (.act none (.px (some 10) (.bin .add (.v 9) (.c (.int .i64 1))))) <|
    .st (.act none (.px (some 9) (.mv (.v 10)))) .done
@[simp] def W48_3 := @C.wpe _ _ K48_3.eq_1
def K48_4 : Pl := .st (.act none (.px (some 5) (.mv (.v 14)))) .done
@[simp] def W48_4 := @Pl.wpe _ _ K48_4.eq_1
def K48_5 : C := .pl <| .st (.ext 10 5) <|
    .st (.act none (.pget (some 10) none 2 0 (some 3))) <|
    .st (.act none (.px (some 11) (.mv (.v 4)))) <|
    .st (.act none (.px (some 12) (.mv (.v 5)))) <|
    .st (.act none (.px (some 13) (.mv (.v 6)))) <|
    .st (.act none (.ex (some 14) (.call fn_impl_Automaton_after [.v 10, .v 11, .v 12, .v 13]))) K48_4
@[simp] def W48_5 := @C.wpe _ _ K48_5.eq_1
def K48_6 : C := .seq (.block 1 (.seq (.pl <| .st (.ext 10 2) <|
    .st (.act none (.px (some 10) (.ia 1 (.v 7) (.v 9)))) <|
    .st (.act none (.ld (some 11) (.v 10) none)) <|
    .st (.act none (.px (some 6) (.mv (.v 11)))) .done) K48_5)) K48_3
@[simp] def W48_6 := @C.wpe _ _ K48_6.eq_1
def K48_7 : C := .seq (.cond 10 (.v 10) (.skip) (.exit 0)) K48_6
@[simp] def W48_7 := @C.wpe _ _ K48_7.eq_1
def K48_8 : C := .seq (.pl <| .st (.ext 10 1) <|
    .st (.act none (.px (some 10) (.bin .lss (.v 9) (.v 8)))) .done) K48_7
@[simp] def W48_8 := @C.wpe _ _ K48_8.eq_1
def K48_9 : C := .block 0 (.loop 10 [0, 1, 3, 6] K48_8)
@[simp] def W48_9 := @C.wpe _ _ K48_9.eq_1
def K48_10 : C := .seq (.seq (.pl <| .st (.ext 10 0) <|
    .st (.act none (.px (some 7) (.mv (.v 1)))) <|
    .st (.act none (.px (some 8) (.lenV (.v 7)))) <|
    .st (.act none (.px (some 9) (.mv (.c (.int .i64 0))))) .done) K48_9) K48_2
@[simp] def W48_10 := @C.wpe _ _ K48_10.eq_1
def K48_11 : Pl := .st (.act none (.px (some 5) (.mv (.v 12)))) .done
@[simp] def W48_11 := @Pl.wpe _ _ K48_11.eq_1
def K48_12 : C := .seq (.pl <| .st (.ext 10 3) <|
    .st (.act none (.pget (some 10) none 2 0 (some 3))) <|
    .st (.act none (.px (some 11) (.mv (.v 4)))) <|
    .st (.act none (.ex (some 12) (.call fn_impl_Automaton_begin [.v 10, .v 11]))) K48_11) K48_10
@[simp] def W48_12 := @C.wpe _ _ K48_12.eq_1
def K48_13 : Pl := .st (.act none (.px (some 4) (.mv (.v 11)))) .done
@[simp] def W48_13 := @Pl.wpe _ _ K48_13.eq_1
def K48_14 : C := .seq (.pl <| .st (.ext 10 2) <|
    .st (.act none (.pget (some 10) none 2 0 (some 3))) <|
    .st (.act none (.ex (some 11) (.call fn_impl_Automaton_live [.v 10]))) K48_13) K48_12
@[simp] def W48_14 := @C.wpe _ _ K48_14.eq_1
def B_impl_Automaton_prefix : C := .seq (.pl <| .st (.ext 10 0) <|
    .st (.act none (.pnew 2 (.v 0) [])) <|
    .st (.act none (.px (some 3) (.mv (.c (.slice none 0 0))))) .done) K48_14
@[simp] def WB_impl_Automaton_prefix := @C.wpe _ _ B_impl_Automaton_prefix.eq_1
def R_impl_Automaton_prefix : FIR := ⟨B_impl_Automaton_prefix, 10, [(3, none)]⟩
theorem IR_impl_Automaton_prefix : cfun Try.prog H_impl_Automaton_prefix Try.f48 = some R_impl_Automaton_prefix := by kernel_rfl
theorem EN_impl_Automaton_prefix {args : List Value} {h : Heap} {k : Value → Heap → Prop} (hargs : args.length = 2) (hw : B_impl_Automaton_prefix.wp Try.prog (retQ [(3, none)] k) (env0 args 10) h) : CallE Try.prog fn_impl_Automaton_prefix args h k := enter Try.func48 rfl IR_impl_Automaton_prefix hargs hw

def H_impl_PrefixStates : Hint := ⟨[(0, false), (1, false), (2, true), (4, false), (5, false)], []⟩
def K17_1 : Pl := .st (.act none (.px (some 3) (.mv (.v 7)))) <|
    .st (.act none (.px (some 4) (.mv (.c (.bool true))))) .done
@[simp] def W17_1 := @Pl.wpe _ _ K17_1.eq_1
def K17_2 : C := .seq (.pl <| .st (.ext 5 3) <|
    .st (.act none (.pget (some 5) none 2 0 (some 3))) <|
    .st (.act none (.px (some 6) (.mv (.v 1)))) <|
    .st (.act none (.ex (some 7) (.call fn_impl_Automaton_prefix [.v 5, .v 6]))) K17_1) (.ret)
@[simp] def W17_2 := @C.wpe _ _ K17_2.eq_1
def K17_3 : C := .seq (.pl <| .st (.ext 5 0) <|
    .st (.act none (.px (some 3) (.mv (.c (.slice none 0 0))))) <|
    .st (.act none (.px (some 4) (.mv (.c (.bool false))))) .done) (.ret)
@[simp] def W17_3 := @C.wpe _ _ K17_3.eq_1
def K17_4 : C := .cond 5 (.v 12) K17_3 (.skip)
@[simp] def W17_4 := @C.wpe _ _ K17_4.eq_1
def K17_5 : Pl := .st (.act (some (.v 8, false)) (.px (some 11) (.un .not (.v 10)))) <|
    .st (.act none (.px (some 12) (.pick (.v 8) (.c (.bool true)) (.v 11)))) .done
@[simp] def W17_5 := @Pl.wpe _ _ K17_5.eq_1
def K17_6 : Pl := .st (.act none (.px (some 7) (.un .not (.v 6)))) <|
    .st (.act none (.px (some 8) (.mv (.v 7)))) <|
    .st (.act (some (.v 8, false)) (.px (some 9) (.mv (.v 1)))) <|
    .st (.act (some (.v 8, false)) (.ex (some 10) (.call fn_impl_wordOk [.v 9]))) K17_5
@[simp] def W17_6 := @Pl.wpe _ _ K17_6.eq_1
def K17_7 : C := .seq (.seq (.pl <| .st (.ext 5 8) <|
    .st (.act none (.pget (some 5) none 2 0 (some 3))) <|
    .st (.act none (.ex (some 6) (.call fn_impl_AutomatonValid [.v 5]))) K17_6) K17_4) K17_2
@[simp] def W17_7 := @C.wpe _ _ K17_7.eq_1
def B_impl_PrefixStates : C := .seq (.pl <| .st (.ext 5 0) <|
    .st (.act none (.pnew 2 (.v 0) [])) <|
    .st (.act none (.px (some 3) (.mv (.c (.slice none 0 0))))) <|
    .st (.act none (.px (some 4) (.mv (.c (.bool false))))) .done) K17_7
@[simp] def WB_impl_PrefixStates := @C.wpe _ _ B_impl_PrefixStates.eq_1
def R_impl_PrefixStates : FIR := ⟨B_impl_PrefixStates, 5, [(3, none), (4, none)]⟩
theorem IR_impl_PrefixStates : cfun Try.prog H_impl_PrefixStates Try.f17 = some R_impl_PrefixStates := by kernel_rfl
theorem EN_impl_PrefixStates {args : List Value} {h : Heap} {k : Value → Heap → Prop} (hargs : args.length = 2) (hw : B_impl_PrefixStates.wp Try.prog (retQ [(3, none), (4, none)] k) (env0 args 5) h) : CallE Try.prog fn_impl_PrefixStates args h k := enter Try.func17 rfl IR_impl_PrefixStates hargs hw

def H_impl_Transition_takes : Hint := ⟨[(0, false), (1, false), (2, true), (4, false)], []⟩
def K107_1 : C := .seq (.pl <| .st (.ext 4 7) <|
    .st (.act none (.px (some 4) (.mv (.v 1)))) <|
    .st (.act none (.als 5 none 2)) <|
    .st (.act none (.pget (some 6) (some 5) 2 1 none)) <|
    .st (.act none (.px (some 7) (.bin .and (.v 4) (.v 6)))) <|
    .st (.act none (.als 8 none 2)) <|
    .st (.act none (.pget (some 9) (some 8) 2 2 none)) <|
    .st (.act none (.px (some 10) (.bin .eql (.v 7) (.v 9)))) <|
    .st (.act none (.px (some 3) (.mv (.v 10)))) .done) (.ret)
@[simp] def W107_1 := @C.wpe _ _ K107_1.eq_1
def B_impl_Transition_takes : C := .seq (.pl <| .st (.ext 4 0) <|
    .st (.act none (.pnew 2 (.v 0) [])) <|
    .st (.act none (.px (some 3) (.mv (.c (.bool false))))) .done) K107_1
@[simp] def WB_impl_Transition_takes := @C.wpe _ _ B_impl_Transition_takes.eq_1
def R_impl_Transition_takes : FIR := ⟨B_impl_Transition_takes, 4, [(3, none)]⟩
theorem IR_impl_Transition_takes : cfun Try.prog H_impl_Transition_takes Try.f107 = some R_impl_Transition_takes := by kernel_rfl
theorem EN_impl_Transition_takes {args : List Value} {h : Heap} {k : Value → Heap → Prop} (hargs : args.length = 2) (hw : B_impl_Transition_takes.wp Try.prog (retQ [(3, none)] k) (env0 args 4) h) : CallE Try.prog fn_impl_Transition_takes args h k := enter Try.func107 rfl IR_impl_Transition_takes hargs hw

def H_impl_letters : Hint := ⟨[(0, false), (2, false)], []⟩
def K76_1 : Pl := .st (.act none (.px (some 4) (.un .not (.v 3)))) <|
    .st (.act none (.px (some 1) (.mv (.v 4)))) .done
@[simp] def W76_1 := @Pl.wpe _ _ K76_1.eq_1
def K76_2 : C := .seq (.pl <| .st (.ext 2 3) <|
    .st (.act none (.px (some 2) (.mv (.v 0)))) <|
    .st (.act none (.ex (some 3) (.call fn_slices_ContainsFunc_S_int_int [.v 2, .c (.func (.func 106) #[] #[])]))) K76_1) (.ret)
@[simp] def W76_2 := @C.wpe _ _ K76_2.eq_1
def B_impl_letters : C := .seq (.pl <| .st (.ext 2 0) <|
    .st (.act none (.px (some 1) (.mv (.c (.bool false))))) .done) K76_2
@[simp] def WB_impl_letters := @C.wpe _ _ B_impl_letters.eq_1
def R_impl_letters : FIR := ⟨B_impl_letters, 2, [(1, none)]⟩
theorem IR_impl_letters : cfun Try.prog H_impl_letters Try.f76 = some R_impl_letters := by kernel_rfl
theorem EN_impl_letters {args : List Value} {h : Heap} {k : Value → Heap → Prop} (hargs : args.length = 1) (hw : B_impl_letters.wp Try.prog (retQ [(1, none)] k) (env0 args 2) h) : CallE Try.prog fn_impl_letters args h k := enter Try.func76 rfl IR_impl_letters hargs hw

def H_impl_letters_1 : Hint := ⟨[(0, false), (2, false)], []⟩
def K106_1 : Pl := .st (.act none (.px (some 4) (.un .not (.v 3)))) <|
    .st (.act none (.px (some 1) (.mv (.v 4)))) .done
@[simp] def W106_1 := @Pl.wpe _ _ K106_1.eq_1
def K106_2 : C := .seq (.pl <| .st (.ext 2 3) <|
    .st (.act none (.px (some 2) (.mv (.v 0)))) <|
    .st (.act none (.ex (some 3) (.call fn_impl_in [.v 2, .c (.int .i64 0), .c (.int .i64 7)]))) K106_1) (.ret)
@[simp] def W106_2 := @C.wpe _ _ K106_2.eq_1
def B_impl_letters_1 : C := .seq (.pl <| .st (.ext 2 0) <|
    .st (.act none (.px (some 1) (.mv (.c (.bool false))))) .done) K106_2
@[simp] def WB_impl_letters_1 := @C.wpe _ _ B_impl_letters_1.eq_1
def R_impl_letters_1 : FIR := ⟨B_impl_letters_1, 2, [(1, none)]⟩
theorem IR_impl_letters_1 : cfun Try.prog H_impl_letters_1 Try.f106 = some R_impl_letters_1 := by kernel_rfl
theorem EN_impl_letters_1 {args : List Value} {h : Heap} {k : Value → Heap → Prop} (hargs : args.length = 1) (hw : B_impl_letters_1.wp Try.prog (retQ [(1, none)] k) (env0 args 2) h) : CallE Try.prog fn_impl_letters_1 args h k := enter Try.func106 rfl IR_impl_letters_1 hargs hw

def H_impl_members : Hint := ⟨[(0, false), (2, false), (3, false), (4, false), (5, false), (6, false), (7, false), (8, false)], [[0, 1, 3, 4]]⟩
def K79_1 : Pl := .st (.act none (.px (some 1) (.mv (.v 9)))) .done
@[simp] def W79_1 := @Pl.wpe _ _ K79_1.eq_1
def K79_2 : C := .seq (.pl <| .st (.ext 8 2) <|
    .st (.act none (.px (some 8) (.mv (.v 2)))) <|
    .st (.act none (.ex (some 9) (.call fn_slices_Clip_S_int_int [.v 8]))) K79_1) (.ret)
@[simp] def W79_2 := @C.wpe _ _ K79_2.eq_1
def K79_3 : C := .pl <| .st (.ext 8 1) <|
    .st (.act none (.px (some 8) (.bin .add (.v 7) (.c (.int .i64 1))))) <|
    .st (.act none (.px (some 7) (.mv (.v 8)))) .done
@[simp] def W79_3 := @C.wpe _ _ K79_3.eq_1
def K79_4 : Pl := .st (.act none (.px (some 2) (.mv (.v 11)))) .done
@[simp] def W79_4 := @Pl.wpe _ _ K79_4.eq_1
def K79_5 : C := .pl <| .st (.ext 8 4) <|
    .st (.act none (.px (some 8) (.mv (.v 2)))) <|
    .st (.act none (.px (some 9) (.mv (.v 3)))) <|
    .st (.act none (.psl 10 [.int .i64 0] [(0, 1, .v 9)])) <|
    .st (.act none (.ex (some 11) (.app 8 1 [.int .i64 0] (.o (.v 8)) (.p 1 10)))) K79_4
@[simp] def W79_5 := @C.wpe _ _ K79_5.eq_1
def K79_6 : C := .cond 8 (.v 8) K79_5 (.skip)
@[simp] def W79_6 := @C.wpe _ _ K79_6.eq_1
def K79_7 : C := .seq (.pl <| .st (.ext 8 1) <|
    .st (.act none (.px (some 8) (.mv (.v 4)))) .done) K79_6
@[simp] def W79_7 := @C.wpe _ _ K79_7.eq_1
def K79_8 : C := .seq (.block 1 (.seq (.pl <| .st (.ext 8 3) <|
    .st (.act none (.px (some 8) (.mv (.v 7)))) <|
    .st (.act none (.px (some 9) (.ia 1 (.v 5) (.v 7)))) <|
    .st (.act none (.ld (some 10) (.v 9) none)) <|
    .st (.act none (.px (some 3) (.mv (.v 8)))) <|
    .st (.act none (.px (some 4) (.mv (.v 10)))) .done) K79_7)) K79_3
@[simp] def W79_8 := @C.wpe _ _ K79_8.eq_1
def K79_9 : C := .seq (.cond 8 (.v 8) (.skip) (.exit 0)) K79_8
@[simp] def W79_9 := @C.wpe _ _ K79_9.eq_1
def K79_10 : C := .seq (.pl <| .st (.ext 8 1) <|
    .st (.act none (.px (some 8) (.bin .lss (.v 7) (.v 6)))) .done) K79_9
@[simp] def W79_10 := @C.wpe _ _ K79_10.eq_1
def K79_11 : C := .block 0 (.loop 8 [0, 1, 3, 4] K79_10)
@[simp] def W79_11 := @C.wpe _ _ K79_11.eq_1
def K79_12 : C := .seq (.seq (.pl <| .st (.ext 8 0) <|
    .st (.act none (.px (some 5) (.mv (.v 0)))) <|
    .st (.act none (.px (some 6) (.lenV (.v 5)))) <|
    .st (.act none (.px (some 7) (.mv (.c (.int .i64 0))))) .done) K79_11) K79_2
@[simp] def W79_12 := @C.wpe _ _ K79_12.eq_1
def K79_13 : C := .seq (.pl <| .st (.ext 8 0) <|
    .st (.act none (.px (some 2) (.mv (.c (.slice none 0 0))))) .done) K79_12
@[simp] def W79_13 := @C.wpe _ _ K79_13.eq_1
def B_impl_members : C := .seq (.pl <| .st (.ext 8 0) <|
    .st (.act none (.px (some 1) (.mv (.c (.slice none 0 0))))) .done) K79_13
@[simp] def WB_impl_members := @C.wpe _ _ B_impl_members.eq_1
def R_impl_members : FIR := ⟨B_impl_members, 8, [(1, none)]⟩
theorem IR_impl_members : cfun Try.prog H_impl_members Try.f79 = some R_impl_members := by kernel_rfl
theorem EN_impl_members {args : List Value} {h : Heap} {k : Value → Heap → Prop} (hargs : args.length = 1) (hw : B_impl_members.wp Try.prog (retQ [(1, none)] k) (env0 args 8) h) : CallE Try.prog fn_impl_members args h k := enter Try.func79 rfl IR_impl_members hargs hw

def H_impl_wordOk : Hint := ⟨[(0, false), (2, false)], []⟩
def K47_1 : Pl := .st (.act none (.px (some 8) (.pick (.v 5) (.v 7) (.c (.bool false))))) <|
    .st (.act none (.px (some 1) (.mv (.v 8)))) .done
@[simp] def W47_1 := @Pl.wpe _ _ K47_1.eq_1
def K47_2 : C := .seq (.pl <| .st (.ext 2 7) <|
    .st (.act none (.px (some 2) (.mv (.v 0)))) <|
    .st (.act none (.px (some 3) (.lenV (.v 2)))) <|
    .st (.act none (.px (some 4) (.bin .leq (.v 3) (.c (.int .i64 200))))) <|
    .st (.act none (.px (some 5) (.mv (.v 4)))) <|
    .st (.act (some (.v 5, true)) (.px (some 6) (.mv (.v 0)))) <|
    .st (.act (some (.v 5, true)) (.ex (some 7) (.call fn_impl_letters [.v 6]))) K47_1) (.ret)
@[simp] def W47_2 := @C.wpe _ _ K47_2.eq_1
def B_impl_wordOk : C := .seq (.pl <| .st (.ext 2 0) <|
    .st (.act none (.px (some 1) (.mv (.c (.bool false))))) .done) K47_2
@[simp] def WB_impl_wordOk := @C.wpe _ _ B_impl_wordOk.eq_1
def R_impl_wordOk : FIR := ⟨B_impl_wordOk, 2, [(1, none)]⟩
theorem IR_impl_wordOk : cfun Try.prog H_impl_wordOk Try.f47 = some R_impl_wordOk := by kernel_rfl
theorem EN_impl_wordOk {args : List Value} {h : Heap} {k : Value → Heap → Prop} (hargs : args.length = 1) (hw : B_impl_wordOk.wp Try.prog (retQ [(1, none)] k) (env0 args 2) h) : CallE Try.prog fn_impl_wordOk args h k := enter Try.func47 rfl IR_impl_wordOk hargs hw

def H_laws_FnExactPrefixStates : Hint := ⟨[(0, false), (1, false), (2, true), (4, false), (5, false), (6, false), (7, false), (8, true), (9, false), (10, false), (11, false), (12, false), (13, false), (14, false), (15, false), (16, false)], []⟩
def K4_1 : C := .seq (.pl <| .st (.ext 16 0) <|
    .st (.act none (.px (some 3) (.mv (.c (.bool true))))) .done) (.ret)
@[simp] def W4_1 := @C.wpe _ _ K4_1.eq_1
def K4_2 : C := .seq (.pl <| .st (.ext 16 0) <|
    .st (.act none (.px (some 3) (.mv (.c (.bool false))))) .done) (.ret)
@[simp] def W4_2 := @C.wpe _ _ K4_2.eq_1
def K4_3 : C := .cond 16 (.v 18) K4_2 (.skip)
@[simp] def W4_3 := @C.wpe _ _ K4_3.eq_1
def K4_4 : C := .seq (.seq (.pl <| .st (.ext 16 3) <|
    .st (.act none (.px (some 16) (.mv (.v 13)))) <|
    .st (.act none (.px (some 17) (.mv (.v 12)))) <|
    .st (.act none (.px (some 18) (.bin .neq (.v 16) (.v 17)))) .done) K4_3) K4_1
@[simp] def W4_4 := @C.wpe _ _ K4_4.eq_1
def K4_5 : C := .seq (.pl <| .st (.ext 16 0) <|
    .st (.act none (.px (some 3) (.mv (.c (.bool false))))) .done) (.ret)
@[simp] def W4_5 := @C.wpe _ _ K4_5.eq_1
def K4_6 : C := .cond 16 (.v 17) K4_5 (.skip)
@[simp] def W4_6 := @C.wpe _ _ K4_6.eq_1
def K4_7 : C := .seq (.seq (.pl <| .st (.ext 16 2) <|
    .st (.act none (.px (some 16) (.mv (.v 13)))) <|
    .st (.act none (.px (some 17) (.bin .lss (.v 16) (.c (.int .i64 0))))) .done) K4_6) K4_4
@[simp] def W4_7 := @C.wpe _ _ K4_7.eq_1
def K4_8 : Pl := .st (.act none (.px (some 13) (.mv (.v 18)))) .done
@[simp] def W4_8 := @Pl.wpe _ _ K4_8.eq_1
def K4_9 : C := .seq (.pl <| .st (.ext 16 3) <|
    .st (.act none (.px (some 16) (.mv (.v 9)))) <|
    .st (.act none (.px (some 17) (.mv (.v 13)))) <|
    .st (.act none (.ex (some 18) (.call fn_laws_heldIntS [.v 16, .v 17]))) K4_8) K4_7
@[simp] def W4_9 := @C.wpe _ _ K4_9.eq_1
def K4_10 : C := .seq (.pl <| .st (.ext 16 0) <|
    .st (.act none (.px (some 13) (.mv (.c (.int .i64 1))))) .done) K4_9
@[simp] def W4_10 := @C.wpe _ _ K4_10.eq_1
def K4_11 : C := .seq (.pl <| .st (.ext 16 0) <|
    .st (.act none (.px (some 3) (.mv (.c (.bool false))))) .done) (.ret)
@[simp] def W4_11 := @C.wpe _ _ K4_11.eq_1
def K4_12 : C := .cond 16 (.v 24) K4_11 (.skip)
@[simp] def W4_12 := @C.wpe _ _ K4_12.eq_1
def K4_13 : Pl := .st (.act none (.px (some 19) (.un .not (.v 18)))) <|
    .st (.act none (.px (some 20) (.mv (.v 19)))) <|
    .st (.act (some (.v 20, false)) (.px (some 21) (.mv (.v 15)))) <|
    .st (.act (some (.v 20, false)) (.px (some 22) (.mv (.v 6)))) <|
    .st (.act (some (.v 20, false)) (.px (some 23) (.eqb true (.v 21) (.v 22)))) <|
    .st (.act none (.px (some 24) (.pick (.v 20) (.c (.bool true)) (.v 23)))) .done
@[simp] def W4_13 := @Pl.wpe _ _ K4_13.eq_1
def K4_14 : C := .seq (.seq (.pl <| .st (.ext 16 9) <|
    .st (.act none (.px (some 16) (.mv (.v 14)))) <|
    .st (.act none (.px (some 17) (.mv (.v 5)))) <|
    .st (.act none (.ex (some 18) (.call fn_laws_eqIntS [.v 16, .v 17]))) K4_13) K4_12) K4_10
@[simp] def W4_14 := @C.wpe _ _ K4_14.eq_1
def K4_15 : Pl := .st (.act none (.px (some 21) (.mv (.v 20)))) <|
    .st (.act none (.px (some 22) (.extract 0 (.v 21)))) <|
    .st (.act none (.px (some 23) (.extract 1 (.v 21)))) <|
    .st (.act none (.px (some 14) (.mv (.v 22)))) <|
    .st (.act none (.px (some 15) (.mv (.v 23)))) .done
@[simp] def W4_15 := @Pl.wpe _ _ K4_15.eq_1
def K4_16 : Pl := .st (.act none (.ex (some 20) (.call fn_impl_PrefixStates [.v 17, .v 19]))) K4_15
@[simp] def W4_16 := @Pl.wpe _ _ K4_16.eq_1
def K4_17 : Pl := .st (.act none (.px (some 18) (.mv (.v 1)))) <|
    .st (.act none (.ex (some 19) (.call fn_laws_toIntS [.v 18]))) K4_16
@[simp] def W4_17 := @Pl.wpe _ _ K4_17.eq_1
def K4_18 : C := .seq (.pl <| .st (.ext 16 8) <|
    .st (.act none (.pget (some 16) none 2 0 (some 3))) <|
    .st (.act none (.ex (some 17) (.call fn_laws_toAutomaton [.v 16]))) K4_17) K4_14
@[simp] def W4_18 := @C.wpe _ _ K4_18.eq_1
def K4_19 : C := .seq (.pl <| .st (.ext 16 0) <|
    .st (.act none (.px (some 3) (.mv (.c (.bool false))))) .done) (.ret)
@[simp] def W4_19 := @C.wpe _ _ K4_19.eq_1
def K4_20 : C := .cond 16 (.v 18) K4_19 (.skip)
@[simp] def W4_20 := @C.wpe _ _ K4_20.eq_1
def K4_21 : C := .seq (.seq (.pl <| .st (.ext 16 3) <|
    .st (.act none (.px (some 16) (.mv (.v 13)))) <|
    .st (.act none (.px (some 17) (.mv (.v 12)))) <|
    .st (.act none (.px (some 18) (.bin .neq (.v 16) (.v 17)))) .done) K4_20) K4_18
@[simp] def W4_21 := @C.wpe _ _ K4_21.eq_1
def K4_22 : C := .seq (.pl <| .st (.ext 16 0) <|
    .st (.act none (.px (some 3) (.mv (.c (.bool false))))) .done) (.ret)
@[simp] def W4_22 := @C.wpe _ _ K4_22.eq_1
def K4_23 : C := .cond 16 (.v 17) K4_22 (.skip)
@[simp] def W4_23 := @C.wpe _ _ K4_23.eq_1
def K4_24 : C := .seq (.seq (.pl <| .st (.ext 16 2) <|
    .st (.act none (.px (some 16) (.mv (.v 13)))) <|
    .st (.act none (.px (some 17) (.bin .lss (.v 16) (.c (.int .i64 0))))) .done) K4_23) K4_21
@[simp] def W4_24 := @C.wpe _ _ K4_24.eq_1
def K4_25 : Pl := .st (.act none (.px (some 13) (.mv (.v 18)))) .done
@[simp] def W4_25 := @Pl.wpe _ _ K4_25.eq_1
def K4_26 : C := .seq (.pl <| .st (.ext 16 3) <|
    .st (.act none (.px (some 16) (.mv (.v 9)))) <|
    .st (.act none (.px (some 17) (.mv (.v 13)))) <|
    .st (.act none (.ex (some 18) (.call fn_laws_heldIntS [.v 16, .v 17]))) K4_25) K4_24
@[simp] def W4_26 := @C.wpe _ _ K4_26.eq_1
def K4_27 : C := .seq (.pl <| .st (.ext 16 0) <|
    .st (.act none (.px (some 13) (.mv (.c (.int .i64 1))))) .done) K4_26
@[simp] def W4_27 := @C.wpe _ _ K4_27.eq_1
def K4_28 : Pl := .st (.act none (.px (some 12) (.mv (.v 18)))) .done
@[simp] def W4_28 := @Pl.wpe _ _ K4_28.eq_1
def K4_29 : C := .seq (.pl <| .st (.ext 16 3) <|
    .st (.act none (.px (some 16) (.mv (.v 9)))) <|
    .st (.act none (.px (some 17) (.mv (.v 12)))) <|
    .st (.act none (.ex (some 18) (.call fn_laws_markIntS [.v 16, .v 17]))) K4_28) K4_27
@[simp] def W4_29 := @C.wpe _ _ K4_29.eq_1
def K4_30 : C := .seq (.pl <| .st (.ext 16 0) <|
    .st (.act none (.px (some 12) (.mv (.c (.int .i64 1))))) .done) K4_29
@[simp] def W4_30 := @C.wpe _ _ K4_30.eq_1
def K4_31 : C := .seq (.pl <| .st (.ext 16 0) <|
    .st (.act none (.px (some 3) (.mv (.c (.bool false))))) .done) (.ret)
@[simp] def W4_31 := @C.wpe _ _ K4_31.eq_1
def K4_32 : C := .cond 16 (.v 28) K4_31 (.skip)
@[simp] def W4_32 := @C.wpe _ _ K4_32.eq_1
def K4_33 : Pl := .st (.act (some (.v 18, false)) (.px (some 22) (.un .not (.v 21)))) <|
    .st (.act none (.px (some 23) (.pick (.v 18) (.c (.bool true)) (.v 22)))) <|
    .st (.act none (.px (some 24) (.mv (.v 23)))) <|
    .st (.act (some (.v 24, false)) (.px (some 25) (.mv (.v 10)))) <|
    .st (.act (some (.v 24, false)) (.px (some 26) (.mv (.v 6)))) <|
    .st (.act (some (.v 24, false)) (.px (some 27) (.eqb true (.v 25) (.v 26)))) <|
    .st (.act none (.px (some 28) (.pick (.v 24) (.c (.bool true)) (.v 27)))) .done
@[simp] def W4_33 := @Pl.wpe _ _ K4_33.eq_1
def K4_34 : C := .seq (.seq (.pl <| .st (.ext 16 13) <|
    .st (.act none (.px (some 16) (.mv (.v 11)))) <|
    .st (.act none (.px (some 17) (.bin .lss (.v 16) (.c (.int .i64 0))))) <|
    .st (.act none (.px (some 18) (.mv (.v 17)))) <|
    .st (.act (some (.v 18, false)) (.px (some 19) (.mv (.v 9)))) <|
    .st (.act (some (.v 18, false)) (.px (some 20) (.mv (.v 5)))) <|
    .st (.act (some (.v 18, false)) (.ex (some 21) (.call fn_laws_eqIntS [.v 19, .v 20]))) K4_33) K4_32) K4_30
@[simp] def W4_34 := @C.wpe _ _ K4_34.eq_1
def K4_35 : Pl := .st (.act none (.px (some 11) (.mv (.v 18)))) .done
@[simp] def W4_35 := @Pl.wpe _ _ K4_35.eq_1
def K4_36 : C := .seq (.pl <| .st (.ext 16 3) <|
    .st (.act none (.px (some 16) (.mv (.v 8)))) <|
    .st (.act none (.px (some 17) (.mv (.v 11)))) <|
    .st (.act none (.ex (some 18) (.call fn_laws_markIntS [.v 16, .v 17]))) K4_35) K4_34
@[simp] def W4_36 := @C.wpe _ _ K4_36.eq_1
def K4_37 : Pl := .st (.act none (.px (some 11) (.mv (.v 18)))) .done
@[simp] def W4_37 := @Pl.wpe _ _ K4_37.eq_1
def K4_38 : C := .seq (.pl <| .st (.ext 16 3) <|
    .st (.act none (.pget (some 16) none 7 0 (some 3))) <|
    .st (.act none (.px (some 17) (.mv (.v 11)))) <|
    .st (.act none (.ex (some 18) (.call fn_laws_markAutomaton [.v 16, .v 17]))) K4_37) K4_36
@[simp] def W4_38 := @C.wpe _ _ K4_38.eq_1
def K4_39 : C := .seq (.pl <| .st (.ext 16 0) <|
    .st (.act none (.px (some 11) (.mv (.c (.int .i64 1))))) .done) K4_38
@[simp] def W4_39 := @C.wpe _ _ K4_39.eq_1
def K4_40 : C := .seq (.pl <| .st (.ext 16 0) <|
    .st (.act none (.px (some 3) (.mv (.c (.bool false))))) .done) (.ret)
@[simp] def W4_40 := @C.wpe _ _ K4_40.eq_1
def K4_41 : C := .cond 16 (.v 20) K4_40 (.skip)
@[simp] def W4_41 := @C.wpe _ _ K4_41.eq_1
def K4_42 : Pl := .st (.act none (.px (some 20) (.un .not (.v 19)))) .done
@[simp] def W4_42 := @Pl.wpe _ _ K4_42.eq_1
def K4_43 : Pl := .st (.act none (.ex (some 19) (.call fn_laws_eqIntS [.v 16, .v 18]))) K4_42
@[simp] def W4_43 := @Pl.wpe _ _ K4_43.eq_1
def K4_44 : C := .seq (.seq (.pl <| .st (.ext 16 5) <|
    .st (.act none (.px (some 16) (.mv (.v 8)))) <|
    .st (.act none (.px (some 17) (.mv (.v 1)))) <|
    .st (.act none (.ex (some 18) (.call fn_laws_toIntS [.v 17]))) K4_43) K4_41) K4_39
@[simp] def W4_44 := @C.wpe _ _ K4_44.eq_1
def K4_45 : C := .seq (.pl <| .st (.ext 16 0) <|
    .st (.act none (.px (some 3) (.mv (.c (.bool false))))) .done) (.ret)
@[simp] def W4_45 := @C.wpe _ _ K4_45.eq_1
def K4_46 : C := .cond 16 (.v 20) K4_45 (.skip)
@[simp] def W4_46 := @C.wpe _ _ K4_46.eq_1
def K4_47 : Pl := .st (.act none (.px (some 20) (.un .not (.v 19)))) .done
@[simp] def W4_47 := @Pl.wpe _ _ K4_47.eq_1
def K4_48 : Pl := .st (.act none (.ex (some 19) (.call fn_laws_eqAutomaton [.v 16, .v 18]))) K4_47
@[simp] def W4_48 := @Pl.wpe _ _ K4_48.eq_1
def K4_49 : C := .seq (.seq (.pl <| .st (.ext 16 5) <|
    .st (.act none (.pget (some 16) none 7 0 (some 3))) <|
    .st (.act none (.pget (some 17) none 2 0 (some 3))) <|
    .st (.act none (.ex (some 18) (.call fn_laws_toAutomaton [.v 17]))) K4_48) K4_46) K4_44
@[simp] def W4_49 := @C.wpe _ _ K4_49.eq_1
def K4_50 : C := .seq (.pl <| .st (.ext 16 0) <|
    .st (.act none (.px (some 3) (.mv (.c (.bool false))))) .done) (.ret)
@[simp] def W4_50 := @C.wpe _ _ K4_50.eq_1
def K4_51 : C := .cond 16 (.v 24) K4_50 (.skip)
@[simp] def W4_51 := @C.wpe _ _ K4_51.eq_1
def K4_52 : Pl := .st (.act none (.px (some 19) (.un .not (.v 18)))) <|
    .st (.act none (.px (some 20) (.mv (.v 19)))) <|
    .st (.act (some (.v 20, false)) (.px (some 21) (.mv (.v 10)))) <|
    .st (.act (some (.v 20, false)) (.px (some 22) (.mv (.v 6)))) <|
    .st (.act (some (.v 20, false)) (.px (some 23) (.eqb true (.v 21) (.v 22)))) <|
    .st (.act none (.px (some 24) (.pick (.v 20) (.c (.bool true)) (.v 23)))) .done
@[simp] def W4_52 := @Pl.wpe _ _ K4_52.eq_1
def K4_53 : C := .seq (.seq (.pl <| .st (.ext 16 9) <|
    .st (.act none (.px (some 16) (.mv (.v 9)))) <|
    .st (.act none (.px (some 17) (.mv (.v 5)))) <|
    .st (.act none (.ex (some 18) (.call fn_laws_eqIntS [.v 16, .v 17]))) K4_52) K4_51) K4_49
@[simp] def W4_53 := @C.wpe _ _ K4_53.eq_1
def K4_54 : Pl := .st (.act none (.px (some 19) (.mv (.v 18)))) <|
    .st (.act none (.px (some 20) (.extract 0 (.v 19)))) <|
    .st (.act none (.px (some 21) (.extract 1 (.v 19)))) <|
    .st (.act none (.px (some 9) (.mv (.v 20)))) <|
    .st (.act none (.px (some 10) (.mv (.v 21)))) .done
@[simp] def W4_54 := @Pl.wpe _ _ K4_54.eq_1
def K4_55 : C := .seq (.pl <| .st (.ext 16 6) <|
    .st (.act none (.pget (some 16) none 7 0 (some 3))) <|
    .st (.act none (.px (some 17) (.mv (.v 8)))) <|
    .st (.act none (.ex (some 18) (.call fn_impl_PrefixStates [.v 16, .v 17]))) K4_54) K4_53
@[simp] def W4_55 := @C.wpe _ _ K4_55.eq_1
def K4_56 : Pl := .st (.act none (.px (some 8) (.mv (.v 17)))) .done
@[simp] def W4_56 := @Pl.wpe _ _ K4_56.eq_1
def K4_57 : C := .seq (.pl <| .st (.ext 16 2) <|
    .st (.act none (.px (some 16) (.mv (.v 1)))) <|
    .st (.act none (.ex (some 17) (.call fn_laws_toIntS [.v 16]))) K4_56) K4_55
@[simp] def W4_57 := @C.wpe _ _ K4_57.eq_1
def K4_58 : Pl := .st (.act none (.pnew 7 (.c (.agg #[.slice none 0 0, .slice none 0 0, .slice none 0 0])) [])) <|
    .st (.act none (.pset none 7 0 3 (.v 17))) .done
@[simp] def W4_58 := @Pl.wpe _ _ K4_58.eq_1
def K4_59 : C := .seq (.pl <| .st (.ext 16 2) <|
    .st (.act none (.pget (some 16) none 2 0 (some 3))) <|
    .st (.act none (.ex (some 17) (.call fn_laws_toAutomaton [.v 16]))) K4_58) K4_57
@[simp] def W4_59 := @C.wpe _ _ K4_59.eq_1
def K4_60 : Pl := .st (.act none (.px (some 21) (.mv (.v 20)))) <|
    .st (.act none (.px (some 22) (.extract 0 (.v 21)))) <|
    .st (.act none (.px (some 23) (.extract 1 (.v 21)))) <|
    .st (.act none (.px (some 5) (.mv (.v 22)))) <|
    .st (.act none (.px (some 6) (.mv (.v 23)))) .done
@[simp] def W4_60 := @Pl.wpe _ _ K4_60.eq_1
def K4_61 : Pl := .st (.act none (.ex (some 20) (.call fn_spec_PrefixStates [.v 17, .v 19]))) K4_60
@[simp] def W4_61 := @Pl.wpe _ _ K4_61.eq_1
def K4_62 : Pl := .st (.act none (.px (some 18) (.mv (.v 1)))) <|
    .st (.act none (.ex (some 19) (.call fn_laws_toIntS [.v 18]))) K4_61
@[simp] def W4_62 := @Pl.wpe _ _ K4_62.eq_1
def K4_63 : C := .seq (.pl <| .st (.ext 16 8) <|
    .st (.act none (.pget (some 16) none 2 0 (some 3))) <|
    .st (.act none (.ex (some 17) (.call fn_laws_toAutomaton [.v 16]))) K4_62) K4_59
@[simp] def W4_63 := @C.wpe _ _ K4_63.eq_1
def K4_64 : C := .seq (.pl <| .st (.ext 16 0) <|
    .st (.act none (.px (some 3) (.mv (.c (.bool true))))) .done) (.ret)
@[simp] def W4_64 := @C.wpe _ _ K4_64.eq_1
def K4_65 : C := .cond 16 (.v 17) K4_64 (.skip)
@[simp] def W4_65 := @C.wpe _ _ K4_65.eq_1
def K4_66 : C := .seq (.seq (.pl <| .st (.ext 16 2) <|
    .st (.act none (.px (some 16) (.mv (.v 4)))) <|
    .st (.act none (.px (some 17) (.bin .lss (.v 16) (.c (.int .i64 0))))) .done) K4_65) K4_63
@[simp] def W4_66 := @C.wpe _ _ K4_66.eq_1
def K4_67 : Pl := .st (.act none (.px (some 4) (.mv (.v 18)))) .done
@[simp] def W4_67 := @Pl.wpe _ _ K4_67.eq_1
def K4_68 : C := .seq (.pl <| .st (.ext 16 3) <|
    .st (.act none (.pget (some 16) none 2 0 (some 3))) <|
    .st (.act none (.px (some 17) (.mv (.v 4)))) <|
    .st (.act none (.ex (some 18) (.call fn_laws_szAutomaton [.v 16, .v 17]))) K4_67) K4_66
@[simp] def W4_68 := @C.wpe _ _ K4_68.eq_1
def K4_69 : C := .seq (.pl <| .st (.ext 16 0) <|
    .st (.act none (.px (some 4) (.mv (.c (.int .i64 1048576))))) .done) K4_68
@[simp] def W4_69 := @C.wpe _ _ K4_69.eq_1
def K4_70 : C := .seq (.pl <| .st (.ext 16 0) <|
    .st (.act none (.px (some 3) (.mv (.c (.bool true))))) .done) (.ret)
@[simp] def W4_70 := @C.wpe _ _ K4_70.eq_1
def K4_71 : C := .cond 16 (.v 18) K4_70 (.skip)
@[simp] def W4_71 := @C.wpe _ _ K4_71.eq_1
def K4_72 : C := .seq (.seq (.pl <| .st (.ext 16 3) <|
    .st (.act none (.px (some 16) (.mv (.v 1)))) <|
    .st (.act none (.px (some 17) (.lenV (.v 16)))) <|
    .st (.act none (.px (some 18) (.bin .gtr (.v 17) (.c (.int .i64 1048576))))) .done) K4_71) K4_69
@[simp] def W4_72 := @C.wpe _ _ K4_72.eq_1
def B_laws_FnExactPrefixStates : C := .seq (.pl <| .st (.ext 16 0) <|
    .st (.act none (.pnew 2 (.v 0) [])) <|
    .st (.act none (.px (some 3) (.mv (.c (.bool false))))) .done) K4_72
@[simp] def WB_laws_FnExactPrefixStates := @C.wpe _ _ B_laws_FnExactPrefixStates.eq_1
def R_laws_FnExactPrefixStates : FIR := ⟨B_laws_FnExactPrefixStates, 16, [(3, none)]⟩
theorem IR_laws_FnExactPrefixStates : cfun Try.prog H_laws_FnExactPrefixStates Try.f4 = some R_laws_FnExactPrefixStates := by kernel_rfl
theorem EN_laws_FnExactPrefixStates {args : List Value} {h : Heap} {k : Value → Heap → Prop} (hargs : args.length = 2) (hw : B_laws_FnExactPrefixStates.wp Try.prog (retQ [(3, none)] k) (env0 args 16) h) : CallE Try.prog fn_laws_FnExactPrefixStates args h k := enter Try.func4 rfl IR_laws_FnExactPrefixStates hargs hw

def H_slices_ContainsFunc_S_int_int : Hint := ⟨[(0, false), (1, false), (4, false)], []⟩
def K105_1 : Pl := .st (.act none (.px (some 6) (.bin .geq (.v 5) (.c (.int .i64 0))))) <|
    .st (.act none (.px (some 2) (.mv (.v 6)))) .done
@[simp] def W105_1 := @Pl.wpe _ _ K105_1.eq_1
def K105_2 : C := .seq (.pl <| .st (.ext 3 4) <|
    .st (.act none (.px (some 3) (.mv (.v 0)))) <|
    .st (.act none (.px (some 4) (.mv (.v 1)))) <|
    .st (.act none (.ex (some 5) (.call fn_slices_IndexFunc_S_int_int [.v 3, .v 4]))) K105_1) (.ret)
@[simp] def W105_2 := @C.wpe _ _ K105_2.eq_1
def B_slices_ContainsFunc_S_int_int : C := .seq (.pl <| .st (.ext 3 0) <|
    .st (.act none (.px (some 2) (.mv (.c (.bool false))))) .done) K105_2
@[simp] def WB_slices_ContainsFunc_S_int_int := @C.wpe _ _ B_slices_ContainsFunc_S_int_int.eq_1
def R_slices_ContainsFunc_S_int_int : FIR := ⟨B_slices_ContainsFunc_S_int_int, 3, [(2, none)]⟩
theorem IR_slices_ContainsFunc_S_int_int : cfun Try.prog H_slices_ContainsFunc_S_int_int Try.f105 = some R_slices_ContainsFunc_S_int_int := by kernel_rfl
theorem EN_slices_ContainsFunc_S_int_int {args : List Value} {h : Heap} {k : Value → Heap → Prop} (hargs : args.length = 2) (hw : B_slices_ContainsFunc_S_int_int.wp Try.prog (retQ [(2, none)] k) (env0 args 3) h) : CallE Try.prog fn_slices_ContainsFunc_S_int_int args h k := enter Try.func105 rfl IR_slices_ContainsFunc_S_int_int hargs hw

def H_slices_IndexFunc_S_int_int : Hint := ⟨[(0, false), (1, false), (4, false), (5, false), (7, false), (8, false)], [[2, 3]]⟩
def K128_1 : C := .seq (.pl <| .st (.ext 6 0) <|
    .st (.act none (.px (some 2) (.mv (.c (.int .i64 (-1)))))) .done) (.ret)
@[simp] def W128_1 := @C.wpe _ _ K128_1.eq_1
def K128_2 : C := .pl <| .st (.ext 6 1) <|
    .st (.act none (.px (some 6) (.bin .add (.v 5) (.c (.int .i64 1))))) <|
    .st (.act none (.px (some 5) (.mv (.v 6)))) .done
@[simp] def W128_2 := @C.wpe _ _ K128_2.eq_1
def K128_3 : C := .seq (.pl <| .st (.ext 6 1) <|
    .st (.act none (.px (some 6) (.mv (.v 3)))) <|
    .st (.act none (.px (some 2) (.mv (.v 6)))) .done) (.ret)
@[simp] def W128_3 := @C.wpe _ _ K128_3.eq_1
def K128_4 : C := .cond 6 (.v 11) K128_3 (.skip)
@[simp] def W128_4 := @C.wpe _ _ K128_4.eq_1
def K128_5 : C := .seq (.pl <| .st (.ext 6 6) <|
    .st (.act none (.px (some 6) (.mv (.v 1)))) <|
    .st (.act none (.px (some 7) (.mv (.v 0)))) <|
    .st (.act none (.px (some 8) (.mv (.v 3)))) <|
    .st (.act none (.px (some 9) (.ia 1 (.v 7) (.v 8)))) <|
    .st (.act none (.ld (some 10) (.v 9) none)) <|
    .st (.act none (.ex (some 11) (.callv (.v 6) [.v 10]))) .done) K128_4
@[simp] def W128_5 := @C.wpe _ _ K128_5.eq_1
def K128_6 : C := .seq (.block 1 (.seq (.pl <| .st (.ext 6 1) <|
    .st (.act none (.px (some 6) (.mv (.v 5)))) <|
    .st (.act none (.px (some 3) (.mv (.v 6)))) .done) K128_5)) K128_2
@[simp] def W128_6 := @C.wpe _ _ K128_6.eq_1
def K128_7 : C := .seq (.cond 6 (.v 6) (.skip) (.exit 0)) K128_6
@[simp] def W128_7 := @C.wpe _ _ K128_7.eq_1
def K128_8 : C := .seq (.pl <| .st (.ext 6 1) <|
    .st (.act none (.px (some 6) (.bin .lss (.v 5) (.v 4)))) .done) K128_7
@[simp] def W128_8 := @C.wpe _ _ K128_8.eq_1
def K128_9 : C := .block 0 (.loop 6 [2, 3] K128_8)
@[simp] def W128_9 := @C.wpe _ _ K128_9.eq_1
def K128_10 : C := .seq (.seq (.pl <| .st (.ext 6 1) <|
    .st (.act none (.px (some 6) (.mv (.v 0)))) <|
    .st (.act none (.px (some 4) (.lenV (.v 6)))) <|
    .st (.act none (.px (some 5) (.mv (.c (.int .i64 0))))) .done) K128_9) K128_1
@[simp] def W128_10 := @C.wpe _ _ K128_10.eq_1
def B_slices_IndexFunc_S_int_int : C := .seq (.pl <| .st (.ext 6 0) <|
    .st (.act none (.px (some 2) (.mv (.c (.int .i64 0))))) .done) K128_10
@[simp] def WB_slices_IndexFunc_S_int_int := @C.wpe _ _ B_slices_IndexFunc_S_int_int.eq_1
def R_slices_IndexFunc_S_int_int : FIR := ⟨B_slices_IndexFunc_S_int_int, 6, [(2, none)]⟩
theorem IR_slices_IndexFunc_S_int_int : cfun Try.prog H_slices_IndexFunc_S_int_int Try.f128 = some R_slices_IndexFunc_S_int_int := by kernel_rfl
theorem EN_slices_IndexFunc_S_int_int {args : List Value} {h : Heap} {k : Value → Heap → Prop} (hargs : args.length = 2) (hw : B_slices_IndexFunc_S_int_int.wp Try.prog (retQ [(2, none)] k) (env0 args 6) h) : CallE Try.prog fn_slices_IndexFunc_S_int_int args h k := enter Try.func128 rfl IR_slices_IndexFunc_S_int_int hargs hw

def H_spec_PrefixStates : Hint := ⟨[(0, false), (1, false), (2, true), (4, false), (5, false)], []⟩
def K15_1 : Pl := .st (.act none (.px (some 3) (.mv (.v 7)))) <|
    .st (.act none (.px (some 4) (.mv (.c (.bool true))))) .done
@[simp] def W15_1 := @Pl.wpe _ _ K15_1.eq_1
def K15_2 : C := .seq (.pl <| .st (.ext 5 3) <|
    .st (.act none (.pget (some 5) none 2 0 (some 3))) <|
    .st (.act none (.px (some 6) (.mv (.v 1)))) <|
    .st (.act none (.ex (some 7) (.call fn_spec_l12States [.v 5, .v 6]))) K15_1) (.ret)
@[simp] def W15_2 := @C.wpe _ _ K15_2.eq_1
def K15_3 : Pl := .st (.act none (.px (some 3) (.mv (.v 5)))) <|
    .st (.act none (.px (some 4) (.mv (.c (.bool false))))) .done
@[simp] def W15_3 := @Pl.wpe _ _ K15_3.eq_1
def K15_4 : C := .seq (.pl <| .st (.ext 5 1) <|
    .st (.act none (.ex (some 5) (.bls 1 0 [.int .i64 0] []))) K15_3) (.ret)
@[simp] def W15_4 := @C.wpe _ _ K15_4.eq_1
def K15_5 : C := .cond 5 (.v 12) K15_4 (.skip)
@[simp] def W15_5 := @C.wpe _ _ K15_5.eq_1
def K15_6 : Pl := .st (.act (some (.v 8, false)) (.px (some 11) (.un .not (.v 10)))) <|
    .st (.act none (.px (some 12) (.pick (.v 8) (.c (.bool true)) (.v 11)))) .done
@[simp] def W15_6 := @Pl.wpe _ _ K15_6.eq_1
def K15_7 : Pl := .st (.act none (.px (some 7) (.un .not (.v 6)))) <|
    .st (.act none (.px (some 8) (.mv (.v 7)))) <|
    .st (.act (some (.v 8, false)) (.px (some 9) (.mv (.v 1)))) <|
    .st (.act (some (.v 8, false)) (.ex (some 10) (.call fn_spec_l12Word [.v 9]))) K15_6
@[simp] def W15_7 := @Pl.wpe _ _ K15_7.eq_1
def K15_8 : C := .seq (.seq (.pl <| .st (.ext 5 8) <|
    .st (.act none (.pget (some 5) none 2 0 (some 3))) <|
    .st (.act none (.ex (some 6) (.call fn_spec_AutomatonValid [.v 5]))) K15_7) K15_5) K15_2
@[simp] def W15_8 := @C.wpe _ _ K15_8.eq_1
def B_spec_PrefixStates : C := .seq (.pl <| .st (.ext 5 0) <|
    .st (.act none (.pnew 2 (.v 0) [])) <|
    .st (.act none (.px (some 3) (.mv (.c (.slice none 0 0))))) <|
    .st (.act none (.px (some 4) (.mv (.c (.bool false))))) .done) K15_8
@[simp] def WB_spec_PrefixStates := @C.wpe _ _ B_spec_PrefixStates.eq_1
def R_spec_PrefixStates : FIR := ⟨B_spec_PrefixStates, 5, [(3, none), (4, none)]⟩
theorem IR_spec_PrefixStates : cfun Try.prog H_spec_PrefixStates Try.f15 = some R_spec_PrefixStates := by kernel_rfl
theorem EN_spec_PrefixStates {args : List Value} {h : Heap} {k : Value → Heap → Prop} (hargs : args.length = 2) (hw : B_spec_PrefixStates.wp Try.prog (retQ [(3, none), (4, none)] k) (env0 args 5) h) : CallE Try.prog fn_spec_PrefixStates args h k := enter Try.func15 rfl IR_spec_PrefixStates hargs hw

def H_spec_l10Sorted : Hint := ⟨[(0, false), (1, false), (4, false), (5, false), (6, false), (7, false)], [[2]]⟩
def K81_1 : C := .seq (.pl <| .st (.ext 6 1) <|
    .st (.act none (.px (some 6) (.mv (.v 3)))) <|
    .st (.act none (.px (some 2) (.mv (.v 6)))) .done) (.ret)
@[simp] def W81_1 := @C.wpe _ _ K81_1.eq_1
def K81_2 : Pl := .st (.act none (.px (some 3) (.mv (.v 9)))) .done
@[simp] def W81_2 := @Pl.wpe _ _ K81_2.eq_1
def K81_3 : C := .pl <| .st (.ext 6 4) <|
    .st (.act none (.px (some 6) (.mv (.v 3)))) <|
    .st (.act none (.px (some 7) (.mv (.v 1)))) <|
    .st (.act none (.psl 8 [.int .i64 0] [(0, 1, .v 7)])) <|
    .st (.act none (.ex (some 9) (.app 8 1 [.int .i64 0] (.o (.v 6)) (.p 1 8)))) K81_2
@[simp] def W81_3 := @C.wpe _ _ K81_3.eq_1
def K81_4 : C := .cond 6 (.v 7) K81_3 (.skip)
@[simp] def W81_4 := @C.wpe _ _ K81_4.eq_1
def K81_5 : C := .seq (.seq (.pl <| .st (.ext 6 2) <|
    .st (.act none (.px (some 6) (.mv (.v 4)))) <|
    .st (.act none (.px (some 7) (.un .not (.v 6)))) .done) K81_4) K81_1
@[simp] def W81_5 := @C.wpe _ _ K81_5.eq_1
def K81_6 : C := .pl <| .st (.ext 6 2) <|
    .st (.act none (.px (some 6) (.mv (.v 5)))) <|
    .st (.act none (.px (some 7) (.bin .add (.v 6) (.c (.int .i64 1))))) <|
    .st (.act none (.px (some 5) (.mv (.v 7)))) .done
@[simp] def W81_6 := @C.wpe _ _ K81_6.eq_1
def K81_7 : Pl := .st (.act none (.px (some 3) (.mv (.v 12)))) .done
@[simp] def W81_7 := @Pl.wpe _ _ K81_7.eq_1
def K81_8 : C := .pl <| .st (.ext 6 7) <|
    .st (.act none (.px (some 6) (.mv (.v 3)))) <|
    .st (.act none (.px (some 7) (.mv (.v 0)))) <|
    .st (.act none (.px (some 8) (.mv (.v 5)))) <|
    .st (.act none (.px (some 9) (.ia 1 (.v 7) (.v 8)))) <|
    .st (.act none (.ld (some 10) (.v 9) none)) <|
    .st (.act none (.psl 11 [.int .i64 0] [(0, 1, .v 10)])) <|
    .st (.act none (.ex (some 12) (.app 8 1 [.int .i64 0] (.o (.v 6)) (.p 1 11)))) K81_7
@[simp] def W81_8 := @C.wpe _ _ K81_8.eq_1
def K81_9 : C := .pl <| .st (.ext 6 0) <|
    .st (.act none (.px (some 4) (.mv (.c (.bool true))))) .done
@[simp] def W81_9 := @C.wpe _ _ K81_9.eq_1
def K81_10 : Pl := .st (.act none (.px (some 3) (.mv (.v 9)))) .done
@[simp] def W81_10 := @Pl.wpe _ _ K81_10.eq_1
def K81_11 : C := .seq (.pl <| .st (.ext 6 4) <|
    .st (.act none (.px (some 6) (.mv (.v 3)))) <|
    .st (.act none (.px (some 7) (.mv (.v 1)))) <|
    .st (.act none (.psl 8 [.int .i64 0] [(0, 1, .v 7)])) <|
    .st (.act none (.ex (some 9) (.app 8 1 [.int .i64 0] (.o (.v 6)) (.p 1 8)))) K81_10) K81_9
@[simp] def W81_11 := @C.wpe _ _ K81_11.eq_1
def K81_12 : C := .cond 6 (.v 15) K81_11 (.skip)
@[simp] def W81_12 := @C.wpe _ _ K81_12.eq_1
def K81_13 : C := .seq (.seq (.pl <| .st (.ext 6 10) <|
    .st (.act none (.px (some 6) (.mv (.v 0)))) <|
    .st (.act none (.px (some 7) (.mv (.v 5)))) <|
    .st (.act none (.px (some 8) (.ia 1 (.v 6) (.v 7)))) <|
    .st (.act none (.ld (some 9) (.v 8) none)) <|
    .st (.act none (.px (some 10) (.mv (.v 1)))) <|
    .st (.act none (.px (some 11) (.bin .gtr (.v 9) (.v 10)))) <|
    .st (.act none (.px (some 12) (.mv (.v 11)))) <|
    .st (.act (some (.v 12, true)) (.px (some 13) (.mv (.v 4)))) <|
    .st (.act (some (.v 12, true)) (.px (some 14) (.un .not (.v 13)))) <|
    .st (.act none (.px (some 15) (.pick (.v 12) (.v 14) (.c (.bool false))))) .done) K81_12) K81_8
@[simp] def W81_13 := @C.wpe _ _ K81_13.eq_1
def K81_14 : C := .seq (.pl <| .st (.ext 6 1) <|
    .st (.act none (.px (some 6) (.mv (.v 0)))) <|
    .st (.act none (.px (some 2) (.mv (.v 6)))) .done) (.ret)
@[simp] def W81_14 := @C.wpe _ _ K81_14.eq_1
def K81_15 : C := .cond 6 (.v 11) K81_14 (.skip)
@[simp] def W81_15 := @C.wpe _ _ K81_15.eq_1
def K81_16 : C := .seq (.block 1 (.seq (.seq (.pl <| .st (.ext 6 6) <|
    .st (.act none (.px (some 6) (.mv (.v 0)))) <|
    .st (.act none (.px (some 7) (.mv (.v 5)))) <|
    .st (.act none (.px (some 8) (.ia 1 (.v 6) (.v 7)))) <|
    .st (.act none (.ld (some 9) (.v 8) none)) <|
    .st (.act none (.px (some 10) (.mv (.v 1)))) <|
    .st (.act none (.px (some 11) (.bin .eql (.v 9) (.v 10)))) .done) K81_15) K81_13)) K81_6
@[simp] def W81_16 := @C.wpe _ _ K81_16.eq_1
def K81_17 : C := .cond 6 (.v 9) (.skip) (.exit 0)
@[simp] def W81_17 := @C.wpe _ _ K81_17.eq_1
def K81_18 : C := .seq (.seq (.pl <| .st (.ext 6 4) <|
    .st (.act none (.px (some 6) (.mv (.v 5)))) <|
    .st (.act none (.px (some 7) (.mv (.v 0)))) <|
    .st (.act none (.px (some 8) (.lenV (.v 7)))) <|
    .st (.act none (.px (some 9) (.bin .lss (.v 6) (.v 8)))) .done) K81_17) K81_16
@[simp] def W81_18 := @C.wpe _ _ K81_18.eq_1
def K81_19 : C := .block 0 (.loop 6 [2] K81_18)
@[simp] def W81_19 := @C.wpe _ _ K81_19.eq_1
def K81_20 : C := .seq (.seq (.pl <| .st (.ext 6 0) <|
    .st (.act none (.px (some 5) (.mv (.c (.int .i64 0))))) .done) K81_19) K81_5
@[simp] def W81_20 := @C.wpe _ _ K81_20.eq_1
def K81_21 : C := .seq (.pl <| .st (.ext 6 0) <|
    .st (.act none (.px (some 4) (.mv (.c (.bool false))))) .done) K81_20
@[simp] def W81_21 := @C.wpe _ _ K81_21.eq_1
def K81_22 : Pl := .st (.act none (.px (some 3) (.mv (.v 6)))) .done
@[simp] def W81_22 := @Pl.wpe _ _ K81_22.eq_1
def K81_23 : C := .seq (.pl <| .st (.ext 6 1) <|
    .st (.act none (.ex (some 6) (.bls 1 0 [.int .i64 0] []))) K81_22) K81_21
@[simp] def W81_23 := @C.wpe _ _ K81_23.eq_1
def B_spec_l10Sorted : C := .seq (.pl <| .st (.ext 6 0) <|
    .st (.act none (.px (some 2) (.mv (.c (.slice none 0 0))))) .done) K81_23
@[simp] def WB_spec_l10Sorted := @C.wpe _ _ B_spec_l10Sorted.eq_1
def R_spec_l10Sorted : FIR := ⟨B_spec_l10Sorted, 6, [(2, none)]⟩
theorem IR_spec_l10Sorted : cfun Try.prog H_spec_l10Sorted Try.f81 = some R_spec_l10Sorted := by kernel_rfl
theorem EN_spec_l10Sorted {args : List Value} {h : Heap} {k : Value → Heap → Prop} (hargs : args.length = 2) (hw : B_spec_l10Sorted.wp Try.prog (retQ [(2, none)] k) (env0 args 6) h) : CallE Try.prog fn_spec_l10Sorted args h k := enter Try.func81 rfl IR_spec_l10Sorted hargs hw

def H_spec_l12Only : Hint := ⟨[(0, false), (1, false), (4, false), (5, false), (6, false)], [[2]]⟩
def K74_1 : C := .seq (.pl <| .st (.ext 5 1) <|
    .st (.act none (.px (some 5) (.mv (.v 3)))) <|
    .st (.act none (.px (some 2) (.mv (.v 5)))) .done) (.ret)
@[simp] def W74_1 := @C.wpe _ _ K74_1.eq_1
def K74_2 : C := .pl <| .st (.ext 5 2) <|
    .st (.act none (.px (some 5) (.mv (.v 4)))) <|
    .st (.act none (.px (some 6) (.bin .add (.v 5) (.c (.int .i64 1))))) <|
    .st (.act none (.px (some 4) (.mv (.v 6)))) .done
@[simp] def W74_2 := @C.wpe _ _ K74_2.eq_1
def K74_3 : Pl := .st (.act none (.px (some 3) (.mv (.v 11)))) .done
@[simp] def W74_3 := @Pl.wpe _ _ K74_3.eq_1
def K74_4 : C := .pl <| .st (.ext 5 7) <|
    .st (.act none (.px (some 5) (.mv (.v 3)))) <|
    .st (.act none (.px (some 6) (.mv (.v 0)))) <|
    .st (.act none (.px (some 7) (.mv (.v 4)))) <|
    .st (.act none (.px (some 8) (.ia 1 (.v 6) (.v 7)))) <|
    .st (.act none (.ld (some 9) (.v 8) none)) <|
    .st (.act none (.psl 10 [.int .i64 0] [(0, 1, .v 9)])) <|
    .st (.act none (.ex (some 11) (.app 8 1 [.int .i64 0] (.o (.v 5)) (.p 1 10)))) K74_3
@[simp] def W74_4 := @C.wpe _ _ K74_4.eq_1
def K74_5 : C := .cond 5 (.v 11) K74_4 (.skip)
@[simp] def W74_5 := @C.wpe _ _ K74_5.eq_1
def K74_6 : C := .seq (.block 1 (.seq (.pl <| .st (.ext 5 7) <|
    .st (.act none (.px (some 5) (.mv (.v 1)))) <|
    .st (.act none (.px (some 6) (.mv (.v 0)))) <|
    .st (.act none (.px (some 7) (.mv (.v 4)))) <|
    .st (.act none (.px (some 8) (.ia 1 (.v 6) (.v 7)))) <|
    .st (.act none (.ld (some 9) (.v 8) none)) <|
    .st (.act none (.px (some 10) (.ia 1 (.v 5) (.v 9)))) <|
    .st (.act none (.ld (some 11) (.v 10) none)) .done) K74_5)) K74_2
@[simp] def W74_6 := @C.wpe _ _ K74_6.eq_1
def K74_7 : C := .cond 5 (.v 8) (.skip) (.exit 0)
@[simp] def W74_7 := @C.wpe _ _ K74_7.eq_1
def K74_8 : C := .seq (.seq (.pl <| .st (.ext 5 4) <|
    .st (.act none (.px (some 5) (.mv (.v 4)))) <|
    .st (.act none (.px (some 6) (.mv (.v 0)))) <|
    .st (.act none (.px (some 7) (.lenV (.v 6)))) <|
    .st (.act none (.px (some 8) (.bin .lss (.v 5) (.v 7)))) .done) K74_7) K74_6
@[simp] def W74_8 := @C.wpe _ _ K74_8.eq_1
def K74_9 : C := .block 0 (.loop 5 [2] K74_8)
@[simp] def W74_9 := @C.wpe _ _ K74_9.eq_1
def K74_10 : C := .seq (.seq (.pl <| .st (.ext 5 0) <|
    .st (.act none (.px (some 4) (.mv (.c (.int .i64 0))))) .done) K74_9) K74_1
@[simp] def W74_10 := @C.wpe _ _ K74_10.eq_1
def K74_11 : Pl := .st (.act none (.px (some 3) (.mv (.v 5)))) .done
@[simp] def W74_11 := @Pl.wpe _ _ K74_11.eq_1
def K74_12 : C := .seq (.pl <| .st (.ext 5 1) <|
    .st (.act none (.ex (some 5) (.bls 1 0 [.int .i64 0] []))) K74_11) K74_10
@[simp] def W74_12 := @C.wpe _ _ K74_12.eq_1
def B_spec_l12Only : C := .seq (.pl <| .st (.ext 5 0) <|
    .st (.act none (.px (some 2) (.mv (.c (.slice none 0 0))))) .done) K74_12
@[simp] def WB_spec_l12Only := @C.wpe _ _ B_spec_l12Only.eq_1
def R_spec_l12Only : FIR := ⟨B_spec_l12Only, 5, [(2, none)]⟩
theorem IR_spec_l12Only : cfun Try.prog H_spec_l12Only Try.f74 = some R_spec_l12Only := by kernel_rfl
theorem EN_spec_l12Only {args : List Value} {h : Heap} {k : Value → Heap → Prop} (hargs : args.length = 2) (hw : B_spec_l12Only.wp Try.prog (retQ [(2, none)] k) (env0 args 5) h) : CallE Try.prog fn_spec_l12Only args h k := enter Try.func74 rfl IR_spec_l12Only hargs hw

def H_spec_l12States : Hint := ⟨[(0, false), (1, false), (2, true), (4, false), (5, false), (6, false), (7, false)], [[0, 3]]⟩
def K46_1 : Pl := .st (.act none (.px (some 3) (.mv (.v 9)))) .done
@[simp] def W46_1 := @Pl.wpe _ _ K46_1.eq_1
def K46_2 : C := .seq (.pl <| .st (.ext 7 3) <|
    .st (.act none (.psl 7 [] [])) <|
    .st (.act none (.px (some 8) (.mv (.v 5)))) <|
    .st (.act none (.ex (some 9) (.app 8 1 [.int .i64 0] (.p 0 7) (.o (.v 8))))) K46_1) (.ret)
@[simp] def W46_2 := @C.wpe _ _ K46_2.eq_1
def K46_3 : C := .pl <| .st (.ext 7 2) <|
    .st (.act none (.px (some 7) (.mv (.v 6)))) <|
    .st (.act none (.px (some 8) (.bin .add (.v 7) (.c (.int .i64 1))))) <|
    .st (.act none (.px (some 6) (.mv (.v 8)))) .done
@[simp] def W46_3 := @C.wpe _ _ K46_3.eq_1
def K46_4 : Pl := .st (.act none (.px (some 5) (.mv (.v 15)))) .done
@[simp] def W46_4 := @Pl.wpe _ _ K46_4.eq_1
def K46_5 : Pl := .st (.act none (.ex (some 15) (.call fn_spec_l12Only [.v 13, .v 14]))) K46_4
@[simp] def W46_5 := @Pl.wpe _ _ K46_5.eq_1
def K46_6 : C := .seq (.block 1 (.pl <| .st (.ext 7 9) <|
    .st (.act none (.pget (some 7) none 2 0 (some 3))) <|
    .st (.act none (.px (some 8) (.mv (.v 5)))) <|
    .st (.act none (.px (some 9) (.mv (.v 1)))) <|
    .st (.act none (.px (some 10) (.mv (.v 6)))) <|
    .st (.act none (.px (some 11) (.ia 1 (.v 9) (.v 10)))) <|
    .st (.act none (.ld (some 12) (.v 11) none)) <|
    .st (.act none (.px (some 14) (.mv (.v 4)))) <|
    .st (.act none (.ex (some 13) (.call fn_spec_l12Step [.v 7, .v 8, .v 12]))) K46_5)) K46_3
@[simp] def W46_6 := @C.wpe _ _ K46_6.eq_1
def K46_7 : C := .cond 7 (.v 10) (.skip) (.exit 0)
@[simp] def W46_7 := @C.wpe _ _ K46_7.eq_1
def K46_8 : C := .seq (.seq (.pl <| .st (.ext 7 4) <|
    .st (.act none (.px (some 7) (.mv (.v 6)))) <|
    .st (.act none (.px (some 8) (.mv (.v 1)))) <|
    .st (.act none (.px (some 9) (.lenV (.v 8)))) <|
    .st (.act none (.px (some 10) (.bin .lss (.v 7) (.v 9)))) .done) K46_7) K46_6
@[simp] def W46_8 := @C.wpe _ _ K46_8.eq_1
def K46_9 : C := .block 0 (.loop 7 [0, 3] K46_8)
@[simp] def W46_9 := @C.wpe _ _ K46_9.eq_1
def K46_10 : C := .seq (.seq (.pl <| .st (.ext 7 0) <|
    .st (.act none (.px (some 6) (.mv (.c (.int .i64 0))))) .done) K46_9) K46_2
@[simp] def W46_10 := @C.wpe _ _ K46_10.eq_1
def K46_11 : Pl := .st (.act none (.px (some 5) (.mv (.v 10)))) .done
@[simp] def W46_11 := @Pl.wpe _ _ K46_11.eq_1
def K46_12 : C := .seq (.pl <| .st (.ext 7 4) <|
    .st (.act none (.als 7 none 2)) <|
    .st (.act none (.pget (some 8) (some 7) 2 0 none)) <|
    .st (.act none (.px (some 9) (.mv (.v 4)))) <|
    .st (.act none (.ex (some 10) (.call fn_spec_l12Only [.v 8, .v 9]))) K46_11) K46_10
@[simp] def W46_12 := @C.wpe _ _ K46_12.eq_1
def K46_13 : Pl := .st (.act none (.px (some 4) (.mv (.v 8)))) .done
@[simp] def W46_13 := @Pl.wpe _ _ K46_13.eq_1
def K46_14 : C := .seq (.pl <| .st (.ext 7 2) <|
    .st (.act none (.pget (some 7) none 2 0 (some 3))) <|
    .st (.act none (.ex (some 8) (.call fn_spec_LiveStates [.v 7]))) K46_13) K46_12
@[simp] def W46_14 := @C.wpe _ _ K46_14.eq_1
def B_spec_l12States : C := .seq (.pl <| .st (.ext 7 0) <|
    .st (.act none (.pnew 2 (.v 0) [])) <|
    .st (.act none (.px (some 3) (.mv (.c (.slice none 0 0))))) .done) K46_14
@[simp] def WB_spec_l12States := @C.wpe _ _ B_spec_l12States.eq_1
def R_spec_l12States : FIR := ⟨B_spec_l12States, 7, [(3, none)]⟩
theorem IR_spec_l12States : cfun Try.prog H_spec_l12States Try.f46 = some R_spec_l12States := by kernel_rfl
theorem EN_spec_l12States {args : List Value} {h : Heap} {k : Value → Heap → Prop} (hargs : args.length = 2) (hw : B_spec_l12States.wp Try.prog (retQ [(3, none)] k) (env0 args 7) h) : CallE Try.prog fn_spec_l12States args h k := enter Try.func46 rfl IR_spec_l12States hargs hw

def H_spec_l12Step : Hint := ⟨[(0, false), (1, false), (2, false), (3, true), (6, false), (7, false), (8, false)], [[0, 4]]⟩
def K75_1 : C := .seq (.pl <| .st (.ext 7 1) <|
    .st (.act none (.px (some 7) (.mv (.v 5)))) <|
    .st (.act none (.px (some 4) (.mv (.v 7)))) .done) (.ret)
@[simp] def W75_1 := @C.wpe _ _ K75_1.eq_1
def K75_2 : C := .pl <| .st (.ext 7 2) <|
    .st (.act none (.px (some 7) (.mv (.v 6)))) <|
    .st (.act none (.px (some 8) (.bin .add (.v 7) (.c (.int .i64 1))))) <|
    .st (.act none (.px (some 6) (.mv (.v 8)))) .done
@[simp] def W75_2 := @C.wpe _ _ K75_2.eq_1
def K75_3 : Pl := .st (.act none (.px (some 5) (.mv (.v 14)))) .done
@[simp] def W75_3 := @Pl.wpe _ _ K75_3.eq_1
def K75_4 : C := .pl <| .st (.ext 7 8) <|
    .st (.act none (.px (some 7) (.mv (.v 5)))) <|
    .st (.act none (.als 8 none 3)) <|
    .st (.act none (.pget (some 9) (some 8) 3 2 none)) <|
    .st (.act none (.px (some 10) (.mv (.v 6)))) <|
    .st (.act none (.px (some 11) (.ia 4 (.v 9) (.v 10)))) <|
    .st (.act none (.px (some 12) (.fa 3 (.v 11)))) <|
    .st (.act none (.ld (some 13) (.v 12) none)) <|
    .st (.act none (.ex (some 14) (.call fn_spec_l10Sorted [.v 7, .v 13]))) K75_3
@[simp] def W75_4 := @C.wpe _ _ K75_4.eq_1
def K75_5 : C := .cond 7 (.v 23) K75_4 (.skip)
@[simp] def W75_5 := @C.wpe _ _ K75_5.eq_1
def K75_6 : Pl := .st (.act none (.px (some 23) (.pick (.v 15) (.v 22) (.c (.bool false))))) .done
@[simp] def W75_6 := @Pl.wpe _ _ K75_6.eq_1
def K75_7 : Pl := .st (.act none (.px (some 15) (.mv (.v 14)))) <|
    .st (.act (some (.v 15, true)) (.als 16 none 3)) <|
    .st (.act (some (.v 15, true)) (.pget (some 17) (some 16) 3 2 none)) <|
    .st (.act (some (.v 15, true)) (.px (some 18) (.mv (.v 6)))) <|
    .st (.act (some (.v 15, true)) (.px (some 19) (.ia 4 (.v 17) (.v 18)))) <|
    .st (.act (some (.v 15, true)) (.ld (some 20) (.v 19) (some 4))) <|
    .st (.act (some (.v 15, true)) (.px (some 21) (.mv (.v 2)))) <|
    .st (.act (some (.v 15, true)) (.ex (some 22) (.call fn_spec_l7On [.v 20, .v 21]))) K75_6
@[simp] def W75_7 := @Pl.wpe _ _ K75_7.eq_1
def K75_8 : C := .seq (.block 1 (.seq (.pl <| .st (.ext 7 17) <|
    .st (.act none (.px (some 7) (.mv (.v 1)))) <|
    .st (.act none (.als 8 none 3)) <|
    .st (.act none (.pget (some 9) (some 8) 3 2 none)) <|
    .st (.act none (.px (some 10) (.mv (.v 6)))) <|
    .st (.act none (.px (some 11) (.ia 4 (.v 9) (.v 10)))) <|
    .st (.act none (.px (some 12) (.fa 0 (.v 11)))) <|
    .st (.act none (.ld (some 13) (.v 12) none)) <|
    .st (.act none (.ex (some 14) (.call fn_spec_l4In [.v 7, .v 13]))) K75_7) K75_5)) K75_2
@[simp] def W75_8 := @C.wpe _ _ K75_8.eq_1
def K75_9 : C := .cond 7 (.v 11) (.skip) (.exit 0)
@[simp] def W75_9 := @C.wpe _ _ K75_9.eq_1
def K75_10 : C := .seq (.seq (.pl <| .st (.ext 7 5) <|
    .st (.act none (.px (some 7) (.mv (.v 6)))) <|
    .st (.act none (.als 8 none 3)) <|
    .st (.act none (.pget (some 9) (some 8) 3 2 none)) <|
    .st (.act none (.px (some 10) (.lenV (.v 9)))) <|
    .st (.act none (.px (some 11) (.bin .lss (.v 7) (.v 10)))) .done) K75_9) K75_8
@[simp] def W75_10 := @C.wpe _ _ K75_10.eq_1
def K75_11 : C := .block 0 (.loop 7 [0, 4] K75_10)
@[simp] def W75_11 := @C.wpe _ _ K75_11.eq_1
def K75_12 : C := .seq (.seq (.pl <| .st (.ext 7 0) <|
    .st (.act none (.px (some 6) (.mv (.c (.int .i64 0))))) .done) K75_11) K75_1
@[simp] def W75_12 := @C.wpe _ _ K75_12.eq_1
def K75_13 : Pl := .st (.act none (.px (some 5) (.mv (.v 7)))) .done
@[simp] def W75_13 := @Pl.wpe _ _ K75_13.eq_1
def K75_14 : C := .seq (.pl <| .st (.ext 7 1) <|
    .st (.act none (.ex (some 7) (.bls 1 0 [.int .i64 0] []))) K75_13) K75_12
@[simp] def W75_14 := @C.wpe _ _ K75_14.eq_1
def B_spec_l12Step : C := .seq (.pl <| .st (.ext 7 0) <|
    .st (.act none (.pnew 3 (.v 0) [])) <|
    .st (.act none (.px (some 4) (.mv (.c (.slice none 0 0))))) .done) K75_14
@[simp] def WB_spec_l12Step := @C.wpe _ _ B_spec_l12Step.eq_1
def R_spec_l12Step : FIR := ⟨B_spec_l12Step, 7, [(4, none)]⟩
theorem IR_spec_l12Step : cfun Try.prog H_spec_l12Step Try.f75 = some R_spec_l12Step := by kernel_rfl
theorem EN_spec_l12Step {args : List Value} {h : Heap} {k : Value → Heap → Prop} (hargs : args.length = 3) (hw : B_spec_l12Step.wp Try.prog (retQ [(4, none)] k) (env0 args 7) h) : CallE Try.prog fn_spec_l12Step args h k := enter Try.func75 rfl IR_spec_l12Step hargs hw

def H_spec_l12Word : Hint := ⟨[(0, false), (2, false)], []⟩
def K45_1 : Pl := .st (.act none (.px (some 4) (.mv (.v 3)))) <|
    .st (.act (some (.v 4, true)) (.px (some 5) (.mv (.v 0)))) <|
    .st (.act (some (.v 4, true)) (.px (some 6) (.lenV (.v 5)))) <|
    .st (.act (some (.v 4, true)) (.px (some 7) (.bin .leq (.v 6) (.c (.int .i64 200))))) <|
    .st (.act none (.px (some 8) (.pick (.v 4) (.v 7) (.c (.bool false))))) <|
    .st (.act none (.px (some 1) (.mv (.v 8)))) .done
@[simp] def W45_1 := @Pl.wpe _ _ K45_1.eq_1
def K45_2 : C := .seq (.pl <| .st (.ext 2 7) <|
    .st (.act none (.px (some 2) (.mv (.v 0)))) <|
    .st (.act none (.ex (some 3) (.call fn_spec_l6Letters [.v 2]))) K45_1) (.ret)
@[simp] def W45_2 := @C.wpe _ _ K45_2.eq_1
def B_spec_l12Word : C := .seq (.pl <| .st (.ext 2 0) <|
    .st (.act none (.px (some 1) (.mv (.c (.bool false))))) .done) K45_2
@[simp] def WB_spec_l12Word := @C.wpe _ _ B_spec_l12Word.eq_1
def R_spec_l12Word : FIR := ⟨B_spec_l12Word, 2, [(1, none)]⟩
theorem IR_spec_l12Word : cfun Try.prog H_spec_l12Word Try.f45 = some R_spec_l12Word := by kernel_rfl
theorem EN_spec_l12Word {args : List Value} {h : Heap} {k : Value → Heap → Prop} (hargs : args.length = 1) (hw : B_spec_l12Word.wp Try.prog (retQ [(1, none)] k) (env0 args 2) h) : CallE Try.prog fn_spec_l12Word args h k := enter Try.func45 rfl IR_spec_l12Word hargs hw

def H_spec_l6Letters : Hint := ⟨[(0, false), (2, false), (3, false)], [[1]]⟩
def K73_1 : C := .seq (.pl <| .st (.ext 3 0) <|
    .st (.act none (.px (some 1) (.mv (.c (.bool true))))) .done) (.ret)
@[simp] def W73_1 := @C.wpe _ _ K73_1.eq_1
def K73_2 : C := .pl <| .st (.ext 3 2) <|
    .st (.act none (.px (some 3) (.mv (.v 2)))) <|
    .st (.act none (.px (some 4) (.bin .add (.v 3) (.c (.int .i64 1))))) <|
    .st (.act none (.px (some 2) (.mv (.v 4)))) .done
@[simp] def W73_2 := @C.wpe _ _ K73_2.eq_1
def K73_3 : C := .seq (.pl <| .st (.ext 3 0) <|
    .st (.act none (.px (some 1) (.mv (.c (.bool false))))) .done) (.ret)
@[simp] def W73_3 := @C.wpe _ _ K73_3.eq_1
def K73_4 : C := .cond 3 (.v 14) K73_3 (.skip)
@[simp] def W73_4 := @C.wpe _ _ K73_4.eq_1
def K73_5 : C := .seq (.block 1 (.seq (.pl <| .st (.ext 3 12) <|
    .st (.act none (.px (some 3) (.mv (.v 0)))) <|
    .st (.act none (.px (some 4) (.mv (.v 2)))) <|
    .st (.act none (.px (some 5) (.ia 1 (.v 3) (.v 4)))) <|
    .st (.act none (.ld (some 6) (.v 5) none)) <|
    .st (.act none (.px (some 7) (.bin .lss (.v 6) (.c (.int .i64 0))))) <|
    .st (.act none (.px (some 8) (.mv (.v 7)))) <|
    .st (.act (some (.v 8, false)) (.px (some 9) (.mv (.v 0)))) <|
    .st (.act (some (.v 8, false)) (.px (some 10) (.mv (.v 2)))) <|
    .st (.act (some (.v 8, false)) (.px (some 11) (.ia 1 (.v 9) (.v 10)))) <|
    .st (.act (some (.v 8, false)) (.ld (some 12) (.v 11) none)) <|
    .st (.act (some (.v 8, false)) (.px (some 13) (.bin .gtr (.v 12) (.c (.int .i64 7))))) <|
    .st (.act none (.px (some 14) (.pick (.v 8) (.c (.bool true)) (.v 13)))) .done) K73_4)) K73_2
@[simp] def W73_5 := @C.wpe _ _ K73_5.eq_1
def K73_6 : C := .cond 3 (.v 6) (.skip) (.exit 0)
@[simp] def W73_6 := @C.wpe _ _ K73_6.eq_1
def K73_7 : C := .seq (.seq (.pl <| .st (.ext 3 4) <|
    .st (.act none (.px (some 3) (.mv (.v 2)))) <|
    .st (.act none (.px (some 4) (.mv (.v 0)))) <|
    .st (.act none (.px (some 5) (.lenV (.v 4)))) <|
    .st (.act none (.px (some 6) (.bin .lss (.v 3) (.v 5)))) .done) K73_6) K73_5
@[simp] def W73_7 := @C.wpe _ _ K73_7.eq_1
def K73_8 : C := .block 0 (.loop 3 [1] K73_7)
@[simp] def W73_8 := @C.wpe _ _ K73_8.eq_1
def K73_9 : C := .seq (.seq (.pl <| .st (.ext 3 0) <|
    .st (.act none (.px (some 2) (.mv (.c (.int .i64 0))))) .done) K73_8) K73_1
@[simp] def W73_9 := @C.wpe _ _ K73_9.eq_1
def B_spec_l6Letters : C := .seq (.pl <| .st (.ext 3 0) <|
    .st (.act none (.px (some 1) (.mv (.c (.bool false))))) .done) K73_9
@[simp] def WB_spec_l6Letters := @C.wpe _ _ B_spec_l6Letters.eq_1
def R_spec_l6Letters : FIR := ⟨B_spec_l6Letters, 3, [(1, none)]⟩
theorem IR_spec_l6Letters : cfun Try.prog H_spec_l6Letters Try.f73 = some R_spec_l6Letters := by kernel_rfl
theorem EN_spec_l6Letters {args : List Value} {h : Heap} {k : Value → Heap → Prop} (hargs : args.length = 1) (hw : B_spec_l6Letters.wp Try.prog (retQ [(1, none)] k) (env0 args 3) h) : CallE Try.prog fn_spec_l6Letters args h k := enter Try.func73 rfl IR_spec_l6Letters hargs hw

def H_spec_l7On : Hint := ⟨[(0, false), (1, false), (2, true), (4, false)], []⟩
def K104_1 : C := .seq (.pl <| .st (.ext 4 7) <|
    .st (.act none (.px (some 4) (.mv (.v 1)))) <|
    .st (.act none (.als 5 none 2)) <|
    .st (.act none (.pget (some 6) (some 5) 2 1 none)) <|
    .st (.act none (.px (some 7) (.bin .and (.v 4) (.v 6)))) <|
    .st (.act none (.als 8 none 2)) <|
    .st (.act none (.pget (some 9) (some 8) 2 2 none)) <|
    .st (.act none (.px (some 10) (.bin .eql (.v 7) (.v 9)))) <|
    .st (.act none (.px (some 3) (.mv (.v 10)))) .done) (.ret)
@[simp] def W104_1 := @C.wpe _ _ K104_1.eq_1
def B_spec_l7On : C := .seq (.pl <| .st (.ext 4 0) <|
    .st (.act none (.pnew 2 (.v 0) [])) <|
    .st (.act none (.px (some 3) (.mv (.c (.bool false))))) .done) K104_1
@[simp] def WB_spec_l7On := @C.wpe _ _ B_spec_l7On.eq_1
def R_spec_l7On : FIR := ⟨B_spec_l7On, 4, [(3, none)]⟩
theorem IR_spec_l7On : cfun Try.prog H_spec_l7On Try.f104 = some R_spec_l7On := by kernel_rfl
theorem EN_spec_l7On {args : List Value} {h : Heap} {k : Value → Heap → Prop} (hargs : args.length = 2) (hw : B_spec_l7On.wp Try.prog (retQ [(3, none)] k) (env0 args 4) h) : CallE Try.prog fn_spec_l7On args h k := enter Try.func104 rfl IR_spec_l7On hargs hw


end Go.Proofs.Ytknkjplnngeebaa
