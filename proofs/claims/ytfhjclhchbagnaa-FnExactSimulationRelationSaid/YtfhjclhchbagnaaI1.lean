/-
  The bodies of the functions in the small language, as a program printed them, and that each is what the translation gives.
-/
import Derived.Test.YtfhjclhchbagnaaRows
import Derived.Test.YtfhjclhchbagnaaG20
namespace Go.Proofs.Ytfhjclhchbagnaa
open Go
set_option linter.all false
set_option linter.defProp false

abbrev fn_main_main : Nat := 0
abbrev fn_gosem_cut : Nat := 1
abbrev fn_gosem_cut_init : Nat := 2
abbrev fn_laws_FnExactIncludesAutomaton : Nat := 3
abbrev fn_laws_FnExactSimulationRelation : Nat := 4
abbrev fn_laws_szAutomaton : Nat := 5
abbrev fn_spec_IncludesAutomaton : Nat := 6
abbrev fn_laws_toAutomaton : Nat := 7
abbrev fn_impl_IncludesAutomaton : Nat := 8
abbrev fn_laws_eqAutomaton : Nat := 9
abbrev fn_spec_SimulationRelation : Nat := 10
abbrev fn_impl_SimulationRelation : Nat := 11
abbrev fn_laws_eqBoolSS : Nat := 12
abbrev fn_laws_markAutomaton : Nat := 13
abbrev fn_laws_markBoolSS : Nat := 14
abbrev fn_laws_heldBoolSS : Nat := 15
abbrev fn_laws_szIntS : Nat := 16
abbrev fn_laws_szBoolS : Nat := 17
abbrev fn_laws_szTransitionS : Nat := 18
abbrev fn_spec_UniteAutomata : Nat := 19
abbrev fn_spec_l13Relation : Nat := 20
abbrev fn_laws_toIntS : Nat := 21
abbrev fn_laws_toBoolS : Nat := 22
abbrev fn_laws_toTransitionS : Nat := 23
abbrev fn_impl_UniteAutomata : Nat := 24
abbrev fn_impl_Automaton_simulation : Nat := 25
abbrev fn_slices_ContainsFunc_S_int_int : Nat := 26
abbrev fn_impl_IncludesAutomaton_1 : Nat := 27
abbrev fn_impl_IncludesAutomaton_1_1 : Nat := 28
abbrev fn_laws_eqIntS : Nat := 29
abbrev fn_laws_eqBoolS : Nat := 30
abbrev fn_laws_eqTransitionS : Nat := 31
abbrev fn_spec_AutomatonValid : Nat := 32
abbrev fn_impl_AutomatonValid : Nat := 33
abbrev fn_laws_markIntS : Nat := 34
abbrev fn_laws_markBoolS : Nat := 35
abbrev fn_laws_markTransitionS : Nat := 36
abbrev fn_laws_heldBoolS : Nat := 37
abbrev fn_spec_l13Leaving : Nat := 38
abbrev fn_spec_l13Answers : Nat := 39
abbrev fn_laws_toTransition : Nat := 40
abbrev fn_impl_Automaton_copyOf : Nat := 41
abbrev fn_impl_Transition_takes : Nat := 42
abbrev fn_impl_Automaton_simulation_1 : Nat := 43
abbrev fn_slices_IndexFunc_S_int_int : Nat := 44
abbrev fn_laws_eqTransition : Nat := 45
abbrev fn_spec_l7Edge : Nat := 46
abbrev fn_impl_in : Nat := 47
abbrev fn_slices_ContainsFunc_S_impl_Transition_impl_Transition : Nat := 48
abbrev fn_impl_AutomatonValid_1 : Nat := 49
abbrev fn_spec_l7On : Nat := 50
abbrev fn_impl_clone_int : Nat := 51
abbrev fn_impl_clone_bool : Nat := 52
abbrev fn_impl_clone_impl_Transition : Nat := 53
abbrev fn_slices_IndexFunc_S_impl_Transition_impl_Transition : Nat := 54
abbrev fn_slices_Clip_S_int_int : Nat := 55
abbrev fn_slices_Clone_S_int_int : Nat := 56
abbrev fn_slices_Clip_S_bool_bool : Nat := 57
abbrev fn_slices_Clone_S_bool_bool : Nat := 58
abbrev fn_slices_Clip_S_impl_Transition_impl_Transition : Nat := 59
abbrev fn_slices_Clone_S_impl_Transition_impl_Transition : Nat := 60
abbrev fn_runtime_boundsError_Error : Nat := 61
abbrev fn_runtime_boundsError_RuntimeError : Nat := 62
abbrev fn_runtime_errorString_Error : Nat := 63
abbrev fn_runtime_errorString_RuntimeError : Nat := 64
abbrev fn_runtime_plainError_Error : Nat := 65
abbrev fn_runtime_plainError_RuntimeError : Nat := 66
abbrev fn_runtime_errorAddressString_Error : Nat := 67
abbrev fn_runtime_errorAddressString_RuntimeError : Nat := 68
abbrev fn_runtime_TypeAssertionError_Error : Nat := 69
abbrev fn_runtime_TypeAssertionError_RuntimeError : Nat := 70
abbrev fn_runtime_PanicNilError_Error : Nat := 71
abbrev fn_runtime_PanicNilError_RuntimeError : Nat := 72
abbrev fn_internal_abi_Type_Align : Nat := 73
abbrev fn_internal_runtime_maps_unhashableTypeError_Error : Nat := 74
abbrev fn_internal_runtime_maps_unhashableTypeError_RuntimeError : Nat := 75
abbrev fn_impl_Automaton_accepting : Nat := 76
abbrev fn_internal_abi_Kind_String : Nat := 77
def H_gosem_cut_init : Hint := ⟨[], []⟩
def B_gosem_cut_init : C := .pl <| .st (.ext 0 1) <|
    .st (.act none (.ex (some 0) (.call fn_gosem_cut []))) .done
@[simp] def WB_gosem_cut_init := @C.wpe _ _ B_gosem_cut_init.eq_1
def R_gosem_cut_init : FIR := ⟨B_gosem_cut_init, 0, []⟩
theorem IR_gosem_cut_init : cfun Try.prog H_gosem_cut_init Try.f2 = some R_gosem_cut_init := by kernel_rfl
theorem EN_gosem_cut_init {args : List Value} {h : Heap} {k : Value → Heap → Prop} (hargs : args.length = 0) (hw : B_gosem_cut_init.wp Try.prog (retQ [] k) (env0 args 0) h) : CallE Try.prog fn_gosem_cut_init args h k := enter Try.func2 rfl IR_gosem_cut_init hargs hw

def H_impl_AutomatonValid : Hint := ⟨[(0, false), (1, true), (2, false), (3, false), (4, false), (6, false), (11, false), (12, false), (13, false)], [[0, 2, 5]]⟩
def K_impl_AutomatonValid_1 : Pl := .st (.act (some (.v 17, true)) (.px (some 22) (.un .not (.v 21)))) <|
    .st (.act none (.px (some 23) (.pick (.v 17) (.v 22) (.c (.bool false))))) <|
    .st (.act none (.px (some 2) (.mv (.v 23)))) .done
@[simp] def W_impl_AutomatonValid_1 := @Pl.wpe _ _ K_impl_AutomatonValid_1.eq_1
def K_impl_AutomatonValid_2 : Pl := .st (.act none (.px (some 11) (.mv (.v 10)))) <|
    .st (.act (some (.v 11, true)) (.als 12 none 1)) <|
    .st (.act (some (.v 11, true)) (.pget (some 13) (some 12) 1 2 none)) <|
    .st (.act (some (.v 11, true)) (.px (some 14) (.lenV (.v 13)))) <|
    .st (.act (some (.v 11, true)) (.px (some 15) (.bin .leq (.v 14) (.c (.int .i64 2048))))) <|
    .st (.act none (.px (some 16) (.pick (.v 11) (.v 15) (.c (.bool false))))) <|
    .st (.act none (.px (some 17) (.mv (.v 16)))) <|
    .st (.act (some (.v 17, true)) (.als 18 none 1)) <|
    .st (.act (some (.v 17, true)) (.pget (some 19) (some 18) 1 2 none)) <|
    .st (.act (some (.v 17, true)) (.px (some 20) (.mkf (.func fn_impl_AutomatonValid_1) [] [.v 3]))) <|
    .st (.act (some (.v 17, true)) (.ex (some 21) (.call fn_slices_ContainsFunc_S_impl_Transition_impl_Transition [.v 19, .v 20]))) K_impl_AutomatonValid_1
@[simp] def W_impl_AutomatonValid_2 := @Pl.wpe _ _ K_impl_AutomatonValid_2.eq_1
def K_impl_AutomatonValid_3 : C := .seq (.pl <| .st (.ext 9 15) <|
    .st (.act none (.ld (some 9) (.v 3) none)) <|
    .st (.act none (.ex (some 10) (.call fn_impl_in [.v 9, .c (.int .i64 1), .c (.int .i64 64)]))) K_impl_AutomatonValid_2) (.ret)
@[simp] def W_impl_AutomatonValid_3 := @C.wpe _ _ K_impl_AutomatonValid_3.eq_1
def K_impl_AutomatonValid_4 : C := .pl <| .st (.ext 9 1) <|
    .st (.act none (.px (some 9) (.bin .add (.v 8) (.c (.int .i64 1))))) <|
    .st (.act none (.px (some 8) (.mv (.v 9)))) .done
@[simp] def W_impl_AutomatonValid_4 := @C.wpe _ _ K_impl_AutomatonValid_4.eq_1
def K_impl_AutomatonValid_5 : C := .pl <| .st (.ext 9 1) <|
    .st (.act none (.px (some 9) (.mv (.v 5)))) <|
    .st (.act none (.px (some 4) (.mv (.v 9)))) .done
@[simp] def W_impl_AutomatonValid_5 := @C.wpe _ _ K_impl_AutomatonValid_5.eq_1
def K_impl_AutomatonValid_6 : C := .seq (.pl <| .st (.ext 9 0) <|
    .st (.act none (.px (some 2) (.mv (.c (.bool false))))) .done) (.ret)
@[simp] def W_impl_AutomatonValid_6 := @C.wpe _ _ K_impl_AutomatonValid_6.eq_1
def K_impl_AutomatonValid_7 : C := .cond 9 (.v 15) K_impl_AutomatonValid_6 (.skip)
@[simp] def W_impl_AutomatonValid_7 := @C.wpe _ _ K_impl_AutomatonValid_7.eq_1
def K_impl_AutomatonValid_8 : Pl := .st (.act none (.px (some 15) (.un .not (.v 14)))) .done
@[simp] def W_impl_AutomatonValid_8 := @Pl.wpe _ _ K_impl_AutomatonValid_8.eq_1
def K_impl_AutomatonValid_9 : C := .seq (.seq (.pl <| .st (.ext 9 7) <|
    .st (.act none (.px (some 9) (.mv (.v 5)))) <|
    .st (.act none (.px (some 10) (.mv (.v 4)))) <|
    .st (.act none (.px (some 11) (.bin .add (.v 10) (.c (.int .i64 1))))) <|
    .st (.act none (.ld (some 12) (.v 3) none)) <|
    .st (.act none (.px (some 13) (.bin .sub (.v 12) (.c (.int .i64 1))))) <|
    .st (.act none (.ex (some 14) (.call fn_impl_in [.v 9, .v 11, .v 13]))) K_impl_AutomatonValid_8) K_impl_AutomatonValid_7) K_impl_AutomatonValid_5
@[simp] def W_impl_AutomatonValid_9 := @C.wpe _ _ K_impl_AutomatonValid_9.eq_1
def K_impl_AutomatonValid_10 : C := .seq (.block 1 (.seq (.pl <| .st (.ext 9 2) <|
    .st (.act none (.px (some 9) (.ia 1 (.v 6) (.v 8)))) <|
    .st (.act none (.ld (some 10) (.v 9) none)) <|
    .st (.act none (.px (some 5) (.mv (.v 10)))) .done) K_impl_AutomatonValid_9)) K_impl_AutomatonValid_4
@[simp] def W_impl_AutomatonValid_10 := @C.wpe _ _ K_impl_AutomatonValid_10.eq_1
def K_impl_AutomatonValid_11 : C := .seq (.cond 9 (.v 9) (.skip) (.exit 0)) K_impl_AutomatonValid_10
@[simp] def W_impl_AutomatonValid_11 := @C.wpe _ _ K_impl_AutomatonValid_11.eq_1
def K_impl_AutomatonValid_12 : C := .seq (.pl <| .st (.ext 9 1) <|
    .st (.act none (.px (some 9) (.bin .lss (.v 8) (.v 7)))) .done) K_impl_AutomatonValid_11
@[simp] def W_impl_AutomatonValid_12 := @C.wpe _ _ K_impl_AutomatonValid_12.eq_1
def K_impl_AutomatonValid_13 : C := .block 0 (.loop 9 [0, 2, 5] K_impl_AutomatonValid_12)
@[simp] def W_impl_AutomatonValid_13 := @C.wpe _ _ K_impl_AutomatonValid_13.eq_1
def K_impl_AutomatonValid_14 : C := .seq (.seq (.pl <| .st (.ext 9 1) <|
    .st (.act none (.als 9 none 1)) <|
    .st (.act none (.pget (some 6) (some 9) 1 0 none)) <|
    .st (.act none (.px (some 7) (.lenV (.v 6)))) <|
    .st (.act none (.px (some 8) (.mv (.c (.int .i64 0))))) .done) K_impl_AutomatonValid_13) K_impl_AutomatonValid_3
@[simp] def W_impl_AutomatonValid_14 := @C.wpe _ _ K_impl_AutomatonValid_14.eq_1
def K_impl_AutomatonValid_15 : C := .seq (.pl <| .st (.ext 9 0) <|
    .st (.act none (.px (some 4) (.mv (.c (.int .i64 (-1)))))) .done) K_impl_AutomatonValid_14
@[simp] def W_impl_AutomatonValid_15 := @C.wpe _ _ K_impl_AutomatonValid_15.eq_1
def K_impl_AutomatonValid_16 : Pl := .st (.act none (.ex none (.store 1 (.v 3) (.v 11)))) .done
@[simp] def W_impl_AutomatonValid_16 := @Pl.wpe _ _ K_impl_AutomatonValid_16.eq_1
def K_impl_AutomatonValid_17 : C := .seq (.pl <| .st (.ext 9 3) <|
    .st (.act none (.als 9 none 1)) <|
    .st (.act none (.pget (some 10) (some 9) 1 1 none)) <|
    .st (.act none (.px (some 11) (.lenV (.v 10)))) <|
    .st (.act none (.ex (some 3) (.alloc (.c (.int .i64 0))))) K_impl_AutomatonValid_16) K_impl_AutomatonValid_15
@[simp] def W_impl_AutomatonValid_17 := @C.wpe _ _ K_impl_AutomatonValid_17.eq_1
def B_impl_AutomatonValid : C := .seq (.pl <| .st (.ext 9 0) <|
    .st (.act none (.pnew 1 (.v 0) [])) <|
    .st (.act none (.px (some 2) (.mv (.c (.bool false))))) .done) K_impl_AutomatonValid_17
@[simp] def WB_impl_AutomatonValid := @C.wpe _ _ B_impl_AutomatonValid.eq_1
def R_impl_AutomatonValid : FIR := ⟨B_impl_AutomatonValid, 9, [(2, none)]⟩
theorem IR_impl_AutomatonValid : cfun Try.prog H_impl_AutomatonValid Try.f33 = some R_impl_AutomatonValid := by kernel_rfl
theorem EN_impl_AutomatonValid {args : List Value} {h : Heap} {k : Value → Heap → Prop} (hargs : args.length = 1) (hw : B_impl_AutomatonValid.wp Try.prog (retQ [(2, none)] k) (env0 args 9) h) : CallE Try.prog fn_impl_AutomatonValid args h k := enter Try.func33 rfl IR_impl_AutomatonValid hargs hw

def H_impl_AutomatonValid_1 : Hint := ⟨[(0, false), (1, false), (2, true), (3, false)], []⟩
def K_impl_AutomatonValid_1_1 : Pl := .st (.act (some (.v 18, false)) (.px (some 22) (.un .not (.v 21)))) <|
    .st (.act none (.px (some 23) (.pick (.v 18) (.c (.bool true)) (.v 22)))) <|
    .st (.act none (.px (some 24) (.mv (.v 23)))) <|
    .st (.act (some (.v 24, false)) (.als 25 none 2)) <|
    .st (.act (some (.v 24, false)) (.pget (some 26) (some 25) 2 2 none)) <|
    .st (.act (some (.v 24, false)) (.px (some 27) (.bin .lss (.v 26) (.c (.int .i64 0))))) <|
    .st (.act none (.px (some 28) (.pick (.v 24) (.c (.bool true)) (.v 27)))) <|
    .st (.act none (.px (some 29) (.mv (.v 28)))) <|
    .st (.act (some (.v 29, false)) (.als 30 none 2)) <|
    .st (.act (some (.v 29, false)) (.pget (some 31) (some 30) 2 2 none)) <|
    .st (.act (some (.v 29, false)) (.als 32 none 2)) <|
    .st (.act (some (.v 29, false)) (.pget (some 33) (some 32) 2 1 none)) <|
    .st (.act (some (.v 29, false)) (.px (some 34) (.bin .andNot (.v 31) (.v 33)))) <|
    .st (.act (some (.v 29, false)) (.px (some 35) (.bin .neq (.v 34) (.c (.int .i64 0))))) <|
    .st (.act none (.px (some 36) (.pick (.v 29) (.c (.bool true)) (.v 35)))) <|
    .st (.act none (.px (some 3) (.mv (.v 36)))) .done
@[simp] def W_impl_AutomatonValid_1_1 := @Pl.wpe _ _ K_impl_AutomatonValid_1_1.eq_1
def K_impl_AutomatonValid_1_2 : Pl := .st (.act (some (.v 10, false)) (.px (some 16) (.un .not (.v 15)))) <|
    .st (.act none (.px (some 17) (.pick (.v 10) (.c (.bool true)) (.v 16)))) <|
    .st (.act none (.px (some 18) (.mv (.v 17)))) <|
    .st (.act (some (.v 18, false)) (.als 19 none 2)) <|
    .st (.act (some (.v 18, false)) (.pget (some 20) (some 19) 2 1 none)) <|
    .st (.act (some (.v 18, false)) (.ex (some 21) (.call fn_impl_in [.v 20, .c (.int .i64 0), .c (.int .i64 7)]))) K_impl_AutomatonValid_1_1
@[simp] def W_impl_AutomatonValid_1_2 := @Pl.wpe _ _ K_impl_AutomatonValid_1_2.eq_1
def K_impl_AutomatonValid_1_3 : Pl := .st (.act none (.px (some 9) (.un .not (.v 8)))) <|
    .st (.act none (.px (some 10) (.mv (.v 9)))) <|
    .st (.act (some (.v 10, false)) (.als 11 none 2)) <|
    .st (.act (some (.v 10, false)) (.pget (some 12) (some 11) 2 3 none)) <|
    .st (.act (some (.v 10, false)) (.ld (some 13) (.v 1) none)) <|
    .st (.act (some (.v 10, false)) (.px (some 14) (.bin .sub (.v 13) (.c (.int .i64 1))))) <|
    .st (.act (some (.v 10, false)) (.ex (some 15) (.call fn_impl_in [.v 12, .c (.int .i64 0), .v 14]))) K_impl_AutomatonValid_1_2
@[simp] def W_impl_AutomatonValid_1_3 := @Pl.wpe _ _ K_impl_AutomatonValid_1_3.eq_1
def K_impl_AutomatonValid_1_4 : C := .seq (.pl <| .st (.ext 4 33) <|
    .st (.act none (.als 4 none 2)) <|
    .st (.act none (.pget (some 5) (some 4) 2 0 none)) <|
    .st (.act none (.ld (some 6) (.v 1) none)) <|
    .st (.act none (.px (some 7) (.bin .sub (.v 6) (.c (.int .i64 1))))) <|
    .st (.act none (.ex (some 8) (.call fn_impl_in [.v 5, .c (.int .i64 0), .v 7]))) K_impl_AutomatonValid_1_3) (.ret)
@[simp] def W_impl_AutomatonValid_1_4 := @C.wpe _ _ K_impl_AutomatonValid_1_4.eq_1
def B_impl_AutomatonValid_1 : C := .seq (.pl <| .st (.ext 4 0) <|
    .st (.act none (.pnew 2 (.v 0) [])) <|
    .st (.act none (.px (some 3) (.mv (.c (.bool false))))) .done) K_impl_AutomatonValid_1_4
@[simp] def WB_impl_AutomatonValid_1 := @C.wpe _ _ B_impl_AutomatonValid_1.eq_1
def R_impl_AutomatonValid_1 : FIR := ⟨B_impl_AutomatonValid_1, 4, [(3, none)]⟩
theorem IR_impl_AutomatonValid_1 : cfun Try.prog H_impl_AutomatonValid_1 Try.f49 = some R_impl_AutomatonValid_1 := by kernel_rfl
theorem EN_impl_AutomatonValid_1 {args : List Value} {h : Heap} {k : Value → Heap → Prop} (hargs : args.length = 2) (hw : B_impl_AutomatonValid_1.wp Try.prog (retQ [(3, none)] k) (env0 args 4) h) : CallE Try.prog fn_impl_AutomatonValid_1 args h k := enter Try.func49 rfl IR_impl_AutomatonValid_1 hargs hw

def H_impl_Automaton_copyOf : Hint := ⟨[(0, false), (1, true), (2, true)], []⟩
def K_impl_Automaton_copyOf_1 : Pl := .st (.act none (.px (some 12) (.build [.slice none 0 0, .slice none 0 0, .slice none 0 0] [(0, 1, .v 5), (1, 1, .v 8), (2, 1, .v 11)]))) <|
    .st (.act none (.pset none 2 0 3 (.v 12))) .done
@[simp] def W_impl_Automaton_copyOf_1 := @Pl.wpe _ _ K_impl_Automaton_copyOf_1.eq_1
def K_impl_Automaton_copyOf_2 : Pl := .st (.act none (.ex (some 11) (.call fn_impl_clone_impl_Transition [.v 10]))) K_impl_Automaton_copyOf_1
@[simp] def W_impl_Automaton_copyOf_2 := @Pl.wpe _ _ K_impl_Automaton_copyOf_2.eq_1
def K_impl_Automaton_copyOf_3 : Pl := .st (.act none (.ex (some 8) (.call fn_impl_clone_bool [.v 7]))) K_impl_Automaton_copyOf_2
@[simp] def W_impl_Automaton_copyOf_3 := @Pl.wpe _ _ K_impl_Automaton_copyOf_3.eq_1
def K_impl_Automaton_copyOf_4 : C := .seq (.pl <| .st (.ext 3 10) <|
    .st (.act none (.als 3 none 1)) <|
    .st (.act none (.pget (some 4) (some 3) 1 0 none)) <|
    .st (.act none (.als 6 none 1)) <|
    .st (.act none (.pget (some 7) (some 6) 1 1 none)) <|
    .st (.act none (.als 9 none 1)) <|
    .st (.act none (.pget (some 10) (some 9) 1 2 none)) <|
    .st (.act none (.ex (some 5) (.call fn_impl_clone_int [.v 4]))) K_impl_Automaton_copyOf_3) (.ret)
@[simp] def W_impl_Automaton_copyOf_4 := @C.wpe _ _ K_impl_Automaton_copyOf_4.eq_1
def B_impl_Automaton_copyOf : C := .seq (.pl <| .st (.ext 3 0) <|
    .st (.act none (.pnew 1 (.v 0) [])) <|
    .st (.act none (.pnew 2 (.c (.agg #[.slice none 0 0, .slice none 0 0, .slice none 0 0])) [])) .done) K_impl_Automaton_copyOf_4
@[simp] def WB_impl_Automaton_copyOf := @C.wpe _ _ B_impl_Automaton_copyOf.eq_1
def R_impl_Automaton_copyOf : FIR := ⟨B_impl_Automaton_copyOf, 3, [(2, some (some 3))]⟩
theorem IR_impl_Automaton_copyOf : cfun Try.prog H_impl_Automaton_copyOf Try.f41 = some R_impl_Automaton_copyOf := by kernel_rfl
theorem EN_impl_Automaton_copyOf {args : List Value} {h : Heap} {k : Value → Heap → Prop} (hargs : args.length = 1) (hw : B_impl_Automaton_copyOf.wp Try.prog (retQ [(2, some (some 3))] k) (env0 args 3) h) : CallE Try.prog fn_impl_Automaton_copyOf args h k := enter Try.func41 rfl IR_impl_Automaton_copyOf hargs hw

def H_impl_Automaton_simulation : Hint := ⟨[(0, false), (1, true), (2, false), (3, false), (4, false), (6, true), (7, false), (8, false), (9, false), (10, false), (11, false), (12, false), (13, false), (14, false), (21, false), (22, false), (23, false), (27, false), (51, false), (52, false), (55, false), (56, false), (84, false), (85, false), (88, false), (89, false)], [[0, 2, 5, 6, 7, 8, 9, 10, 11, 12, 13, 17, 18, 19, 20, 21, 22, 23, 24, 25], [0, 2, 6, 7, 8, 9, 10, 11, 12, 13, 18, 19, 20, 21, 22, 23, 24, 25], [0, 2, 5, 6, 8, 9, 10, 11, 12, 13, 14, 15, 16, 17, 20, 21, 22, 23, 24, 25], [0, 2, 5, 6, 9, 10, 11, 12, 13, 14, 15, 16, 17, 22, 23, 24, 25], [0, 1, 2, 4, 5, 6, 8, 9, 12, 13, 14, 15, 16, 17, 18, 19, 20, 21, 22, 23, 24, 25], [0, 1, 2, 4, 5, 6, 8, 9, 12, 13, 14, 15, 16, 17, 18, 19, 20, 21, 24, 25], [0, 1, 2, 4, 5, 6, 8, 9, 13, 14, 15, 16, 17, 18, 19, 20, 21]]⟩
def K_impl_Automaton_simulation_1 : C := .seq (.pl <| .st (.ext 26 1) <|
    .st (.act none (.ld (some 26) (.v 7) none)) <|
    .st (.act none (.px (some 2) (.mv (.v 26)))) .done) (.ret)
@[simp] def W_impl_Automaton_simulation_1 := @C.wpe _ _ K_impl_Automaton_simulation_1.eq_1
def K_impl_Automaton_simulation_2 : C := .pl <| .st (.ext 26 1) <|
    .st (.act none (.px (some 26) (.bin .add (.v 23) (.c (.int .i64 1))))) <|
    .st (.act none (.px (some 23) (.mv (.v 26)))) .done
@[simp] def W_impl_Automaton_simulation_2 := @C.wpe _ _ K_impl_Automaton_simulation_2.eq_1
def K_impl_Automaton_simulation_3 : C := .pl <| .st (.ext 26 1) <|
    .st (.act none (.px (some 26) (.bin .add (.v 25) (.c (.int .i64 1))))) <|
    .st (.act none (.px (some 25) (.mv (.v 26)))) .done
@[simp] def W_impl_Automaton_simulation_3 := @C.wpe _ _ K_impl_Automaton_simulation_3.eq_1
def K_impl_Automaton_simulation_4 : C := .pl <| .st (.ext 26 0) <|
    .st (.act none (.px (some 11) (.mv (.c (.bool true))))) .done
@[simp] def W_impl_Automaton_simulation_4 := @C.wpe _ _ K_impl_Automaton_simulation_4.eq_1
def K_impl_Automaton_simulation_5 : C := .seq (.pl <| .st (.ext 26 8) <|
    .st (.act none (.ld (some 26) (.v 7) none)) <|
    .st (.act none (.px (some 27) (.mv (.v 12)))) <|
    .st (.act none (.px (some 28) (.ia 1 (.v 26) (.v 27)))) <|
    .st (.act none (.ld (some 29) (.v 28) none)) <|
    .st (.act none (.px (some 30) (.mv (.v 13)))) <|
    .st (.act none (.px (some 31) (.bin .shl (.c (.int .u64 1)) (.v 30)))) <|
    .st (.act none (.px (some 32) (.bin .andNot (.v 29) (.v 31)))) <|
    .st (.act none (.px (some 33) (.ia 1 (.v 26) (.v 27)))) <|
    .st (.act none (.ex none (.store 1 (.v 33) (.v 32)))) .done) K_impl_Automaton_simulation_4
@[simp] def W_impl_Automaton_simulation_5 := @C.wpe _ _ K_impl_Automaton_simulation_5.eq_1
def K_impl_Automaton_simulation_6 : C := .cond 26 (.v 40) K_impl_Automaton_simulation_5 (.skip)
@[simp] def W_impl_Automaton_simulation_6 := @C.wpe _ _ K_impl_Automaton_simulation_6.eq_1
def K_impl_Automaton_simulation_7 : Pl := .st (.act (some (.v 34, true)) (.px (some 39) (.un .not (.v 38)))) <|
    .st (.act none (.px (some 40) (.pick (.v 34) (.v 39) (.c (.bool false))))) .done
@[simp] def W_impl_Automaton_simulation_7 := @Pl.wpe _ _ K_impl_Automaton_simulation_7.eq_1
def K_impl_Automaton_simulation_8 : C := .seq (.pl <| .st (.ext 26 15) <|
    .st (.act none (.ld (some 26) (.v 7) none)) <|
    .st (.act none (.px (some 27) (.mv (.v 12)))) <|
    .st (.act none (.px (some 28) (.ia 1 (.v 26) (.v 27)))) <|
    .st (.act none (.ld (some 29) (.v 28) none)) <|
    .st (.act none (.px (some 30) (.mv (.v 13)))) <|
    .st (.act none (.px (some 31) (.bin .shr (.v 29) (.v 30)))) <|
    .st (.act none (.px (some 32) (.bin .and (.v 31) (.c (.int .u64 1))))) <|
    .st (.act none (.px (some 33) (.bin .eql (.v 32) (.c (.int .u64 1))))) <|
    .st (.act none (.px (some 34) (.mv (.v 33)))) <|
    .st (.act (some (.v 34, true)) (.px (some 35) (.mv (.v 10)))) <|
    .st (.act (some (.v 34, true)) (.px (some 36) (.mv (.v 13)))) <|
    .st (.act (some (.v 34, true)) (.px (some 37) (.mv (.v 12)))) <|
    .st (.act (some (.v 34, true)) (.ex (some 38) (.callv (.v 35) [.v 36, .v 37]))) K_impl_Automaton_simulation_7) K_impl_Automaton_simulation_6
@[simp] def W_impl_Automaton_simulation_8 := @C.wpe _ _ K_impl_Automaton_simulation_8.eq_1
def K_impl_Automaton_simulation_9 : C := .seq (.block 13 (.seq (.pl <| .st (.ext 26 1) <|
    .st (.act none (.px (some 26) (.mv (.v 25)))) <|
    .st (.act none (.px (some 13) (.mv (.v 26)))) .done) K_impl_Automaton_simulation_8)) K_impl_Automaton_simulation_3
@[simp] def W_impl_Automaton_simulation_9 := @C.wpe _ _ K_impl_Automaton_simulation_9.eq_1
def K_impl_Automaton_simulation_10 : C := .seq (.cond 26 (.v 26) (.skip) (.exit 12)) K_impl_Automaton_simulation_9
@[simp] def W_impl_Automaton_simulation_10 := @C.wpe _ _ K_impl_Automaton_simulation_10.eq_1
def K_impl_Automaton_simulation_11 : C := .seq (.pl <| .st (.ext 26 1) <|
    .st (.act none (.px (some 26) (.bin .lss (.v 25) (.v 24)))) .done) K_impl_Automaton_simulation_10
@[simp] def W_impl_Automaton_simulation_11 := @C.wpe _ _ K_impl_Automaton_simulation_11.eq_1
def K_impl_Automaton_simulation_12 : C := .block 12 (.loop 26 [0, 1, 2, 4, 5, 6, 8, 9, 13, 14, 15, 16, 17, 18, 19, 20, 21] K_impl_Automaton_simulation_11)
@[simp] def W_impl_Automaton_simulation_12 := @C.wpe _ _ K_impl_Automaton_simulation_12.eq_1
def K_impl_Automaton_simulation_13 : C := .seq (.pl <| .st (.ext 26 0) <|
    .st (.act none (.ld (some 24) (.v 3) none)) <|
    .st (.act none (.px (some 25) (.mv (.c (.int .i64 0))))) .done) K_impl_Automaton_simulation_12
@[simp] def W_impl_Automaton_simulation_13 := @C.wpe _ _ K_impl_Automaton_simulation_13.eq_1
def K_impl_Automaton_simulation_14 : C := .seq (.block 11 (.seq (.pl <| .st (.ext 26 1) <|
    .st (.act none (.px (some 26) (.mv (.v 23)))) <|
    .st (.act none (.px (some 12) (.mv (.v 26)))) .done) K_impl_Automaton_simulation_13)) K_impl_Automaton_simulation_2
@[simp] def W_impl_Automaton_simulation_14 := @C.wpe _ _ K_impl_Automaton_simulation_14.eq_1
def K_impl_Automaton_simulation_15 : C := .seq (.cond 26 (.v 26) (.skip) (.exit 10)) K_impl_Automaton_simulation_14
@[simp] def W_impl_Automaton_simulation_15 := @C.wpe _ _ K_impl_Automaton_simulation_15.eq_1
def K_impl_Automaton_simulation_16 : C := .seq (.pl <| .st (.ext 26 1) <|
    .st (.act none (.px (some 26) (.bin .lss (.v 23) (.v 22)))) .done) K_impl_Automaton_simulation_15
@[simp] def W_impl_Automaton_simulation_16 := @C.wpe _ _ K_impl_Automaton_simulation_16.eq_1
def K_impl_Automaton_simulation_17 : C := .block 10 (.loop 26 [0, 1, 2, 4, 5, 6, 8, 9, 12, 13, 14, 15, 16, 17, 18, 19, 20, 21, 24, 25] K_impl_Automaton_simulation_16)
@[simp] def W_impl_Automaton_simulation_17 := @C.wpe _ _ K_impl_Automaton_simulation_17.eq_1
def K_impl_Automaton_simulation_18 : C := .seq (.pl <| .st (.ext 26 0) <|
    .st (.act none (.ld (some 22) (.v 3) none)) <|
    .st (.act none (.px (some 23) (.mv (.c (.int .i64 0))))) .done) K_impl_Automaton_simulation_17
@[simp] def W_impl_Automaton_simulation_18 := @C.wpe _ _ K_impl_Automaton_simulation_18.eq_1
def K_impl_Automaton_simulation_19 : C := .block 9 (.seq (.pl <| .st (.ext 26 0) <|
    .st (.act none (.px (some 11) (.mv (.c (.bool false))))) .done) K_impl_Automaton_simulation_18)
@[simp] def W_impl_Automaton_simulation_19 := @C.wpe _ _ K_impl_Automaton_simulation_19.eq_1
def K_impl_Automaton_simulation_20 : C := .cond 26 (.v 26) (.skip) (.exit 8)
@[simp] def W_impl_Automaton_simulation_20 := @C.wpe _ _ K_impl_Automaton_simulation_20.eq_1
def K_impl_Automaton_simulation_21 : C := .seq (.seq (.pl <| .st (.ext 26 1) <|
    .st (.act none (.px (some 26) (.mv (.v 11)))) .done) K_impl_Automaton_simulation_20) K_impl_Automaton_simulation_19
@[simp] def W_impl_Automaton_simulation_21 := @C.wpe _ _ K_impl_Automaton_simulation_21.eq_1
def K_impl_Automaton_simulation_22 : C := .block 8 (.loop 26 [0, 1, 2, 4, 5, 6, 8, 9, 12, 13, 14, 15, 16, 17, 18, 19, 20, 21, 22, 23, 24, 25] K_impl_Automaton_simulation_21)
@[simp] def W_impl_Automaton_simulation_22 := @C.wpe _ _ K_impl_Automaton_simulation_22.eq_1
def K_impl_Automaton_simulation_23 : C := .seq (.seq (.pl <| .st (.ext 26 0) <|
    .st (.act none (.px (some 11) (.mv (.c (.bool true))))) .done) K_impl_Automaton_simulation_22) K_impl_Automaton_simulation_1
@[simp] def W_impl_Automaton_simulation_23 := @C.wpe _ _ K_impl_Automaton_simulation_23.eq_1
def K_impl_Automaton_simulation_24 : C := .seq (.pl <| .st (.ext 26 1) <|
    .st (.act none (.px (some 26) (.mkf (.func fn_impl_Automaton_simulation_1) [] [.v 3, .v 4, .v 7]))) <|
    .st (.act none (.px (some 10) (.mv (.v 26)))) .done) K_impl_Automaton_simulation_23
@[simp] def W_impl_Automaton_simulation_24 := @C.wpe _ _ K_impl_Automaton_simulation_24.eq_1
def K_impl_Automaton_simulation_25 : C := .pl <| .st (.ext 26 1) <|
    .st (.act none (.px (some 26) (.bin .add (.v 19) (.c (.int .i64 1))))) <|
    .st (.act none (.px (some 19) (.mv (.v 26)))) .done
@[simp] def W_impl_Automaton_simulation_25 := @C.wpe _ _ K_impl_Automaton_simulation_25.eq_1
def K_impl_Automaton_simulation_26 : C := .pl <| .st (.ext 26 1) <|
    .st (.act none (.px (some 26) (.bin .add (.v 21) (.c (.int .i64 1))))) <|
    .st (.act none (.px (some 21) (.mv (.v 26)))) .done
@[simp] def W_impl_Automaton_simulation_26 := @C.wpe _ _ K_impl_Automaton_simulation_26.eq_1
def K_impl_Automaton_simulation_27 : C := .pl <| .st (.ext 26 8) <|
    .st (.act none (.ld (some 26) (.v 7) none)) <|
    .st (.act none (.px (some 27) (.mv (.v 8)))) <|
    .st (.act none (.px (some 28) (.ia 1 (.v 26) (.v 27)))) <|
    .st (.act none (.ld (some 29) (.v 28) none)) <|
    .st (.act none (.px (some 30) (.mv (.v 9)))) <|
    .st (.act none (.px (some 31) (.bin .shl (.c (.int .u64 1)) (.v 30)))) <|
    .st (.act none (.px (some 32) (.bin .or (.v 29) (.v 31)))) <|
    .st (.act none (.px (some 33) (.ia 1 (.v 26) (.v 27)))) <|
    .st (.act none (.ex none (.store 1 (.v 33) (.v 32)))) .done
@[simp] def W_impl_Automaton_simulation_27 := @C.wpe _ _ K_impl_Automaton_simulation_27.eq_1
def K_impl_Automaton_simulation_28 : C := .cond 26 (.v 38) K_impl_Automaton_simulation_27 (.skip)
@[simp] def W_impl_Automaton_simulation_28 := @C.wpe _ _ K_impl_Automaton_simulation_28.eq_1
def K_impl_Automaton_simulation_29 : C := .seq (.pl <| .st (.ext 26 13) <|
    .st (.act none (.als 26 none 1)) <|
    .st (.act none (.pget (some 27) (some 26) 1 1 none)) <|
    .st (.act none (.px (some 28) (.mv (.v 9)))) <|
    .st (.act none (.px (some 29) (.ia 1 (.v 27) (.v 28)))) <|
    .st (.act none (.ld (some 30) (.v 29) none)) <|
    .st (.act none (.px (some 31) (.mv (.v 30)))) <|
    .st (.act (some (.v 31, false)) (.als 32 none 1)) <|
    .st (.act (some (.v 31, false)) (.pget (some 33) (some 32) 1 1 none)) <|
    .st (.act (some (.v 31, false)) (.px (some 34) (.mv (.v 8)))) <|
    .st (.act (some (.v 31, false)) (.px (some 35) (.ia 1 (.v 33) (.v 34)))) <|
    .st (.act (some (.v 31, false)) (.ld (some 36) (.v 35) none)) <|
    .st (.act (some (.v 31, false)) (.px (some 37) (.un .not (.v 36)))) <|
    .st (.act none (.px (some 38) (.pick (.v 31) (.c (.bool true)) (.v 37)))) .done) K_impl_Automaton_simulation_28
@[simp] def W_impl_Automaton_simulation_29 := @C.wpe _ _ K_impl_Automaton_simulation_29.eq_1
def K_impl_Automaton_simulation_30 : C := .seq (.block 7 (.seq (.pl <| .st (.ext 26 1) <|
    .st (.act none (.px (some 26) (.mv (.v 21)))) <|
    .st (.act none (.px (some 9) (.mv (.v 26)))) .done) K_impl_Automaton_simulation_29)) K_impl_Automaton_simulation_26
@[simp] def W_impl_Automaton_simulation_30 := @C.wpe _ _ K_impl_Automaton_simulation_30.eq_1
def K_impl_Automaton_simulation_31 : C := .seq (.cond 26 (.v 26) (.skip) (.exit 6)) K_impl_Automaton_simulation_30
@[simp] def W_impl_Automaton_simulation_31 := @C.wpe _ _ K_impl_Automaton_simulation_31.eq_1
def K_impl_Automaton_simulation_32 : C := .seq (.pl <| .st (.ext 26 1) <|
    .st (.act none (.px (some 26) (.bin .lss (.v 21) (.v 20)))) .done) K_impl_Automaton_simulation_31
@[simp] def W_impl_Automaton_simulation_32 := @C.wpe _ _ K_impl_Automaton_simulation_32.eq_1
def K_impl_Automaton_simulation_33 : C := .block 6 (.loop 26 [0, 2, 5, 6, 9, 10, 11, 12, 13, 14, 15, 16, 17, 22, 23, 24, 25] K_impl_Automaton_simulation_32)
@[simp] def W_impl_Automaton_simulation_33 := @C.wpe _ _ K_impl_Automaton_simulation_33.eq_1
def K_impl_Automaton_simulation_34 : C := .seq (.pl <| .st (.ext 26 0) <|
    .st (.act none (.ld (some 20) (.v 3) none)) <|
    .st (.act none (.px (some 21) (.mv (.c (.int .i64 0))))) .done) K_impl_Automaton_simulation_33
@[simp] def W_impl_Automaton_simulation_34 := @C.wpe _ _ K_impl_Automaton_simulation_34.eq_1
def K_impl_Automaton_simulation_35 : C := .seq (.block 5 (.seq (.pl <| .st (.ext 26 1) <|
    .st (.act none (.px (some 26) (.mv (.v 19)))) <|
    .st (.act none (.px (some 8) (.mv (.v 26)))) .done) K_impl_Automaton_simulation_34)) K_impl_Automaton_simulation_25
@[simp] def W_impl_Automaton_simulation_35 := @C.wpe _ _ K_impl_Automaton_simulation_35.eq_1
def K_impl_Automaton_simulation_36 : C := .seq (.cond 26 (.v 26) (.skip) (.exit 4)) K_impl_Automaton_simulation_35
@[simp] def W_impl_Automaton_simulation_36 := @C.wpe _ _ K_impl_Automaton_simulation_36.eq_1
def K_impl_Automaton_simulation_37 : C := .seq (.pl <| .st (.ext 26 1) <|
    .st (.act none (.px (some 26) (.bin .lss (.v 19) (.v 18)))) .done) K_impl_Automaton_simulation_36
@[simp] def W_impl_Automaton_simulation_37 := @C.wpe _ _ K_impl_Automaton_simulation_37.eq_1
def K_impl_Automaton_simulation_38 : C := .block 4 (.loop 26 [0, 2, 5, 6, 8, 9, 10, 11, 12, 13, 14, 15, 16, 17, 20, 21, 22, 23, 24, 25] K_impl_Automaton_simulation_37)
@[simp] def W_impl_Automaton_simulation_38 := @C.wpe _ _ K_impl_Automaton_simulation_38.eq_1
def K_impl_Automaton_simulation_39 : C := .seq (.seq (.pl <| .st (.ext 26 1) <|
    .st (.act none (.ld (some 26) (.v 7) none)) <|
    .st (.act none (.px (some 18) (.lenV (.v 26)))) <|
    .st (.act none (.px (some 19) (.mv (.c (.int .i64 0))))) .done) K_impl_Automaton_simulation_38) K_impl_Automaton_simulation_24
@[simp] def W_impl_Automaton_simulation_39 := @C.wpe _ _ K_impl_Automaton_simulation_39.eq_1
def K_impl_Automaton_simulation_40 : Pl := .st (.act none (.ex none (.store 1 (.v 7) (.v 27)))) .done
@[simp] def W_impl_Automaton_simulation_40 := @Pl.wpe _ _ K_impl_Automaton_simulation_40.eq_1
def K_impl_Automaton_simulation_41 : Pl := .st (.act none (.ex (some 7) (.alloc (.c (.slice none 0 0))))) K_impl_Automaton_simulation_40
@[simp] def W_impl_Automaton_simulation_41 := @Pl.wpe _ _ K_impl_Automaton_simulation_41.eq_1
def K_impl_Automaton_simulation_42 : C := .seq (.pl <| .st (.ext 26 2) <|
    .st (.act none (.ld (some 26) (.v 3) none)) <|
    .st (.act none (.ex (some 27) (.mks 8 1 [.int .u64 0] (.v 26) (.v 26)))) K_impl_Automaton_simulation_41) K_impl_Automaton_simulation_39
@[simp] def W_impl_Automaton_simulation_42 := @C.wpe _ _ K_impl_Automaton_simulation_42.eq_1
def K_impl_Automaton_simulation_43 : C := .pl <| .st (.ext 26 1) <|
    .st (.act none (.px (some 26) (.bin .add (.v 16) (.c (.int .i64 1))))) <|
    .st (.act none (.px (some 16) (.mv (.v 26)))) .done
@[simp] def W_impl_Automaton_simulation_43 := @C.wpe _ _ K_impl_Automaton_simulation_43.eq_1
def K_impl_Automaton_simulation_44 : C := .pl <| .st (.ext 26 1) <|
    .st (.act none (.px (some 26) (.bin .add (.v 17) (.c (.int .i64 1))))) <|
    .st (.act none (.px (some 17) (.mv (.v 26)))) .done
@[simp] def W_impl_Automaton_simulation_44 := @C.wpe _ _ K_impl_Automaton_simulation_44.eq_1
def K_impl_Automaton_simulation_45 : C := .pl <| .st (.ext 26 13) <|
    .st (.act none (.ld (some 26) (.v 4) none)) <|
    .st (.act none (.als 27 none 5)) <|
    .st (.act none (.pget (some 28) (some 27) 5 0 none)) <|
    .st (.act none (.px (some 29) (.mv (.v 6)))) <|
    .st (.act none (.px (some 30) (.ia 8 (.v 26) (.v 28)))) <|
    .st (.act none (.px (some 31) (.iaA 8 1 (.v 30) (.v 29)))) <|
    .st (.act none (.ld (some 32) (.v 31) none)) <|
    .st (.act none (.als 33 none 5)) <|
    .st (.act none (.pget (some 34) (some 33) 5 3 none)) <|
    .st (.act none (.px (some 35) (.bin .shl (.c (.int .u64 1)) (.v 34)))) <|
    .st (.act none (.px (some 36) (.bin .or (.v 32) (.v 35)))) <|
    .st (.act none (.px (some 37) (.ia 8 (.v 26) (.v 28)))) <|
    .st (.act none (.px (some 38) (.iaA 8 1 (.v 37) (.v 29)))) <|
    .st (.act none (.ex none (.store 1 (.v 38) (.v 36)))) .done
@[simp] def W_impl_Automaton_simulation_45 := @C.wpe _ _ K_impl_Automaton_simulation_45.eq_1
def K_impl_Automaton_simulation_46 : C := .cond 26 (.v 28) K_impl_Automaton_simulation_45 (.skip)
@[simp] def W_impl_Automaton_simulation_46 := @C.wpe _ _ K_impl_Automaton_simulation_46.eq_1
def K_impl_Automaton_simulation_47 : C := .seq (.pl <| .st (.ext 26 3) <|
    .st (.act none (.pget (some 26) none 5 0 (some 4))) <|
    .st (.act none (.px (some 27) (.mv (.v 6)))) <|
    .st (.act none (.ex (some 28) (.call fn_impl_Transition_takes [.v 26, .v 27]))) .done) K_impl_Automaton_simulation_46
@[simp] def W_impl_Automaton_simulation_47 := @C.wpe _ _ K_impl_Automaton_simulation_47.eq_1
def K_impl_Automaton_simulation_48 : C := .seq (.block 3 (.seq (.pl <| .st (.ext 26 1) <|
    .st (.act none (.px (some 26) (.mv (.v 17)))) <|
    .st (.act none (.px (some 6) (.mv (.v 26)))) .done) K_impl_Automaton_simulation_47)) K_impl_Automaton_simulation_44
@[simp] def W_impl_Automaton_simulation_48 := @C.wpe _ _ K_impl_Automaton_simulation_48.eq_1
def K_impl_Automaton_simulation_49 : C := .seq (.cond 26 (.v 26) (.skip) (.exit 2)) K_impl_Automaton_simulation_48
@[simp] def W_impl_Automaton_simulation_49 := @C.wpe _ _ K_impl_Automaton_simulation_49.eq_1
def K_impl_Automaton_simulation_50 : C := .seq (.pl <| .st (.ext 26 1) <|
    .st (.act none (.px (some 26) (.bin .lss (.v 17) (.c (.int .i64 8))))) .done) K_impl_Automaton_simulation_49
@[simp] def W_impl_Automaton_simulation_50 := @C.wpe _ _ K_impl_Automaton_simulation_50.eq_1
def K_impl_Automaton_simulation_51 : C := .block 2 (.loop 26 [0, 2, 6, 7, 8, 9, 10, 11, 12, 13, 18, 19, 20, 21, 22, 23, 24, 25] K_impl_Automaton_simulation_50)
@[simp] def W_impl_Automaton_simulation_51 := @C.wpe _ _ K_impl_Automaton_simulation_51.eq_1
def K_impl_Automaton_simulation_52 : C := .seq (.pl <| .st (.ext 26 0) <|
    .st (.act none (.px (some 17) (.mv (.c (.int .i64 0))))) .done) K_impl_Automaton_simulation_51
@[simp] def W_impl_Automaton_simulation_52 := @C.wpe _ _ K_impl_Automaton_simulation_52.eq_1
def K_impl_Automaton_simulation_53 : C := .seq (.block 1 (.seq (.pl <| .st (.ext 26 2) <|
    .st (.act none (.px (some 26) (.ia 4 (.v 14) (.v 16)))) <|
    .st (.act none (.ld (some 27) (.v 26) (some 4))) <|
    .st (.act none (.pnew 5 (.c (.agg #[.int .i64 0, .int .i64 0, .int .i64 0, .int .i64 0])) [])) <|
    .st (.act none (.pset none 5 0 4 (.v 27))) .done) K_impl_Automaton_simulation_52)) K_impl_Automaton_simulation_43
@[simp] def W_impl_Automaton_simulation_53 := @C.wpe _ _ K_impl_Automaton_simulation_53.eq_1
def K_impl_Automaton_simulation_54 : C := .seq (.cond 26 (.v 26) (.skip) (.exit 0)) K_impl_Automaton_simulation_53
@[simp] def W_impl_Automaton_simulation_54 := @C.wpe _ _ K_impl_Automaton_simulation_54.eq_1
def K_impl_Automaton_simulation_55 : C := .seq (.pl <| .st (.ext 26 1) <|
    .st (.act none (.px (some 26) (.bin .lss (.v 16) (.v 15)))) .done) K_impl_Automaton_simulation_54
@[simp] def W_impl_Automaton_simulation_55 := @C.wpe _ _ K_impl_Automaton_simulation_55.eq_1
def K_impl_Automaton_simulation_56 : C := .block 0 (.loop 26 [0, 2, 5, 6, 7, 8, 9, 10, 11, 12, 13, 17, 18, 19, 20, 21, 22, 23, 24, 25] K_impl_Automaton_simulation_55)
@[simp] def W_impl_Automaton_simulation_56 := @C.wpe _ _ K_impl_Automaton_simulation_56.eq_1
def K_impl_Automaton_simulation_57 : C := .seq (.seq (.pl <| .st (.ext 26 1) <|
    .st (.act none (.als 26 none 1)) <|
    .st (.act none (.pget (some 14) (some 26) 1 2 none)) <|
    .st (.act none (.px (some 15) (.lenV (.v 14)))) <|
    .st (.act none (.px (some 16) (.mv (.c (.int .i64 0))))) .done) K_impl_Automaton_simulation_56) K_impl_Automaton_simulation_42
@[simp] def W_impl_Automaton_simulation_57 := @C.wpe _ _ K_impl_Automaton_simulation_57.eq_1
def K_impl_Automaton_simulation_58 : Pl := .st (.act none (.ex none (.store 1 (.v 4) (.v 27)))) .done
@[simp] def W_impl_Automaton_simulation_58 := @Pl.wpe _ _ K_impl_Automaton_simulation_58.eq_1
def K_impl_Automaton_simulation_59 : Pl := .st (.act none (.ex (some 4) (.alloc (.c (.slice none 0 0))))) K_impl_Automaton_simulation_58
@[simp] def W_impl_Automaton_simulation_59 := @Pl.wpe _ _ K_impl_Automaton_simulation_59.eq_1
def K_impl_Automaton_simulation_60 : C := .seq (.pl <| .st (.ext 26 2) <|
    .st (.act none (.ld (some 26) (.v 3) none)) <|
    .st (.act none (.ex (some 27) (.mks 64 8 [.int .u64 0, .int .u64 0, .int .u64 0, .int .u64 0, .int .u64 0, .int .u64 0, .int .u64 0, .int .u64 0] (.v 26) (.v 26)))) K_impl_Automaton_simulation_59) K_impl_Automaton_simulation_57
@[simp] def W_impl_Automaton_simulation_60 := @C.wpe _ _ K_impl_Automaton_simulation_60.eq_1
def K_impl_Automaton_simulation_61 : Pl := .st (.act none (.ex none (.store 1 (.v 3) (.v 28)))) .done
@[simp] def W_impl_Automaton_simulation_61 := @Pl.wpe _ _ K_impl_Automaton_simulation_61.eq_1
def K_impl_Automaton_simulation_62 : C := .seq (.pl <| .st (.ext 26 3) <|
    .st (.act none (.als 26 none 1)) <|
    .st (.act none (.pget (some 27) (some 26) 1 1 none)) <|
    .st (.act none (.px (some 28) (.lenV (.v 27)))) <|
    .st (.act none (.ex (some 3) (.alloc (.c (.int .i64 0))))) K_impl_Automaton_simulation_61) K_impl_Automaton_simulation_60
@[simp] def W_impl_Automaton_simulation_62 := @C.wpe _ _ K_impl_Automaton_simulation_62.eq_1
def B_impl_Automaton_simulation : C := .seq (.pl <| .st (.ext 26 0) <|
    .st (.act none (.pnew 1 (.v 0) [])) <|
    .st (.act none (.px (some 2) (.mv (.c (.slice none 0 0))))) .done) K_impl_Automaton_simulation_62
@[simp] def WB_impl_Automaton_simulation := @C.wpe _ _ B_impl_Automaton_simulation.eq_1
def R_impl_Automaton_simulation : FIR := ⟨B_impl_Automaton_simulation, 26, [(2, none)]⟩
theorem IR_impl_Automaton_simulation : cfun Try.prog H_impl_Automaton_simulation Try.f25 = some R_impl_Automaton_simulation := by kernel_rfl
theorem EN_impl_Automaton_simulation {args : List Value} {h : Heap} {k : Value → Heap → Prop} (hargs : args.length = 1) (hw : B_impl_Automaton_simulation.wp Try.prog (retQ [(2, none)] k) (env0 args 26) h) : CallE Try.prog fn_impl_Automaton_simulation args h k := enter Try.func25 rfl IR_impl_Automaton_simulation hargs hw

def H_impl_Automaton_simulation_1 : Hint := ⟨[(0, false), (1, false), (2, false), (3, false), (4, false), (7, false), (8, false), (9, false), (10, false), (13, false), (14, false)], [[5, 6, 7, 9, 10], [5, 7]]⟩
def K_impl_Automaton_simulation_1_1 : C := .seq (.pl <| .st (.ext 11 0) <|
    .st (.act none (.px (some 5) (.mv (.c (.bool true))))) .done) (.ret)
@[simp] def W_impl_Automaton_simulation_1_1 := @C.wpe _ _ K_impl_Automaton_simulation_1_1.eq_1
def K_impl_Automaton_simulation_1_2 : C := .pl <| .st (.ext 11 1) <|
    .st (.act none (.px (some 11) (.bin .add (.v 8) (.c (.int .i64 1))))) <|
    .st (.act none (.px (some 8) (.mv (.v 11)))) .done
@[simp] def W_impl_Automaton_simulation_1_2 := @C.wpe _ _ K_impl_Automaton_simulation_1_2.eq_1
def K_impl_Automaton_simulation_1_3 : C := .pl <| .st (.ext 11 1) <|
    .st (.act none (.px (some 11) (.bin .add (.v 10) (.c (.int .i64 1))))) <|
    .st (.act none (.px (some 10) (.mv (.v 11)))) .done
@[simp] def W_impl_Automaton_simulation_1_3 := @C.wpe _ _ K_impl_Automaton_simulation_1_3.eq_1
def K_impl_Automaton_simulation_1_4 : C := .seq (.pl <| .st (.ext 11 0) <|
    .st (.act none (.px (some 5) (.mv (.c (.bool false))))) .done) (.ret)
@[simp] def W_impl_Automaton_simulation_1_4 := @C.wpe _ _ K_impl_Automaton_simulation_1_4.eq_1
def K_impl_Automaton_simulation_1_5 : C := .cond 11 (.v 34) K_impl_Automaton_simulation_1_4 (.skip)
@[simp] def W_impl_Automaton_simulation_1_5 := @C.wpe _ _ K_impl_Automaton_simulation_1_5.eq_1
def K_impl_Automaton_simulation_1_6 : C := .seq (.pl <| .st (.ext 11 24) <|
    .st (.act none (.ld (some 11) (.v 3) none)) <|
    .st (.act none (.px (some 12) (.mv (.v 1)))) <|
    .st (.act none (.px (some 13) (.mv (.v 6)))) <|
    .st (.act none (.px (some 14) (.ia 8 (.v 11) (.v 12)))) <|
    .st (.act none (.px (some 15) (.iaA 8 1 (.v 14) (.v 13)))) <|
    .st (.act none (.ld (some 16) (.v 15) none)) <|
    .st (.act none (.px (some 17) (.mv (.v 7)))) <|
    .st (.act none (.px (some 18) (.bin .shr (.v 16) (.v 17)))) <|
    .st (.act none (.px (some 19) (.bin .and (.v 18) (.c (.int .u64 1))))) <|
    .st (.act none (.px (some 20) (.bin .eql (.v 19) (.c (.int .u64 1))))) <|
    .st (.act none (.px (some 21) (.mv (.v 20)))) <|
    .st (.act (some (.v 21, true)) (.ld (some 22) (.v 3) none)) <|
    .st (.act (some (.v 21, true)) (.px (some 23) (.mv (.v 0)))) <|
    .st (.act (some (.v 21, true)) (.px (some 24) (.mv (.v 6)))) <|
    .st (.act (some (.v 21, true)) (.px (some 25) (.ia 8 (.v 22) (.v 23)))) <|
    .st (.act (some (.v 21, true)) (.px (some 26) (.iaA 8 1 (.v 25) (.v 24)))) <|
    .st (.act (some (.v 21, true)) (.ld (some 27) (.v 26) none)) <|
    .st (.act (some (.v 21, true)) (.ld (some 28) (.v 4) none)) <|
    .st (.act (some (.v 21, true)) (.px (some 29) (.mv (.v 7)))) <|
    .st (.act (some (.v 21, true)) (.px (some 30) (.ia 1 (.v 28) (.v 29)))) <|
    .st (.act (some (.v 21, true)) (.ld (some 31) (.v 30) none)) <|
    .st (.act (some (.v 21, true)) (.px (some 32) (.bin .and (.v 27) (.v 31)))) <|
    .st (.act (some (.v 21, true)) (.px (some 33) (.bin .eql (.v 32) (.c (.int .u64 0))))) <|
    .st (.act none (.px (some 34) (.pick (.v 21) (.v 33) (.c (.bool false))))) .done) K_impl_Automaton_simulation_1_5
@[simp] def W_impl_Automaton_simulation_1_6 := @C.wpe _ _ K_impl_Automaton_simulation_1_6.eq_1
def K_impl_Automaton_simulation_1_7 : C := .seq (.block 3 (.seq (.pl <| .st (.ext 11 1) <|
    .st (.act none (.px (some 11) (.mv (.v 10)))) <|
    .st (.act none (.px (some 7) (.mv (.v 11)))) .done) K_impl_Automaton_simulation_1_6)) K_impl_Automaton_simulation_1_3
@[simp] def W_impl_Automaton_simulation_1_7 := @C.wpe _ _ K_impl_Automaton_simulation_1_7.eq_1
def K_impl_Automaton_simulation_1_8 : C := .seq (.cond 11 (.v 11) (.skip) (.exit 2)) K_impl_Automaton_simulation_1_7
@[simp] def W_impl_Automaton_simulation_1_8 := @C.wpe _ _ K_impl_Automaton_simulation_1_8.eq_1
def K_impl_Automaton_simulation_1_9 : C := .seq (.pl <| .st (.ext 11 1) <|
    .st (.act none (.px (some 11) (.bin .lss (.v 10) (.v 9)))) .done) K_impl_Automaton_simulation_1_8
@[simp] def W_impl_Automaton_simulation_1_9 := @C.wpe _ _ K_impl_Automaton_simulation_1_9.eq_1
def K_impl_Automaton_simulation_1_10 : C := .block 2 (.loop 11 [5, 7] K_impl_Automaton_simulation_1_9)
@[simp] def W_impl_Automaton_simulation_1_10 := @C.wpe _ _ K_impl_Automaton_simulation_1_10.eq_1
def K_impl_Automaton_simulation_1_11 : C := .seq (.pl <| .st (.ext 11 0) <|
    .st (.act none (.ld (some 9) (.v 2) none)) <|
    .st (.act none (.px (some 10) (.mv (.c (.int .i64 0))))) .done) K_impl_Automaton_simulation_1_10
@[simp] def W_impl_Automaton_simulation_1_11 := @C.wpe _ _ K_impl_Automaton_simulation_1_11.eq_1
def K_impl_Automaton_simulation_1_12 : C := .seq (.block 1 (.seq (.pl <| .st (.ext 11 1) <|
    .st (.act none (.px (some 11) (.mv (.v 8)))) <|
    .st (.act none (.px (some 6) (.mv (.v 11)))) .done) K_impl_Automaton_simulation_1_11)) K_impl_Automaton_simulation_1_2
@[simp] def W_impl_Automaton_simulation_1_12 := @C.wpe _ _ K_impl_Automaton_simulation_1_12.eq_1
def K_impl_Automaton_simulation_1_13 : C := .seq (.cond 11 (.v 11) (.skip) (.exit 0)) K_impl_Automaton_simulation_1_12
@[simp] def W_impl_Automaton_simulation_1_13 := @C.wpe _ _ K_impl_Automaton_simulation_1_13.eq_1
def K_impl_Automaton_simulation_1_14 : C := .seq (.pl <| .st (.ext 11 1) <|
    .st (.act none (.px (some 11) (.bin .lss (.v 8) (.c (.int .i64 8))))) .done) K_impl_Automaton_simulation_1_13
@[simp] def W_impl_Automaton_simulation_1_14 := @C.wpe _ _ K_impl_Automaton_simulation_1_14.eq_1
def K_impl_Automaton_simulation_1_15 : C := .block 0 (.loop 11 [5, 6, 7, 9, 10] K_impl_Automaton_simulation_1_14)
@[simp] def W_impl_Automaton_simulation_1_15 := @C.wpe _ _ K_impl_Automaton_simulation_1_15.eq_1
def K_impl_Automaton_simulation_1_16 : C := .seq (.seq (.pl <| .st (.ext 11 0) <|
    .st (.act none (.px (some 8) (.mv (.c (.int .i64 0))))) .done) K_impl_Automaton_simulation_1_15) K_impl_Automaton_simulation_1_1
@[simp] def W_impl_Automaton_simulation_1_16 := @C.wpe _ _ K_impl_Automaton_simulation_1_16.eq_1
def B_impl_Automaton_simulation_1 : C := .seq (.pl <| .st (.ext 11 0) <|
    .st (.act none (.px (some 5) (.mv (.c (.bool false))))) .done) K_impl_Automaton_simulation_1_16
@[simp] def WB_impl_Automaton_simulation_1 := @C.wpe _ _ B_impl_Automaton_simulation_1.eq_1
def R_impl_Automaton_simulation_1 : FIR := ⟨B_impl_Automaton_simulation_1, 11, [(5, none)]⟩
theorem IR_impl_Automaton_simulation_1 : cfun Try.prog H_impl_Automaton_simulation_1 Try.f43 = some R_impl_Automaton_simulation_1 := by kernel_rfl
theorem EN_impl_Automaton_simulation_1 {args : List Value} {h : Heap} {k : Value → Heap → Prop} (hargs : args.length = 5) (hw : B_impl_Automaton_simulation_1.wp Try.prog (retQ [(5, none)] k) (env0 args 11) h) : CallE Try.prog fn_impl_Automaton_simulation_1 args h k := enter Try.func43 rfl IR_impl_Automaton_simulation_1 hargs hw

def H_impl_IncludesAutomaton : Hint := ⟨[(0, false), (1, false), (2, true), (3, false), (4, false), (5, true), (6, false), (7, false), (8, false)], []⟩
def K_impl_IncludesAutomaton_1 : Pl := .st (.act none (.px (some 13) (.un .not (.v 12)))) <|
    .st (.act none (.px (some 4) (.mv (.v 13)))) .done
@[simp] def W_impl_IncludesAutomaton_1 := @Pl.wpe _ _ K_impl_IncludesAutomaton_1.eq_1
def K_impl_IncludesAutomaton_2 : C := .seq (.pl <| .st (.ext 9 5) <|
    .st (.act none (.als 9 none 2)) <|
    .st (.act none (.pget (some 10) (some 9) 2 0 none)) <|
    .st (.act none (.px (some 11) (.mkf (.func fn_impl_IncludesAutomaton_1) [] [.v 3, .v 7, .v 8]))) <|
    .st (.act none (.ex (some 12) (.call fn_slices_ContainsFunc_S_int_int [.v 10, .v 11]))) K_impl_IncludesAutomaton_1) (.ret)
@[simp] def W_impl_IncludesAutomaton_2 := @C.wpe _ _ K_impl_IncludesAutomaton_2.eq_1
def K_impl_IncludesAutomaton_3 : Pl := .st (.act none (.ex none (.store 1 (.v 8) (.v 11)))) .done
@[simp] def W_impl_IncludesAutomaton_3 := @Pl.wpe _ _ K_impl_IncludesAutomaton_3.eq_1
def K_impl_IncludesAutomaton_4 : C := .seq (.pl <| .st (.ext 9 3) <|
    .st (.act none (.als 9 none 2)) <|
    .st (.act none (.pget (some 10) (some 9) 2 1 none)) <|
    .st (.act none (.px (some 11) (.lenV (.v 10)))) <|
    .st (.act none (.ex (some 8) (.alloc (.c (.int .i64 0))))) K_impl_IncludesAutomaton_3) K_impl_IncludesAutomaton_2
@[simp] def W_impl_IncludesAutomaton_4 := @C.wpe _ _ K_impl_IncludesAutomaton_4.eq_1
def K_impl_IncludesAutomaton_5 : Pl := .st (.act none (.ex none (.store 1 (.v 7) (.v 10)))) .done
@[simp] def W_impl_IncludesAutomaton_5 := @Pl.wpe _ _ K_impl_IncludesAutomaton_5.eq_1
def K_impl_IncludesAutomaton_6 : Pl := .st (.act none (.ex (some 7) (.alloc (.c (.slice none 0 0))))) K_impl_IncludesAutomaton_5
@[simp] def W_impl_IncludesAutomaton_6 := @Pl.wpe _ _ K_impl_IncludesAutomaton_6.eq_1
def K_impl_IncludesAutomaton_7 : C := .seq (.pl <| .st (.ext 9 2) <|
    .st (.act none (.pget (some 9) none 5 0 (some 3))) <|
    .st (.act none (.ex (some 10) (.call fn_impl_Automaton_simulation [.v 9]))) K_impl_IncludesAutomaton_6) K_impl_IncludesAutomaton_4
@[simp] def W_impl_IncludesAutomaton_7 := @C.wpe _ _ K_impl_IncludesAutomaton_7.eq_1
def K_impl_IncludesAutomaton_8 : C := .seq (.pl <| .st (.ext 9 0) <|
    .st (.act none (.px (some 4) (.mv (.c (.bool false))))) .done) (.ret)
@[simp] def W_impl_IncludesAutomaton_8 := @C.wpe _ _ K_impl_IncludesAutomaton_8.eq_1
def K_impl_IncludesAutomaton_9 : C := .cond 9 (.v 10) K_impl_IncludesAutomaton_8 (.skip)
@[simp] def W_impl_IncludesAutomaton_9 := @C.wpe _ _ K_impl_IncludesAutomaton_9.eq_1
def K_impl_IncludesAutomaton_10 : C := .seq (.seq (.pl <| .st (.ext 9 2) <|
    .st (.act none (.px (some 9) (.mv (.v 6)))) <|
    .st (.act none (.px (some 10) (.un .not (.v 9)))) .done) K_impl_IncludesAutomaton_9) K_impl_IncludesAutomaton_7
@[simp] def W_impl_IncludesAutomaton_10 := @C.wpe _ _ K_impl_IncludesAutomaton_10.eq_1
def K_impl_IncludesAutomaton_11 : Pl := .st (.act none (.px (some 12) (.mv (.v 11)))) <|
    .st (.act none (.px (some 13) (.extract 0 (.v 12)))) <|
    .st (.act none (.px (some 14) (.extract 1 (.v 12)))) <|
    .st (.act none (.pnew 5 (.c (.agg #[.slice none 0 0, .slice none 0 0, .slice none 0 0])) [])) <|
    .st (.act none (.pset none 5 0 3 (.v 13))) <|
    .st (.act none (.px (some 6) (.mv (.v 14)))) .done
@[simp] def W_impl_IncludesAutomaton_11 := @Pl.wpe _ _ K_impl_IncludesAutomaton_11.eq_1
def K_impl_IncludesAutomaton_12 : C := .seq (.pl <| .st (.ext 9 6) <|
    .st (.act none (.pget (some 9) none 2 0 (some 3))) <|
    .st (.act none (.ld (some 10) (.v 3) (some 3))) <|
    .st (.act none (.ex (some 11) (.call fn_impl_UniteAutomata [.v 9, .v 10]))) K_impl_IncludesAutomaton_11) K_impl_IncludesAutomaton_10
@[simp] def W_impl_IncludesAutomaton_12 := @C.wpe _ _ K_impl_IncludesAutomaton_12.eq_1
def K_impl_IncludesAutomaton_13 : Pl := .st (.act none (.px (some 4) (.mv (.c (.bool false))))) .done
@[simp] def W_impl_IncludesAutomaton_13 := @Pl.wpe _ _ K_impl_IncludesAutomaton_13.eq_1
def B_impl_IncludesAutomaton : C := .seq (.pl <| .st (.ext 9 0) <|
    .st (.act none (.pnew 2 (.v 0) [])) <|
    .st (.act none (.ex (some 3) (.alloc (.v 1)))) K_impl_IncludesAutomaton_13) K_impl_IncludesAutomaton_12
@[simp] def WB_impl_IncludesAutomaton := @C.wpe _ _ B_impl_IncludesAutomaton.eq_1
def R_impl_IncludesAutomaton : FIR := ⟨B_impl_IncludesAutomaton, 9, [(4, none)]⟩
theorem IR_impl_IncludesAutomaton : cfun Try.prog H_impl_IncludesAutomaton Try.f8 = some R_impl_IncludesAutomaton := by kernel_rfl
theorem EN_impl_IncludesAutomaton {args : List Value} {h : Heap} {k : Value → Heap → Prop} (hargs : args.length = 2) (hw : B_impl_IncludesAutomaton.wp Try.prog (retQ [(4, none)] k) (env0 args 9) h) : CallE Try.prog fn_impl_IncludesAutomaton args h k := enter Try.func8 rfl IR_impl_IncludesAutomaton hargs hw

def H_impl_IncludesAutomaton_1 : Hint := ⟨[(0, false), (1, false), (2, false), (3, false), (4, false), (5, false)], []⟩
def K_impl_IncludesAutomaton_1_1 : Pl := .st (.act none (.px (some 10) (.un .not (.v 9)))) <|
    .st (.act none (.px (some 5) (.mv (.v 10)))) .done
@[simp] def W_impl_IncludesAutomaton_1_1 := @Pl.wpe _ _ K_impl_IncludesAutomaton_1_1.eq_1
def K_impl_IncludesAutomaton_1_2 : C := .seq (.pl <| .st (.ext 6 5) <|
    .st (.act none (.px (some 6) (.fa 0 (.v 1)))) <|
    .st (.act none (.ld (some 7) (.v 6) none)) <|
    .st (.act none (.px (some 8) (.mkf (.func fn_impl_IncludesAutomaton_1_1) [] [.v 2, .v 4, .v 3]))) <|
    .st (.act none (.ex (some 9) (.call fn_slices_ContainsFunc_S_int_int [.v 7, .v 8]))) K_impl_IncludesAutomaton_1_1) (.ret)
@[simp] def W_impl_IncludesAutomaton_1_2 := @C.wpe _ _ K_impl_IncludesAutomaton_1_2.eq_1
def K_impl_IncludesAutomaton_1_3 : Pl := .st (.act none (.px (some 5) (.mv (.c (.bool false))))) .done
@[simp] def W_impl_IncludesAutomaton_1_3 := @Pl.wpe _ _ K_impl_IncludesAutomaton_1_3.eq_1
def B_impl_IncludesAutomaton_1 : C := .seq (.pl <| .st (.ext 6 0) <|
    .st (.act none (.ex (some 4) (.alloc (.v 0)))) K_impl_IncludesAutomaton_1_3) K_impl_IncludesAutomaton_1_2
@[simp] def WB_impl_IncludesAutomaton_1 := @C.wpe _ _ B_impl_IncludesAutomaton_1.eq_1
def R_impl_IncludesAutomaton_1 : FIR := ⟨B_impl_IncludesAutomaton_1, 6, [(5, none)]⟩
theorem IR_impl_IncludesAutomaton_1 : cfun Try.prog H_impl_IncludesAutomaton_1 Try.f27 = some R_impl_IncludesAutomaton_1 := by kernel_rfl
theorem EN_impl_IncludesAutomaton_1 {args : List Value} {h : Heap} {k : Value → Heap → Prop} (hargs : args.length = 4) (hw : B_impl_IncludesAutomaton_1.wp Try.prog (retQ [(5, none)] k) (env0 args 6) h) : CallE Try.prog fn_impl_IncludesAutomaton_1 args h k := enter Try.func27 rfl IR_impl_IncludesAutomaton_1 hargs hw

def H_impl_IncludesAutomaton_1_1 : Hint := ⟨[(0, false), (1, false), (2, false), (3, false), (5, false)], []⟩
def K_impl_IncludesAutomaton_1_1_1 : C := .seq (.pl <| .st (.ext 5 10) <|
    .st (.act none (.ld (some 5) (.v 1) none)) <|
    .st (.act none (.ld (some 6) (.v 2) none)) <|
    .st (.act none (.px (some 7) (.ia 1 (.v 5) (.v 6)))) <|
    .st (.act none (.ld (some 8) (.v 7) none)) <|
    .st (.act none (.px (some 9) (.mv (.v 0)))) <|
    .st (.act none (.ld (some 10) (.v 3) none)) <|
    .st (.act none (.px (some 11) (.bin .add (.v 9) (.v 10)))) <|
    .st (.act none (.px (some 12) (.bin .shr (.v 8) (.v 11)))) <|
    .st (.act none (.px (some 13) (.bin .and (.v 12) (.c (.int .u64 1))))) <|
    .st (.act none (.px (some 14) (.bin .eql (.v 13) (.c (.int .u64 1))))) <|
    .st (.act none (.px (some 4) (.mv (.v 14)))) .done) (.ret)
@[simp] def W_impl_IncludesAutomaton_1_1_1 := @C.wpe _ _ K_impl_IncludesAutomaton_1_1_1.eq_1
def B_impl_IncludesAutomaton_1_1 : C := .seq (.pl <| .st (.ext 5 0) <|
    .st (.act none (.px (some 4) (.mv (.c (.bool false))))) .done) K_impl_IncludesAutomaton_1_1_1
@[simp] def WB_impl_IncludesAutomaton_1_1 := @C.wpe _ _ B_impl_IncludesAutomaton_1_1.eq_1
def R_impl_IncludesAutomaton_1_1 : FIR := ⟨B_impl_IncludesAutomaton_1_1, 5, [(4, none)]⟩
theorem IR_impl_IncludesAutomaton_1_1 : cfun Try.prog H_impl_IncludesAutomaton_1_1 Try.f28 = some R_impl_IncludesAutomaton_1_1 := by kernel_rfl
theorem EN_impl_IncludesAutomaton_1_1 {args : List Value} {h : Heap} {k : Value → Heap → Prop} (hargs : args.length = 4) (hw : B_impl_IncludesAutomaton_1_1.wp Try.prog (retQ [(4, none)] k) (env0 args 5) h) : CallE Try.prog fn_impl_IncludesAutomaton_1_1 args h k := enter Try.func28 rfl IR_impl_IncludesAutomaton_1_1 hargs hw

def H_impl_SimulationRelation : Hint := ⟨[(0, false), (1, true), (2, false), (3, false), (4, false), (5, false), (6, false), (7, false), (16, false), (17, false), (18, false), (34, false), (35, false)], [[0, 2, 3, 5, 6, 7, 11, 12], [0, 2, 3, 7]]⟩
def K_impl_SimulationRelation_1 : C := .seq (.pl <| .st (.ext 13 1) <|
    .st (.act none (.px (some 13) (.mv (.v 4)))) <|
    .st (.act none (.px (some 2) (.mv (.v 13)))) <|
    .st (.act none (.px (some 3) (.mv (.c (.bool true))))) .done) (.ret)
@[simp] def W_impl_SimulationRelation_1 := @C.wpe _ _ K_impl_SimulationRelation_1.eq_1
def K_impl_SimulationRelation_2 : C := .pl <| .st (.ext 13 1) <|
    .st (.act none (.px (some 13) (.bin .add (.v 10) (.c (.int .i64 1))))) <|
    .st (.act none (.px (some 10) (.mv (.v 13)))) .done
@[simp] def W_impl_SimulationRelation_2 := @C.wpe _ _ K_impl_SimulationRelation_2.eq_1
def K_impl_SimulationRelation_3 : C := .pl <| .st (.ext 13 1) <|
    .st (.act none (.px (some 13) (.bin .add (.v 12) (.c (.int .i64 1))))) <|
    .st (.act none (.px (some 12) (.mv (.v 13)))) .done
@[simp] def W_impl_SimulationRelation_3 := @C.wpe _ _ K_impl_SimulationRelation_3.eq_1
def K_impl_SimulationRelation_4 : C := .pl <| .st (.ext 13 11) <|
    .st (.act none (.px (some 13) (.mv (.v 4)))) <|
    .st (.act none (.px (some 14) (.mv (.v 5)))) <|
    .st (.act none (.px (some 15) (.ia 1 (.v 13) (.v 14)))) <|
    .st (.act none (.ld (some 16) (.v 15) none)) <|
    .st (.act none (.px (some 17) (.mv (.v 7)))) <|
    .st (.act none (.px (some 18) (.mv (.v 6)))) <|
    .st (.act none (.px (some 19) (.mv (.v 7)))) <|
    .st (.act none (.px (some 20) (.bin .shr (.v 18) (.v 19)))) <|
    .st (.act none (.px (some 21) (.bin .and (.v 20) (.c (.int .u64 1))))) <|
    .st (.act none (.px (some 22) (.bin .eql (.v 21) (.c (.int .u64 1))))) <|
    .st (.act none (.px (some 23) (.ia 1 (.v 16) (.v 17)))) <|
    .st (.act none (.ex none (.store 1 (.v 23) (.v 22)))) .done
@[simp] def W_impl_SimulationRelation_4 := @C.wpe _ _ K_impl_SimulationRelation_4.eq_1
def K_impl_SimulationRelation_5 : C := .seq (.block 3 (.seq (.pl <| .st (.ext 13 1) <|
    .st (.act none (.px (some 13) (.mv (.v 12)))) <|
    .st (.act none (.px (some 7) (.mv (.v 13)))) .done) K_impl_SimulationRelation_4)) K_impl_SimulationRelation_3
@[simp] def W_impl_SimulationRelation_5 := @C.wpe _ _ K_impl_SimulationRelation_5.eq_1
def K_impl_SimulationRelation_6 : C := .seq (.cond 13 (.v 13) (.skip) (.exit 2)) K_impl_SimulationRelation_5
@[simp] def W_impl_SimulationRelation_6 := @C.wpe _ _ K_impl_SimulationRelation_6.eq_1
def K_impl_SimulationRelation_7 : C := .seq (.pl <| .st (.ext 13 1) <|
    .st (.act none (.px (some 13) (.bin .lss (.v 12) (.v 11)))) .done) K_impl_SimulationRelation_6
@[simp] def W_impl_SimulationRelation_7 := @C.wpe _ _ K_impl_SimulationRelation_7.eq_1
def K_impl_SimulationRelation_8 : C := .block 2 (.loop 13 [0, 2, 3, 7] K_impl_SimulationRelation_7)
@[simp] def W_impl_SimulationRelation_8 := @C.wpe _ _ K_impl_SimulationRelation_8.eq_1
def K_impl_SimulationRelation_9 : C := .seq (.pl <| .st (.ext 13 4) <|
    .st (.act none (.px (some 13) (.mv (.v 4)))) <|
    .st (.act none (.px (some 14) (.mv (.v 5)))) <|
    .st (.act none (.px (some 15) (.ia 1 (.v 13) (.v 14)))) <|
    .st (.act none (.ld (some 16) (.v 15) none)) <|
    .st (.act none (.px (some 11) (.lenV (.v 16)))) <|
    .st (.act none (.px (some 12) (.mv (.c (.int .i64 0))))) .done) K_impl_SimulationRelation_8
@[simp] def W_impl_SimulationRelation_9 := @C.wpe _ _ K_impl_SimulationRelation_9.eq_1
def K_impl_SimulationRelation_10 : Pl := .st (.act none (.px (some 19) (.ia 1 (.v 13) (.v 14)))) <|
    .st (.act none (.ex none (.store 1 (.v 19) (.v 18)))) .done
@[simp] def W_impl_SimulationRelation_10 := @Pl.wpe _ _ K_impl_SimulationRelation_10.eq_1
def K_impl_SimulationRelation_11 : C := .seq (.pl <| .st (.ext 13 7) <|
    .st (.act none (.px (some 13) (.mv (.v 4)))) <|
    .st (.act none (.px (some 14) (.mv (.v 5)))) <|
    .st (.act none (.als 15 none 1)) <|
    .st (.act none (.pget (some 16) (some 15) 1 1 none)) <|
    .st (.act none (.px (some 17) (.lenV (.v 16)))) <|
    .st (.act none (.ex (some 18) (.mks 1 1 [.bool false] (.v 17) (.v 17)))) K_impl_SimulationRelation_10) K_impl_SimulationRelation_9
@[simp] def W_impl_SimulationRelation_11 := @C.wpe _ _ K_impl_SimulationRelation_11.eq_1
def K_impl_SimulationRelation_12 : C := .seq (.block 1 (.seq (.pl <| .st (.ext 13 3) <|
    .st (.act none (.px (some 13) (.mv (.v 10)))) <|
    .st (.act none (.px (some 14) (.ia 1 (.v 8) (.v 10)))) <|
    .st (.act none (.ld (some 15) (.v 14) none)) <|
    .st (.act none (.px (some 5) (.mv (.v 13)))) <|
    .st (.act none (.px (some 6) (.mv (.v 15)))) .done) K_impl_SimulationRelation_11)) K_impl_SimulationRelation_2
@[simp] def W_impl_SimulationRelation_12 := @C.wpe _ _ K_impl_SimulationRelation_12.eq_1
def K_impl_SimulationRelation_13 : C := .seq (.cond 13 (.v 13) (.skip) (.exit 0)) K_impl_SimulationRelation_12
@[simp] def W_impl_SimulationRelation_13 := @C.wpe _ _ K_impl_SimulationRelation_13.eq_1
def K_impl_SimulationRelation_14 : C := .seq (.pl <| .st (.ext 13 1) <|
    .st (.act none (.px (some 13) (.bin .lss (.v 10) (.v 9)))) .done) K_impl_SimulationRelation_13
@[simp] def W_impl_SimulationRelation_14 := @C.wpe _ _ K_impl_SimulationRelation_14.eq_1
def K_impl_SimulationRelation_15 : C := .block 0 (.loop 13 [0, 2, 3, 5, 6, 7, 11, 12] K_impl_SimulationRelation_14)
@[simp] def W_impl_SimulationRelation_15 := @C.wpe _ _ K_impl_SimulationRelation_15.eq_1
def K_impl_SimulationRelation_16 : Pl := .st (.act none (.px (some 9) (.lenV (.v 8)))) <|
    .st (.act none (.px (some 10) (.mv (.c (.int .i64 0))))) .done
@[simp] def W_impl_SimulationRelation_16 := @Pl.wpe _ _ K_impl_SimulationRelation_16.eq_1
def K_impl_SimulationRelation_17 : C := .seq (.seq (.pl <| .st (.ext 13 1) <|
    .st (.act none (.pget (some 13) none 1 0 (some 3))) <|
    .st (.act none (.ex (some 8) (.call fn_impl_Automaton_simulation [.v 13]))) K_impl_SimulationRelation_16) K_impl_SimulationRelation_15) K_impl_SimulationRelation_1
@[simp] def W_impl_SimulationRelation_17 := @C.wpe _ _ K_impl_SimulationRelation_17.eq_1
def K_impl_SimulationRelation_18 : Pl := .st (.act none (.px (some 4) (.mv (.v 16)))) .done
@[simp] def W_impl_SimulationRelation_18 := @Pl.wpe _ _ K_impl_SimulationRelation_18.eq_1
def K_impl_SimulationRelation_19 : C := .seq (.pl <| .st (.ext 13 4) <|
    .st (.act none (.als 13 none 1)) <|
    .st (.act none (.pget (some 14) (some 13) 1 1 none)) <|
    .st (.act none (.px (some 15) (.lenV (.v 14)))) <|
    .st (.act none (.ex (some 16) (.mks 24 1 [.slice none 0 0] (.v 15) (.v 15)))) K_impl_SimulationRelation_18) K_impl_SimulationRelation_17
@[simp] def W_impl_SimulationRelation_19 := @C.wpe _ _ K_impl_SimulationRelation_19.eq_1
def K_impl_SimulationRelation_20 : C := .seq (.pl <| .st (.ext 13 0) <|
    .st (.act none (.px (some 2) (.mv (.c (.slice none 0 0))))) <|
    .st (.act none (.px (some 3) (.mv (.c (.bool false))))) .done) (.ret)
@[simp] def W_impl_SimulationRelation_20 := @C.wpe _ _ K_impl_SimulationRelation_20.eq_1
def K_impl_SimulationRelation_21 : C := .cond 13 (.v 15) K_impl_SimulationRelation_20 (.skip)
@[simp] def W_impl_SimulationRelation_21 := @C.wpe _ _ K_impl_SimulationRelation_21.eq_1
def K_impl_SimulationRelation_22 : Pl := .st (.act none (.px (some 15) (.un .not (.v 14)))) .done
@[simp] def W_impl_SimulationRelation_22 := @Pl.wpe _ _ K_impl_SimulationRelation_22.eq_1
def K_impl_SimulationRelation_23 : C := .seq (.seq (.pl <| .st (.ext 13 3) <|
    .st (.act none (.pget (some 13) none 1 0 (some 3))) <|
    .st (.act none (.ex (some 14) (.call fn_impl_AutomatonValid [.v 13]))) K_impl_SimulationRelation_22) K_impl_SimulationRelation_21) K_impl_SimulationRelation_19
@[simp] def W_impl_SimulationRelation_23 := @C.wpe _ _ K_impl_SimulationRelation_23.eq_1
def B_impl_SimulationRelation : C := .seq (.pl <| .st (.ext 13 0) <|
    .st (.act none (.pnew 1 (.v 0) [])) <|
    .st (.act none (.px (some 2) (.mv (.c (.slice none 0 0))))) <|
    .st (.act none (.px (some 3) (.mv (.c (.bool false))))) .done) K_impl_SimulationRelation_23
@[simp] def WB_impl_SimulationRelation := @C.wpe _ _ B_impl_SimulationRelation.eq_1
def R_impl_SimulationRelation : FIR := ⟨B_impl_SimulationRelation, 13, [(2, none), (3, none)]⟩
theorem IR_impl_SimulationRelation : cfun Try.prog H_impl_SimulationRelation Try.f11 = some R_impl_SimulationRelation := by kernel_rfl
theorem EN_impl_SimulationRelation {args : List Value} {h : Heap} {k : Value → Heap → Prop} (hargs : args.length = 1) (hw : B_impl_SimulationRelation.wp Try.prog (retQ [(2, none), (3, none)] k) (env0 args 13) h) : CallE Try.prog fn_impl_SimulationRelation args h k := enter Try.func11 rfl IR_impl_SimulationRelation hargs hw

def H_impl_Transition_takes : Hint := ⟨[(0, false), (1, false), (2, true), (4, false)], []⟩
def K_impl_Transition_takes_1 : C := .seq (.pl <| .st (.ext 4 7) <|
    .st (.act none (.px (some 4) (.mv (.v 1)))) <|
    .st (.act none (.als 5 none 2)) <|
    .st (.act none (.pget (some 6) (some 5) 2 1 none)) <|
    .st (.act none (.px (some 7) (.bin .and (.v 4) (.v 6)))) <|
    .st (.act none (.als 8 none 2)) <|
    .st (.act none (.pget (some 9) (some 8) 2 2 none)) <|
    .st (.act none (.px (some 10) (.bin .eql (.v 7) (.v 9)))) <|
    .st (.act none (.px (some 3) (.mv (.v 10)))) .done) (.ret)
@[simp] def W_impl_Transition_takes_1 := @C.wpe _ _ K_impl_Transition_takes_1.eq_1
def B_impl_Transition_takes : C := .seq (.pl <| .st (.ext 4 0) <|
    .st (.act none (.pnew 2 (.v 0) [])) <|
    .st (.act none (.px (some 3) (.mv (.c (.bool false))))) .done) K_impl_Transition_takes_1
@[simp] def WB_impl_Transition_takes := @C.wpe _ _ B_impl_Transition_takes.eq_1
def R_impl_Transition_takes : FIR := ⟨B_impl_Transition_takes, 4, [(3, none)]⟩
theorem IR_impl_Transition_takes : cfun Try.prog H_impl_Transition_takes Try.f42 = some R_impl_Transition_takes := by kernel_rfl
theorem EN_impl_Transition_takes {args : List Value} {h : Heap} {k : Value → Heap → Prop} (hargs : args.length = 2) (hw : B_impl_Transition_takes.wp Try.prog (retQ [(3, none)] k) (env0 args 4) h) : CallE Try.prog fn_impl_Transition_takes args h k := enter Try.func42 rfl IR_impl_Transition_takes hargs hw

def H_impl_UniteAutomata : Hint := ⟨[(0, false), (1, false), (2, true), (3, true), (4, true), (5, false), (6, false), (7, true), (9, false), (11, true), (27, false), (28, false), (29, false), (49, false), (50, false), (51, false)], [[0, 1, 2, 5, 8, 9, 13, 14, 15], [0, 1, 2, 3, 5, 8, 9, 10, 11, 12]]⟩
def K_impl_UniteAutomata_1 : Pl := .st (.act none (.pset none 4 0 3 (.v 17))) <|
    .st (.act none (.px (some 5) (.mv (.c (.bool true))))) .done
@[simp] def W_impl_UniteAutomata_1 := @Pl.wpe _ _ K_impl_UniteAutomata_1.eq_1
def K_impl_UniteAutomata_2 : C := .seq (.pl <| .st (.ext 16 2) <|
    .st (.act none (.pget (some 16) none 7 0 (some 3))) <|
    .st (.act none (.ex (some 17) (.call fn_impl_Automaton_copyOf [.v 16]))) K_impl_UniteAutomata_1) (.ret)
@[simp] def W_impl_UniteAutomata_2 := @C.wpe _ _ K_impl_UniteAutomata_2.eq_1
def K_impl_UniteAutomata_3 : C := .seq (.pl <| .st (.ext 16 1) <|
    .st (.act none (.px (some 16) (.build [.slice none 0 0, .slice none 0 0, .slice none 0 0] []))) <|
    .st (.act none (.pset none 4 0 3 (.v 16))) <|
    .st (.act none (.px (some 5) (.mv (.c (.bool false))))) .done) (.ret)
@[simp] def W_impl_UniteAutomata_3 := @C.wpe _ _ K_impl_UniteAutomata_3.eq_1
def K_impl_UniteAutomata_4 : C := .cond 16 (.v 18) K_impl_UniteAutomata_3 (.skip)
@[simp] def W_impl_UniteAutomata_4 := @C.wpe _ _ K_impl_UniteAutomata_4.eq_1
def K_impl_UniteAutomata_5 : Pl := .st (.act none (.px (some 18) (.un .not (.v 17)))) .done
@[simp] def W_impl_UniteAutomata_5 := @Pl.wpe _ _ K_impl_UniteAutomata_5.eq_1
def K_impl_UniteAutomata_6 : C := .seq (.seq (.pl <| .st (.ext 16 3) <|
    .st (.act none (.pget (some 16) none 7 0 (some 3))) <|
    .st (.act none (.ex (some 17) (.call fn_impl_AutomatonValid [.v 16]))) K_impl_UniteAutomata_5) K_impl_UniteAutomata_4) K_impl_UniteAutomata_2
@[simp] def W_impl_UniteAutomata_6 := @C.wpe _ _ K_impl_UniteAutomata_6.eq_1
def K_impl_UniteAutomata_7 : C := .pl <| .st (.ext 16 1) <|
    .st (.act none (.px (some 16) (.bin .add (.v 15) (.c (.int .i64 1))))) <|
    .st (.act none (.px (some 15) (.mv (.v 16)))) .done
@[simp] def W_impl_UniteAutomata_7 := @C.wpe _ _ K_impl_UniteAutomata_7.eq_1
def K_impl_UniteAutomata_8 : Pl := .st (.act none (.als 33 none 7)) <|
    .st (.act none (.pset (some 33) 7 2 1 (.v 32))) .done
@[simp] def W_impl_UniteAutomata_8 := @Pl.wpe _ _ K_impl_UniteAutomata_8.eq_1
def K_impl_UniteAutomata_9 : C := .pl <| .st (.ext 16 18) <|
    .st (.act none (.als 16 none 7)) <|
    .st (.act none (.pget (some 17) (some 16) 7 2 none)) <|
    .st (.act none (.als 18 none 9)) <|
    .st (.act none (.pget (some 19) (some 18) 9 0 none)) <|
    .st (.act none (.px (some 20) (.mv (.v 6)))) <|
    .st (.act none (.px (some 21) (.bin .add (.v 19) (.v 20)))) <|
    .st (.act none (.als 22 none 9)) <|
    .st (.act none (.pget (some 23) (some 22) 9 1 none)) <|
    .st (.act none (.als 24 none 9)) <|
    .st (.act none (.pget (some 25) (some 24) 9 2 none)) <|
    .st (.act none (.als 26 none 9)) <|
    .st (.act none (.pget (some 27) (some 26) 9 3 none)) <|
    .st (.act none (.px (some 28) (.mv (.v 6)))) <|
    .st (.act none (.px (some 29) (.bin .add (.v 27) (.v 28)))) <|
    .st (.act none (.px (some 30) (.build [.int .i64 0, .int .i64 0, .int .i64 0, .int .i64 0] [(0, 1, .v 21), (1, 1, .v 23), (2, 1, .v 25), (3, 1, .v 29)]))) <|
    .st (.act none (.psl 31 [.int .i64 0, .int .i64 0, .int .i64 0, .int .i64 0] [(0, 4, .v 30)])) <|
    .st (.act none (.ex (some 32) (.app 32 4 [.int .i64 0, .int .i64 0, .int .i64 0, .int .i64 0] (.o (.v 17)) (.p 1 31)))) K_impl_UniteAutomata_8
@[simp] def W_impl_UniteAutomata_9 := @C.wpe _ _ K_impl_UniteAutomata_9.eq_1
def K_impl_UniteAutomata_10 : C := .seq (.block 3 (.seq (.pl <| .st (.ext 16 2) <|
    .st (.act none (.px (some 16) (.ia 4 (.v 13) (.v 15)))) <|
    .st (.act none (.ld (some 17) (.v 16) (some 4))) <|
    .st (.act none (.pnew 9 (.c (.agg #[.int .i64 0, .int .i64 0, .int .i64 0, .int .i64 0])) [])) <|
    .st (.act none (.pset none 9 0 4 (.v 17))) .done) K_impl_UniteAutomata_9)) K_impl_UniteAutomata_7
@[simp] def W_impl_UniteAutomata_10 := @C.wpe _ _ K_impl_UniteAutomata_10.eq_1
def K_impl_UniteAutomata_11 : C := .seq (.cond 16 (.v 16) (.skip) (.exit 2)) K_impl_UniteAutomata_10
@[simp] def W_impl_UniteAutomata_11 := @C.wpe _ _ K_impl_UniteAutomata_11.eq_1
def K_impl_UniteAutomata_12 : C := .seq (.pl <| .st (.ext 16 1) <|
    .st (.act none (.px (some 16) (.bin .lss (.v 15) (.v 14)))) .done) K_impl_UniteAutomata_11
@[simp] def W_impl_UniteAutomata_12 := @C.wpe _ _ K_impl_UniteAutomata_12.eq_1
def K_impl_UniteAutomata_13 : C := .block 2 (.loop 16 [0, 1, 2, 3, 5, 8, 9, 10, 11, 12] K_impl_UniteAutomata_12)
@[simp] def W_impl_UniteAutomata_13 := @C.wpe _ _ K_impl_UniteAutomata_13.eq_1
def K_impl_UniteAutomata_14 : C := .seq (.seq (.pl <| .st (.ext 16 1) <|
    .st (.act none (.als 16 none 3)) <|
    .st (.act none (.pget (some 13) (some 16) 3 2 none)) <|
    .st (.act none (.px (some 14) (.lenV (.v 13)))) <|
    .st (.act none (.px (some 15) (.mv (.c (.int .i64 0))))) .done) K_impl_UniteAutomata_13) K_impl_UniteAutomata_6
@[simp] def W_impl_UniteAutomata_14 := @C.wpe _ _ K_impl_UniteAutomata_14.eq_1
def K_impl_UniteAutomata_15 : Pl := .st (.act none (.als 21 none 7)) <|
    .st (.act none (.pset (some 21) 7 1 1 (.v 20))) .done
@[simp] def W_impl_UniteAutomata_15 := @Pl.wpe _ _ K_impl_UniteAutomata_15.eq_1
def K_impl_UniteAutomata_16 : C := .seq (.pl <| .st (.ext 16 6) <|
    .st (.act none (.als 16 none 7)) <|
    .st (.act none (.pget (some 17) (some 16) 7 1 none)) <|
    .st (.act none (.als 18 none 3)) <|
    .st (.act none (.pget (some 19) (some 18) 3 1 none)) <|
    .st (.act none (.ex (some 20) (.app 1 1 [.bool false] (.o (.v 17)) (.o (.v 19))))) K_impl_UniteAutomata_15) K_impl_UniteAutomata_14
@[simp] def W_impl_UniteAutomata_16 := @C.wpe _ _ K_impl_UniteAutomata_16.eq_1
def K_impl_UniteAutomata_17 : C := .pl <| .st (.ext 16 1) <|
    .st (.act none (.px (some 16) (.bin .add (.v 12) (.c (.int .i64 1))))) <|
    .st (.act none (.px (some 12) (.mv (.v 16)))) .done
@[simp] def W_impl_UniteAutomata_17 := @C.wpe _ _ K_impl_UniteAutomata_17.eq_1
def K_impl_UniteAutomata_18 : Pl := .st (.act none (.als 23 none 7)) <|
    .st (.act none (.pset (some 23) 7 0 1 (.v 22))) .done
@[simp] def W_impl_UniteAutomata_18 := @Pl.wpe _ _ K_impl_UniteAutomata_18.eq_1
def K_impl_UniteAutomata_19 : C := .pl <| .st (.ext 16 8) <|
    .st (.act none (.als 16 none 7)) <|
    .st (.act none (.pget (some 17) (some 16) 7 0 none)) <|
    .st (.act none (.px (some 18) (.mv (.v 8)))) <|
    .st (.act none (.px (some 19) (.mv (.v 6)))) <|
    .st (.act none (.px (some 20) (.bin .add (.v 18) (.v 19)))) <|
    .st (.act none (.psl 21 [.int .i64 0] [(0, 1, .v 20)])) <|
    .st (.act none (.ex (some 22) (.app 8 1 [.int .i64 0] (.o (.v 17)) (.p 1 21)))) K_impl_UniteAutomata_18
@[simp] def W_impl_UniteAutomata_19 := @C.wpe _ _ K_impl_UniteAutomata_19.eq_1
def K_impl_UniteAutomata_20 : C := .seq (.block 1 (.seq (.pl <| .st (.ext 16 2) <|
    .st (.act none (.px (some 16) (.ia 1 (.v 10) (.v 12)))) <|
    .st (.act none (.ld (some 17) (.v 16) none)) <|
    .st (.act none (.px (some 8) (.mv (.v 17)))) .done) K_impl_UniteAutomata_19)) K_impl_UniteAutomata_17
@[simp] def W_impl_UniteAutomata_20 := @C.wpe _ _ K_impl_UniteAutomata_20.eq_1
def K_impl_UniteAutomata_21 : C := .seq (.cond 16 (.v 16) (.skip) (.exit 0)) K_impl_UniteAutomata_20
@[simp] def W_impl_UniteAutomata_21 := @C.wpe _ _ K_impl_UniteAutomata_21.eq_1
def K_impl_UniteAutomata_22 : C := .seq (.pl <| .st (.ext 16 1) <|
    .st (.act none (.px (some 16) (.bin .lss (.v 12) (.v 11)))) .done) K_impl_UniteAutomata_21
@[simp] def W_impl_UniteAutomata_22 := @C.wpe _ _ K_impl_UniteAutomata_22.eq_1
def K_impl_UniteAutomata_23 : C := .block 0 (.loop 16 [0, 1, 2, 5, 8, 9, 13, 14, 15] K_impl_UniteAutomata_22)
@[simp] def W_impl_UniteAutomata_23 := @C.wpe _ _ K_impl_UniteAutomata_23.eq_1
def K_impl_UniteAutomata_24 : C := .seq (.seq (.pl <| .st (.ext 16 1) <|
    .st (.act none (.als 16 none 3)) <|
    .st (.act none (.pget (some 10) (some 16) 3 0 none)) <|
    .st (.act none (.px (some 11) (.lenV (.v 10)))) <|
    .st (.act none (.px (some 12) (.mv (.c (.int .i64 0))))) .done) K_impl_UniteAutomata_23) K_impl_UniteAutomata_16
@[simp] def W_impl_UniteAutomata_24 := @C.wpe _ _ K_impl_UniteAutomata_24.eq_1
def K_impl_UniteAutomata_25 : Pl := .st (.act none (.pnew 7 (.c (.agg #[.slice none 0 0, .slice none 0 0, .slice none 0 0])) [])) <|
    .st (.act none (.pset none 7 0 3 (.v 17))) .done
@[simp] def W_impl_UniteAutomata_25 := @Pl.wpe _ _ K_impl_UniteAutomata_25.eq_1
def K_impl_UniteAutomata_26 : C := .seq (.pl <| .st (.ext 16 2) <|
    .st (.act none (.pget (some 16) none 2 0 (some 3))) <|
    .st (.act none (.ex (some 17) (.call fn_impl_Automaton_copyOf [.v 16]))) K_impl_UniteAutomata_25) K_impl_UniteAutomata_24
@[simp] def W_impl_UniteAutomata_26 := @C.wpe _ _ K_impl_UniteAutomata_26.eq_1
def K_impl_UniteAutomata_27 : C := .seq (.pl <| .st (.ext 16 3) <|
    .st (.act none (.als 16 none 2)) <|
    .st (.act none (.pget (some 17) (some 16) 2 1 none)) <|
    .st (.act none (.px (some 18) (.lenV (.v 17)))) <|
    .st (.act none (.px (some 6) (.mv (.v 18)))) .done) K_impl_UniteAutomata_26
@[simp] def W_impl_UniteAutomata_27 := @C.wpe _ _ K_impl_UniteAutomata_27.eq_1
def K_impl_UniteAutomata_28 : C := .seq (.pl <| .st (.ext 16 1) <|
    .st (.act none (.px (some 16) (.build [.slice none 0 0, .slice none 0 0, .slice none 0 0] []))) <|
    .st (.act none (.pset none 4 0 3 (.v 16))) <|
    .st (.act none (.px (some 5) (.mv (.c (.bool false))))) .done) (.ret)
@[simp] def W_impl_UniteAutomata_28 := @C.wpe _ _ K_impl_UniteAutomata_28.eq_1
def K_impl_UniteAutomata_29 : C := .cond 16 (.v 23) K_impl_UniteAutomata_28 (.skip)
@[simp] def W_impl_UniteAutomata_29 := @C.wpe _ _ K_impl_UniteAutomata_29.eq_1
def K_impl_UniteAutomata_30 : Pl := .st (.act (some (.v 19, false)) (.px (some 22) (.un .not (.v 21)))) <|
    .st (.act none (.px (some 23) (.pick (.v 19) (.c (.bool true)) (.v 22)))) .done
@[simp] def W_impl_UniteAutomata_30 := @Pl.wpe _ _ K_impl_UniteAutomata_30.eq_1
def K_impl_UniteAutomata_31 : Pl := .st (.act none (.px (some 18) (.un .not (.v 17)))) <|
    .st (.act none (.px (some 19) (.mv (.v 18)))) <|
    .st (.act (some (.v 19, false)) (.pget (some 20) none 3 0 (some 3))) <|
    .st (.act (some (.v 19, false)) (.ex (some 21) (.call fn_impl_AutomatonValid [.v 20]))) K_impl_UniteAutomata_30
@[simp] def W_impl_UniteAutomata_31 := @Pl.wpe _ _ K_impl_UniteAutomata_31.eq_1
def K_impl_UniteAutomata_32 : C := .seq (.seq (.pl <| .st (.ext 16 8) <|
    .st (.act none (.pget (some 16) none 2 0 (some 3))) <|
    .st (.act none (.ex (some 17) (.call fn_impl_AutomatonValid [.v 16]))) K_impl_UniteAutomata_31) K_impl_UniteAutomata_29) K_impl_UniteAutomata_27
@[simp] def W_impl_UniteAutomata_32 := @C.wpe _ _ K_impl_UniteAutomata_32.eq_1
def B_impl_UniteAutomata : C := .seq (.pl <| .st (.ext 16 0) <|
    .st (.act none (.pnew 2 (.v 0) [])) <|
    .st (.act none (.pnew 3 (.v 1) [])) <|
    .st (.act none (.pnew 4 (.c (.agg #[.slice none 0 0, .slice none 0 0, .slice none 0 0])) [])) <|
    .st (.act none (.px (some 5) (.mv (.c (.bool false))))) .done) K_impl_UniteAutomata_32
@[simp] def WB_impl_UniteAutomata := @C.wpe _ _ B_impl_UniteAutomata.eq_1
def R_impl_UniteAutomata : FIR := ⟨B_impl_UniteAutomata, 16, [(4, some (some 3)), (5, none)]⟩
theorem IR_impl_UniteAutomata : cfun Try.prog H_impl_UniteAutomata Try.f24 = some R_impl_UniteAutomata := by kernel_rfl
theorem EN_impl_UniteAutomata {args : List Value} {h : Heap} {k : Value → Heap → Prop} (hargs : args.length = 2) (hw : B_impl_UniteAutomata.wp Try.prog (retQ [(4, some (some 3)), (5, none)] k) (env0 args 16) h) : CallE Try.prog fn_impl_UniteAutomata args h k := enter Try.func24 rfl IR_impl_UniteAutomata hargs hw

def H_impl_clone_bool : Hint := ⟨[(0, false), (2, false)], []⟩
def K_impl_clone_bool_1 : Pl := .st (.act none (.px (some 1) (.mv (.v 4)))) .done
@[simp] def W_impl_clone_bool_1 := @Pl.wpe _ _ K_impl_clone_bool_1.eq_1
def K_impl_clone_bool_2 : Pl := .st (.act none (.ex (some 4) (.call fn_slices_Clip_S_bool_bool [.v 3]))) K_impl_clone_bool_1
@[simp] def W_impl_clone_bool_2 := @Pl.wpe _ _ K_impl_clone_bool_2.eq_1
def K_impl_clone_bool_3 : C := .seq (.pl <| .st (.ext 2 3) <|
    .st (.act none (.px (some 2) (.mv (.v 0)))) <|
    .st (.act none (.ex (some 3) (.call fn_slices_Clone_S_bool_bool [.v 2]))) K_impl_clone_bool_2) (.ret)
@[simp] def W_impl_clone_bool_3 := @C.wpe _ _ K_impl_clone_bool_3.eq_1
def B_impl_clone_bool : C := .seq (.pl <| .st (.ext 2 0) <|
    .st (.act none (.px (some 1) (.mv (.c (.slice none 0 0))))) .done) K_impl_clone_bool_3
@[simp] def WB_impl_clone_bool := @C.wpe _ _ B_impl_clone_bool.eq_1
def R_impl_clone_bool : FIR := ⟨B_impl_clone_bool, 2, [(1, none)]⟩
theorem IR_impl_clone_bool : cfun Try.prog H_impl_clone_bool Try.f52 = some R_impl_clone_bool := by kernel_rfl
theorem EN_impl_clone_bool {args : List Value} {h : Heap} {k : Value → Heap → Prop} (hargs : args.length = 1) (hw : B_impl_clone_bool.wp Try.prog (retQ [(1, none)] k) (env0 args 2) h) : CallE Try.prog fn_impl_clone_bool args h k := enter Try.func52 rfl IR_impl_clone_bool hargs hw

def H_impl_clone_impl_Transition : Hint := ⟨[(0, false), (2, false)], []⟩
def K_impl_clone_impl_Transition_1 : Pl := .st (.act none (.px (some 1) (.mv (.v 4)))) .done
@[simp] def W_impl_clone_impl_Transition_1 := @Pl.wpe _ _ K_impl_clone_impl_Transition_1.eq_1
def K_impl_clone_impl_Transition_2 : Pl := .st (.act none (.ex (some 4) (.call fn_slices_Clip_S_impl_Transition_impl_Transition [.v 3]))) K_impl_clone_impl_Transition_1
@[simp] def W_impl_clone_impl_Transition_2 := @Pl.wpe _ _ K_impl_clone_impl_Transition_2.eq_1
def K_impl_clone_impl_Transition_3 : C := .seq (.pl <| .st (.ext 2 3) <|
    .st (.act none (.px (some 2) (.mv (.v 0)))) <|
    .st (.act none (.ex (some 3) (.call fn_slices_Clone_S_impl_Transition_impl_Transition [.v 2]))) K_impl_clone_impl_Transition_2) (.ret)
@[simp] def W_impl_clone_impl_Transition_3 := @C.wpe _ _ K_impl_clone_impl_Transition_3.eq_1
def B_impl_clone_impl_Transition : C := .seq (.pl <| .st (.ext 2 0) <|
    .st (.act none (.px (some 1) (.mv (.c (.slice none 0 0))))) .done) K_impl_clone_impl_Transition_3
@[simp] def WB_impl_clone_impl_Transition := @C.wpe _ _ B_impl_clone_impl_Transition.eq_1
def R_impl_clone_impl_Transition : FIR := ⟨B_impl_clone_impl_Transition, 2, [(1, none)]⟩
theorem IR_impl_clone_impl_Transition : cfun Try.prog H_impl_clone_impl_Transition Try.f53 = some R_impl_clone_impl_Transition := by kernel_rfl
theorem EN_impl_clone_impl_Transition {args : List Value} {h : Heap} {k : Value → Heap → Prop} (hargs : args.length = 1) (hw : B_impl_clone_impl_Transition.wp Try.prog (retQ [(1, none)] k) (env0 args 2) h) : CallE Try.prog fn_impl_clone_impl_Transition args h k := enter Try.func53 rfl IR_impl_clone_impl_Transition hargs hw

def H_impl_clone_int : Hint := ⟨[(0, false), (2, false)], []⟩
def K_impl_clone_int_1 : Pl := .st (.act none (.px (some 1) (.mv (.v 4)))) .done
@[simp] def W_impl_clone_int_1 := @Pl.wpe _ _ K_impl_clone_int_1.eq_1
def K_impl_clone_int_2 : Pl := .st (.act none (.ex (some 4) (.call fn_slices_Clip_S_int_int [.v 3]))) K_impl_clone_int_1
@[simp] def W_impl_clone_int_2 := @Pl.wpe _ _ K_impl_clone_int_2.eq_1
def K_impl_clone_int_3 : C := .seq (.pl <| .st (.ext 2 3) <|
    .st (.act none (.px (some 2) (.mv (.v 0)))) <|
    .st (.act none (.ex (some 3) (.call fn_slices_Clone_S_int_int [.v 2]))) K_impl_clone_int_2) (.ret)
@[simp] def W_impl_clone_int_3 := @C.wpe _ _ K_impl_clone_int_3.eq_1
def B_impl_clone_int : C := .seq (.pl <| .st (.ext 2 0) <|
    .st (.act none (.px (some 1) (.mv (.c (.slice none 0 0))))) .done) K_impl_clone_int_3
@[simp] def WB_impl_clone_int := @C.wpe _ _ B_impl_clone_int.eq_1
def R_impl_clone_int : FIR := ⟨B_impl_clone_int, 2, [(1, none)]⟩
theorem IR_impl_clone_int : cfun Try.prog H_impl_clone_int Try.f51 = some R_impl_clone_int := by kernel_rfl
theorem EN_impl_clone_int {args : List Value} {h : Heap} {k : Value → Heap → Prop} (hargs : args.length = 1) (hw : B_impl_clone_int.wp Try.prog (retQ [(1, none)] k) (env0 args 2) h) : CallE Try.prog fn_impl_clone_int args h k := enter Try.func51 rfl IR_impl_clone_int hargs hw

def H_impl_in : Hint := ⟨[(0, false), (1, false), (2, false), (6, false)], []⟩
def K_impl_in_1 : C := .seq (.pl <| .st (.ext 4 8) <|
    .st (.act none (.px (some 4) (.mv (.v 0)))) <|
    .st (.act none (.px (some 5) (.mv (.v 1)))) <|
    .st (.act none (.px (some 6) (.bin .geq (.v 4) (.v 5)))) <|
    .st (.act none (.px (some 7) (.mv (.v 6)))) <|
    .st (.act (some (.v 7, true)) (.px (some 8) (.mv (.v 0)))) <|
    .st (.act (some (.v 7, true)) (.px (some 9) (.mv (.v 2)))) <|
    .st (.act (some (.v 7, true)) (.px (some 10) (.bin .leq (.v 8) (.v 9)))) <|
    .st (.act none (.px (some 11) (.pick (.v 7) (.v 10) (.c (.bool false))))) <|
    .st (.act none (.px (some 3) (.mv (.v 11)))) .done) (.ret)
@[simp] def W_impl_in_1 := @C.wpe _ _ K_impl_in_1.eq_1
def B_impl_in : C := .seq (.pl <| .st (.ext 4 0) <|
    .st (.act none (.px (some 3) (.mv (.c (.bool false))))) .done) K_impl_in_1
@[simp] def WB_impl_in := @C.wpe _ _ B_impl_in.eq_1
def R_impl_in : FIR := ⟨B_impl_in, 4, [(3, none)]⟩
theorem IR_impl_in : cfun Try.prog H_impl_in Try.f47 = some R_impl_in := by kernel_rfl
theorem EN_impl_in {args : List Value} {h : Heap} {k : Value → Heap → Prop} (hargs : args.length = 3) (hw : B_impl_in.wp Try.prog (retQ [(3, none)] k) (env0 args 4) h) : CallE Try.prog fn_impl_in args h k := enter Try.func47 rfl IR_impl_in hargs hw

def H_laws_FnExactIncludesAutomaton : Hint := ⟨[(0, false), (1, false), (2, true), (3, true), (4, false), (5, false), (6, false), (7, true), (8, true), (9, false)], []⟩
def K_laws_FnExactIncludesAutomaton_1 : C := .seq (.pl <| .st (.ext 10 0) <|
    .st (.act none (.px (some 4) (.mv (.c (.bool true))))) .done) (.ret)
@[simp] def W_laws_FnExactIncludesAutomaton_1 := @C.wpe _ _ K_laws_FnExactIncludesAutomaton_1.eq_1
def K_laws_FnExactIncludesAutomaton_2 : C := .seq (.pl <| .st (.ext 10 0) <|
    .st (.act none (.px (some 4) (.mv (.c (.bool false))))) .done) (.ret)
@[simp] def W_laws_FnExactIncludesAutomaton_2 := @C.wpe _ _ K_laws_FnExactIncludesAutomaton_2.eq_1
def K_laws_FnExactIncludesAutomaton_3 : C := .cond 10 (.v 14) K_laws_FnExactIncludesAutomaton_2 (.skip)
@[simp] def W_laws_FnExactIncludesAutomaton_3 := @C.wpe _ _ K_laws_FnExactIncludesAutomaton_3.eq_1
def K_laws_FnExactIncludesAutomaton_4 : Pl := .st (.act none (.px (some 14) (.un .not (.v 13)))) .done
@[simp] def W_laws_FnExactIncludesAutomaton_4 := @Pl.wpe _ _ K_laws_FnExactIncludesAutomaton_4.eq_1
def K_laws_FnExactIncludesAutomaton_5 : Pl := .st (.act none (.ex (some 13) (.call fn_laws_eqAutomaton [.v 10, .v 12]))) K_laws_FnExactIncludesAutomaton_4
@[simp] def W_laws_FnExactIncludesAutomaton_5 := @Pl.wpe _ _ K_laws_FnExactIncludesAutomaton_5.eq_1
def K_laws_FnExactIncludesAutomaton_6 : C := .seq (.seq (.pl <| .st (.ext 10 5) <|
    .st (.act none (.pget (some 10) none 8 0 (some 3))) <|
    .st (.act none (.pget (some 11) none 3 0 (some 3))) <|
    .st (.act none (.ex (some 12) (.call fn_laws_toAutomaton [.v 11]))) K_laws_FnExactIncludesAutomaton_5) K_laws_FnExactIncludesAutomaton_3) K_laws_FnExactIncludesAutomaton_1
@[simp] def W_laws_FnExactIncludesAutomaton_6 := @C.wpe _ _ K_laws_FnExactIncludesAutomaton_6.eq_1
def K_laws_FnExactIncludesAutomaton_7 : C := .seq (.pl <| .st (.ext 10 0) <|
    .st (.act none (.px (some 4) (.mv (.c (.bool false))))) .done) (.ret)
@[simp] def W_laws_FnExactIncludesAutomaton_7 := @C.wpe _ _ K_laws_FnExactIncludesAutomaton_7.eq_1
def K_laws_FnExactIncludesAutomaton_8 : C := .cond 10 (.v 14) K_laws_FnExactIncludesAutomaton_7 (.skip)
@[simp] def W_laws_FnExactIncludesAutomaton_8 := @C.wpe _ _ K_laws_FnExactIncludesAutomaton_8.eq_1
def K_laws_FnExactIncludesAutomaton_9 : Pl := .st (.act none (.px (some 14) (.un .not (.v 13)))) .done
@[simp] def W_laws_FnExactIncludesAutomaton_9 := @Pl.wpe _ _ K_laws_FnExactIncludesAutomaton_9.eq_1
def K_laws_FnExactIncludesAutomaton_10 : Pl := .st (.act none (.ex (some 13) (.call fn_laws_eqAutomaton [.v 10, .v 12]))) K_laws_FnExactIncludesAutomaton_9
@[simp] def W_laws_FnExactIncludesAutomaton_10 := @Pl.wpe _ _ K_laws_FnExactIncludesAutomaton_10.eq_1
def K_laws_FnExactIncludesAutomaton_11 : C := .seq (.seq (.pl <| .st (.ext 10 5) <|
    .st (.act none (.pget (some 10) none 7 0 (some 3))) <|
    .st (.act none (.pget (some 11) none 2 0 (some 3))) <|
    .st (.act none (.ex (some 12) (.call fn_laws_toAutomaton [.v 11]))) K_laws_FnExactIncludesAutomaton_10) K_laws_FnExactIncludesAutomaton_8) K_laws_FnExactIncludesAutomaton_6
@[simp] def W_laws_FnExactIncludesAutomaton_11 := @C.wpe _ _ K_laws_FnExactIncludesAutomaton_11.eq_1
def K_laws_FnExactIncludesAutomaton_12 : C := .seq (.pl <| .st (.ext 10 0) <|
    .st (.act none (.px (some 4) (.mv (.c (.bool false))))) .done) (.ret)
@[simp] def W_laws_FnExactIncludesAutomaton_12 := @C.wpe _ _ K_laws_FnExactIncludesAutomaton_12.eq_1
def K_laws_FnExactIncludesAutomaton_13 : C := .cond 10 (.v 12) K_laws_FnExactIncludesAutomaton_12 (.skip)
@[simp] def W_laws_FnExactIncludesAutomaton_13 := @C.wpe _ _ K_laws_FnExactIncludesAutomaton_13.eq_1
def K_laws_FnExactIncludesAutomaton_14 : C := .seq (.seq (.pl <| .st (.ext 10 3) <|
    .st (.act none (.px (some 10) (.mv (.v 9)))) <|
    .st (.act none (.px (some 11) (.mv (.v 6)))) <|
    .st (.act none (.px (some 12) (.eqb true (.v 10) (.v 11)))) .done) K_laws_FnExactIncludesAutomaton_13) K_laws_FnExactIncludesAutomaton_11
@[simp] def W_laws_FnExactIncludesAutomaton_14 := @C.wpe _ _ K_laws_FnExactIncludesAutomaton_14.eq_1
def K_laws_FnExactIncludesAutomaton_15 : Pl := .st (.act none (.px (some 9) (.mv (.v 12)))) .done
@[simp] def W_laws_FnExactIncludesAutomaton_15 := @Pl.wpe _ _ K_laws_FnExactIncludesAutomaton_15.eq_1
def K_laws_FnExactIncludesAutomaton_16 : C := .seq (.pl <| .st (.ext 10 3) <|
    .st (.act none (.pget (some 10) none 7 0 (some 3))) <|
    .st (.act none (.pget (some 11) none 8 0 (some 3))) <|
    .st (.act none (.ex (some 12) (.call fn_impl_IncludesAutomaton [.v 10, .v 11]))) K_laws_FnExactIncludesAutomaton_15) K_laws_FnExactIncludesAutomaton_14
@[simp] def W_laws_FnExactIncludesAutomaton_16 := @C.wpe _ _ K_laws_FnExactIncludesAutomaton_16.eq_1
def K_laws_FnExactIncludesAutomaton_17 : Pl := .st (.act none (.pnew 8 (.c (.agg #[.slice none 0 0, .slice none 0 0, .slice none 0 0])) [])) <|
    .st (.act none (.pset none 8 0 3 (.v 11))) .done
@[simp] def W_laws_FnExactIncludesAutomaton_17 := @Pl.wpe _ _ K_laws_FnExactIncludesAutomaton_17.eq_1
def K_laws_FnExactIncludesAutomaton_18 : C := .seq (.pl <| .st (.ext 10 2) <|
    .st (.act none (.pget (some 10) none 3 0 (some 3))) <|
    .st (.act none (.ex (some 11) (.call fn_laws_toAutomaton [.v 10]))) K_laws_FnExactIncludesAutomaton_17) K_laws_FnExactIncludesAutomaton_16
@[simp] def W_laws_FnExactIncludesAutomaton_18 := @C.wpe _ _ K_laws_FnExactIncludesAutomaton_18.eq_1
def K_laws_FnExactIncludesAutomaton_19 : Pl := .st (.act none (.pnew 7 (.c (.agg #[.slice none 0 0, .slice none 0 0, .slice none 0 0])) [])) <|
    .st (.act none (.pset none 7 0 3 (.v 11))) .done
@[simp] def W_laws_FnExactIncludesAutomaton_19 := @Pl.wpe _ _ K_laws_FnExactIncludesAutomaton_19.eq_1
def K_laws_FnExactIncludesAutomaton_20 : C := .seq (.pl <| .st (.ext 10 2) <|
    .st (.act none (.pget (some 10) none 2 0 (some 3))) <|
    .st (.act none (.ex (some 11) (.call fn_laws_toAutomaton [.v 10]))) K_laws_FnExactIncludesAutomaton_19) K_laws_FnExactIncludesAutomaton_18
@[simp] def W_laws_FnExactIncludesAutomaton_20 := @C.wpe _ _ K_laws_FnExactIncludesAutomaton_20.eq_1
def K_laws_FnExactIncludesAutomaton_21 : Pl := .st (.act none (.px (some 6) (.mv (.v 14)))) .done
@[simp] def W_laws_FnExactIncludesAutomaton_21 := @Pl.wpe _ _ K_laws_FnExactIncludesAutomaton_21.eq_1
def K_laws_FnExactIncludesAutomaton_22 : Pl := .st (.act none (.ex (some 14) (.call fn_spec_IncludesAutomaton [.v 11, .v 13]))) K_laws_FnExactIncludesAutomaton_21
@[simp] def W_laws_FnExactIncludesAutomaton_22 := @Pl.wpe _ _ K_laws_FnExactIncludesAutomaton_22.eq_1
def K_laws_FnExactIncludesAutomaton_23 : Pl := .st (.act none (.ex (some 13) (.call fn_laws_toAutomaton [.v 12]))) K_laws_FnExactIncludesAutomaton_22
@[simp] def W_laws_FnExactIncludesAutomaton_23 := @Pl.wpe _ _ K_laws_FnExactIncludesAutomaton_23.eq_1
def K_laws_FnExactIncludesAutomaton_24 : C := .seq (.pl <| .st (.ext 10 5) <|
    .st (.act none (.pget (some 10) none 2 0 (some 3))) <|
    .st (.act none (.pget (some 12) none 3 0 (some 3))) <|
    .st (.act none (.ex (some 11) (.call fn_laws_toAutomaton [.v 10]))) K_laws_FnExactIncludesAutomaton_23) K_laws_FnExactIncludesAutomaton_20
@[simp] def W_laws_FnExactIncludesAutomaton_24 := @C.wpe _ _ K_laws_FnExactIncludesAutomaton_24.eq_1
def K_laws_FnExactIncludesAutomaton_25 : C := .seq (.pl <| .st (.ext 10 0) <|
    .st (.act none (.px (some 4) (.mv (.c (.bool true))))) .done) (.ret)
@[simp] def W_laws_FnExactIncludesAutomaton_25 := @C.wpe _ _ K_laws_FnExactIncludesAutomaton_25.eq_1
def K_laws_FnExactIncludesAutomaton_26 : C := .cond 10 (.v 11) K_laws_FnExactIncludesAutomaton_25 (.skip)
@[simp] def W_laws_FnExactIncludesAutomaton_26 := @C.wpe _ _ K_laws_FnExactIncludesAutomaton_26.eq_1
def K_laws_FnExactIncludesAutomaton_27 : C := .seq (.seq (.pl <| .st (.ext 10 2) <|
    .st (.act none (.px (some 10) (.mv (.v 5)))) <|
    .st (.act none (.px (some 11) (.bin .lss (.v 10) (.c (.int .i64 0))))) .done) K_laws_FnExactIncludesAutomaton_26) K_laws_FnExactIncludesAutomaton_24
@[simp] def W_laws_FnExactIncludesAutomaton_27 := @C.wpe _ _ K_laws_FnExactIncludesAutomaton_27.eq_1
def K_laws_FnExactIncludesAutomaton_28 : Pl := .st (.act none (.px (some 5) (.mv (.v 12)))) .done
@[simp] def W_laws_FnExactIncludesAutomaton_28 := @Pl.wpe _ _ K_laws_FnExactIncludesAutomaton_28.eq_1
def K_laws_FnExactIncludesAutomaton_29 : C := .seq (.pl <| .st (.ext 10 3) <|
    .st (.act none (.pget (some 10) none 3 0 (some 3))) <|
    .st (.act none (.px (some 11) (.mv (.v 5)))) <|
    .st (.act none (.ex (some 12) (.call fn_laws_szAutomaton [.v 10, .v 11]))) K_laws_FnExactIncludesAutomaton_28) K_laws_FnExactIncludesAutomaton_27
@[simp] def W_laws_FnExactIncludesAutomaton_29 := @C.wpe _ _ K_laws_FnExactIncludesAutomaton_29.eq_1
def K_laws_FnExactIncludesAutomaton_30 : C := .seq (.pl <| .st (.ext 10 0) <|
    .st (.act none (.px (some 4) (.mv (.c (.bool true))))) .done) (.ret)
@[simp] def W_laws_FnExactIncludesAutomaton_30 := @C.wpe _ _ K_laws_FnExactIncludesAutomaton_30.eq_1
def K_laws_FnExactIncludesAutomaton_31 : C := .cond 10 (.v 11) K_laws_FnExactIncludesAutomaton_30 (.skip)
@[simp] def W_laws_FnExactIncludesAutomaton_31 := @C.wpe _ _ K_laws_FnExactIncludesAutomaton_31.eq_1
def K_laws_FnExactIncludesAutomaton_32 : C := .seq (.seq (.pl <| .st (.ext 10 2) <|
    .st (.act none (.px (some 10) (.mv (.v 5)))) <|
    .st (.act none (.px (some 11) (.bin .lss (.v 10) (.c (.int .i64 0))))) .done) K_laws_FnExactIncludesAutomaton_31) K_laws_FnExactIncludesAutomaton_29
@[simp] def W_laws_FnExactIncludesAutomaton_32 := @C.wpe _ _ K_laws_FnExactIncludesAutomaton_32.eq_1
def K_laws_FnExactIncludesAutomaton_33 : Pl := .st (.act none (.px (some 5) (.mv (.v 12)))) .done
@[simp] def W_laws_FnExactIncludesAutomaton_33 := @Pl.wpe _ _ K_laws_FnExactIncludesAutomaton_33.eq_1
def K_laws_FnExactIncludesAutomaton_34 : C := .seq (.pl <| .st (.ext 10 3) <|
    .st (.act none (.pget (some 10) none 2 0 (some 3))) <|
    .st (.act none (.px (some 11) (.mv (.v 5)))) <|
    .st (.act none (.ex (some 12) (.call fn_laws_szAutomaton [.v 10, .v 11]))) K_laws_FnExactIncludesAutomaton_33) K_laws_FnExactIncludesAutomaton_32
@[simp] def W_laws_FnExactIncludesAutomaton_34 := @C.wpe _ _ K_laws_FnExactIncludesAutomaton_34.eq_1
def K_laws_FnExactIncludesAutomaton_35 : C := .seq (.pl <| .st (.ext 10 0) <|
    .st (.act none (.px (some 5) (.mv (.c (.int .i64 1048576))))) .done) K_laws_FnExactIncludesAutomaton_34
@[simp] def W_laws_FnExactIncludesAutomaton_35 := @C.wpe _ _ K_laws_FnExactIncludesAutomaton_35.eq_1
def B_laws_FnExactIncludesAutomaton : C := .seq (.pl <| .st (.ext 10 0) <|
    .st (.act none (.pnew 2 (.v 0) [])) <|
    .st (.act none (.pnew 3 (.v 1) [])) <|
    .st (.act none (.px (some 4) (.mv (.c (.bool false))))) .done) K_laws_FnExactIncludesAutomaton_35
@[simp] def WB_laws_FnExactIncludesAutomaton := @C.wpe _ _ B_laws_FnExactIncludesAutomaton.eq_1
def R_laws_FnExactIncludesAutomaton : FIR := ⟨B_laws_FnExactIncludesAutomaton, 10, [(4, none)]⟩
theorem IR_laws_FnExactIncludesAutomaton : cfun Try.prog H_laws_FnExactIncludesAutomaton Try.f3 = some R_laws_FnExactIncludesAutomaton := by kernel_rfl
theorem EN_laws_FnExactIncludesAutomaton {args : List Value} {h : Heap} {k : Value → Heap → Prop} (hargs : args.length = 2) (hw : B_laws_FnExactIncludesAutomaton.wp Try.prog (retQ [(4, none)] k) (env0 args 10) h) : CallE Try.prog fn_laws_FnExactIncludesAutomaton args h k := enter Try.func3 rfl IR_laws_FnExactIncludesAutomaton hargs hw

def H_laws_FnExactSimulationRelation : Hint := ⟨[(0, false), (1, true), (2, false), (3, false), (4, false), (5, false), (6, true), (7, false), (8, false), (9, false), (10, false), (11, false), (12, false), (13, false)], []⟩
def K_laws_FnExactSimulationRelation_1 : C := .seq (.pl <| .st (.ext 14 0) <|
    .st (.act none (.px (some 2) (.mv (.c (.bool true))))) .done) (.ret)
@[simp] def W_laws_FnExactSimulationRelation_1 := @C.wpe _ _ K_laws_FnExactSimulationRelation_1.eq_1
def K_laws_FnExactSimulationRelation_2 : C := .seq (.pl <| .st (.ext 14 0) <|
    .st (.act none (.px (some 2) (.mv (.c (.bool false))))) .done) (.ret)
@[simp] def W_laws_FnExactSimulationRelation_2 := @C.wpe _ _ K_laws_FnExactSimulationRelation_2.eq_1
def K_laws_FnExactSimulationRelation_3 : C := .cond 14 (.v 16) K_laws_FnExactSimulationRelation_2 (.skip)
@[simp] def W_laws_FnExactSimulationRelation_3 := @C.wpe _ _ K_laws_FnExactSimulationRelation_3.eq_1
def K_laws_FnExactSimulationRelation_4 : C := .seq (.seq (.pl <| .st (.ext 14 3) <|
    .st (.act none (.px (some 14) (.mv (.v 11)))) <|
    .st (.act none (.px (some 15) (.mv (.v 10)))) <|
    .st (.act none (.px (some 16) (.bin .neq (.v 14) (.v 15)))) .done) K_laws_FnExactSimulationRelation_3) K_laws_FnExactSimulationRelation_1
@[simp] def W_laws_FnExactSimulationRelation_4 := @C.wpe _ _ K_laws_FnExactSimulationRelation_4.eq_1
def K_laws_FnExactSimulationRelation_5 : C := .seq (.pl <| .st (.ext 14 0) <|
    .st (.act none (.px (some 2) (.mv (.c (.bool false))))) .done) (.ret)
@[simp] def W_laws_FnExactSimulationRelation_5 := @C.wpe _ _ K_laws_FnExactSimulationRelation_5.eq_1
def K_laws_FnExactSimulationRelation_6 : C := .cond 14 (.v 15) K_laws_FnExactSimulationRelation_5 (.skip)
@[simp] def W_laws_FnExactSimulationRelation_6 := @C.wpe _ _ K_laws_FnExactSimulationRelation_6.eq_1
def K_laws_FnExactSimulationRelation_7 : C := .seq (.seq (.pl <| .st (.ext 14 2) <|
    .st (.act none (.px (some 14) (.mv (.v 11)))) <|
    .st (.act none (.px (some 15) (.bin .lss (.v 14) (.c (.int .i64 0))))) .done) K_laws_FnExactSimulationRelation_6) K_laws_FnExactSimulationRelation_4
@[simp] def W_laws_FnExactSimulationRelation_7 := @C.wpe _ _ K_laws_FnExactSimulationRelation_7.eq_1
def K_laws_FnExactSimulationRelation_8 : Pl := .st (.act none (.px (some 11) (.mv (.v 16)))) .done
@[simp] def W_laws_FnExactSimulationRelation_8 := @Pl.wpe _ _ K_laws_FnExactSimulationRelation_8.eq_1
def K_laws_FnExactSimulationRelation_9 : C := .seq (.pl <| .st (.ext 14 3) <|
    .st (.act none (.px (some 14) (.mv (.v 7)))) <|
    .st (.act none (.px (some 15) (.mv (.v 11)))) <|
    .st (.act none (.ex (some 16) (.call fn_laws_heldBoolSS [.v 14, .v 15]))) K_laws_FnExactSimulationRelation_8) K_laws_FnExactSimulationRelation_7
@[simp] def W_laws_FnExactSimulationRelation_9 := @C.wpe _ _ K_laws_FnExactSimulationRelation_9.eq_1
def K_laws_FnExactSimulationRelation_10 : C := .seq (.pl <| .st (.ext 14 0) <|
    .st (.act none (.px (some 11) (.mv (.c (.int .i64 1))))) .done) K_laws_FnExactSimulationRelation_9
@[simp] def W_laws_FnExactSimulationRelation_10 := @C.wpe _ _ K_laws_FnExactSimulationRelation_10.eq_1
def K_laws_FnExactSimulationRelation_11 : C := .seq (.pl <| .st (.ext 14 0) <|
    .st (.act none (.px (some 2) (.mv (.c (.bool false))))) .done) (.ret)
@[simp] def W_laws_FnExactSimulationRelation_11 := @C.wpe _ _ K_laws_FnExactSimulationRelation_11.eq_1
def K_laws_FnExactSimulationRelation_12 : C := .cond 14 (.v 22) K_laws_FnExactSimulationRelation_11 (.skip)
@[simp] def W_laws_FnExactSimulationRelation_12 := @C.wpe _ _ K_laws_FnExactSimulationRelation_12.eq_1
def K_laws_FnExactSimulationRelation_13 : Pl := .st (.act none (.px (some 17) (.un .not (.v 16)))) <|
    .st (.act none (.px (some 18) (.mv (.v 17)))) <|
    .st (.act (some (.v 18, false)) (.px (some 19) (.mv (.v 13)))) <|
    .st (.act (some (.v 18, false)) (.px (some 20) (.mv (.v 5)))) <|
    .st (.act (some (.v 18, false)) (.px (some 21) (.eqb true (.v 19) (.v 20)))) <|
    .st (.act none (.px (some 22) (.pick (.v 18) (.c (.bool true)) (.v 21)))) .done
@[simp] def W_laws_FnExactSimulationRelation_13 := @Pl.wpe _ _ K_laws_FnExactSimulationRelation_13.eq_1
def K_laws_FnExactSimulationRelation_14 : C := .seq (.seq (.pl <| .st (.ext 14 9) <|
    .st (.act none (.px (some 14) (.mv (.v 12)))) <|
    .st (.act none (.px (some 15) (.mv (.v 4)))) <|
    .st (.act none (.ex (some 16) (.call fn_laws_eqBoolSS [.v 14, .v 15]))) K_laws_FnExactSimulationRelation_13) K_laws_FnExactSimulationRelation_12) K_laws_FnExactSimulationRelation_10
@[simp] def W_laws_FnExactSimulationRelation_14 := @C.wpe _ _ K_laws_FnExactSimulationRelation_14.eq_1
def K_laws_FnExactSimulationRelation_15 : Pl := .st (.act none (.px (some 17) (.mv (.v 16)))) <|
    .st (.act none (.px (some 18) (.extract 0 (.v 17)))) <|
    .st (.act none (.px (some 19) (.extract 1 (.v 17)))) <|
    .st (.act none (.px (some 12) (.mv (.v 18)))) <|
    .st (.act none (.px (some 13) (.mv (.v 19)))) .done
@[simp] def W_laws_FnExactSimulationRelation_15 := @Pl.wpe _ _ K_laws_FnExactSimulationRelation_15.eq_1
def K_laws_FnExactSimulationRelation_16 : Pl := .st (.act none (.ex (some 16) (.call fn_impl_SimulationRelation [.v 15]))) K_laws_FnExactSimulationRelation_15
@[simp] def W_laws_FnExactSimulationRelation_16 := @Pl.wpe _ _ K_laws_FnExactSimulationRelation_16.eq_1
def K_laws_FnExactSimulationRelation_17 : C := .seq (.pl <| .st (.ext 14 6) <|
    .st (.act none (.pget (some 14) none 1 0 (some 3))) <|
    .st (.act none (.ex (some 15) (.call fn_laws_toAutomaton [.v 14]))) K_laws_FnExactSimulationRelation_16) K_laws_FnExactSimulationRelation_14
@[simp] def W_laws_FnExactSimulationRelation_17 := @C.wpe _ _ K_laws_FnExactSimulationRelation_17.eq_1
def K_laws_FnExactSimulationRelation_18 : C := .seq (.pl <| .st (.ext 14 0) <|
    .st (.act none (.px (some 2) (.mv (.c (.bool false))))) .done) (.ret)
@[simp] def W_laws_FnExactSimulationRelation_18 := @C.wpe _ _ K_laws_FnExactSimulationRelation_18.eq_1
def K_laws_FnExactSimulationRelation_19 : C := .cond 14 (.v 16) K_laws_FnExactSimulationRelation_18 (.skip)
@[simp] def W_laws_FnExactSimulationRelation_19 := @C.wpe _ _ K_laws_FnExactSimulationRelation_19.eq_1
def K_laws_FnExactSimulationRelation_20 : C := .seq (.seq (.pl <| .st (.ext 14 3) <|
    .st (.act none (.px (some 14) (.mv (.v 11)))) <|
    .st (.act none (.px (some 15) (.mv (.v 10)))) <|
    .st (.act none (.px (some 16) (.bin .neq (.v 14) (.v 15)))) .done) K_laws_FnExactSimulationRelation_19) K_laws_FnExactSimulationRelation_17
@[simp] def W_laws_FnExactSimulationRelation_20 := @C.wpe _ _ K_laws_FnExactSimulationRelation_20.eq_1
def K_laws_FnExactSimulationRelation_21 : C := .seq (.pl <| .st (.ext 14 0) <|
    .st (.act none (.px (some 2) (.mv (.c (.bool false))))) .done) (.ret)
@[simp] def W_laws_FnExactSimulationRelation_21 := @C.wpe _ _ K_laws_FnExactSimulationRelation_21.eq_1
def K_laws_FnExactSimulationRelation_22 : C := .cond 14 (.v 15) K_laws_FnExactSimulationRelation_21 (.skip)
@[simp] def W_laws_FnExactSimulationRelation_22 := @C.wpe _ _ K_laws_FnExactSimulationRelation_22.eq_1
def K_laws_FnExactSimulationRelation_23 : C := .seq (.seq (.pl <| .st (.ext 14 2) <|
    .st (.act none (.px (some 14) (.mv (.v 11)))) <|
    .st (.act none (.px (some 15) (.bin .lss (.v 14) (.c (.int .i64 0))))) .done) K_laws_FnExactSimulationRelation_22) K_laws_FnExactSimulationRelation_20
@[simp] def W_laws_FnExactSimulationRelation_23 := @C.wpe _ _ K_laws_FnExactSimulationRelation_23.eq_1
def K_laws_FnExactSimulationRelation_24 : Pl := .st (.act none (.px (some 11) (.mv (.v 16)))) .done
@[simp] def W_laws_FnExactSimulationRelation_24 := @Pl.wpe _ _ K_laws_FnExactSimulationRelation_24.eq_1
def K_laws_FnExactSimulationRelation_25 : C := .seq (.pl <| .st (.ext 14 3) <|
    .st (.act none (.px (some 14) (.mv (.v 7)))) <|
    .st (.act none (.px (some 15) (.mv (.v 11)))) <|
    .st (.act none (.ex (some 16) (.call fn_laws_heldBoolSS [.v 14, .v 15]))) K_laws_FnExactSimulationRelation_24) K_laws_FnExactSimulationRelation_23
@[simp] def W_laws_FnExactSimulationRelation_25 := @C.wpe _ _ K_laws_FnExactSimulationRelation_25.eq_1
def K_laws_FnExactSimulationRelation_26 : C := .seq (.pl <| .st (.ext 14 0) <|
    .st (.act none (.px (some 11) (.mv (.c (.int .i64 1))))) .done) K_laws_FnExactSimulationRelation_25
@[simp] def W_laws_FnExactSimulationRelation_26 := @C.wpe _ _ K_laws_FnExactSimulationRelation_26.eq_1
def K_laws_FnExactSimulationRelation_27 : Pl := .st (.act none (.px (some 10) (.mv (.v 16)))) .done
@[simp] def W_laws_FnExactSimulationRelation_27 := @Pl.wpe _ _ K_laws_FnExactSimulationRelation_27.eq_1
def K_laws_FnExactSimulationRelation_28 : C := .seq (.pl <| .st (.ext 14 3) <|
    .st (.act none (.px (some 14) (.mv (.v 7)))) <|
    .st (.act none (.px (some 15) (.mv (.v 10)))) <|
    .st (.act none (.ex (some 16) (.call fn_laws_markBoolSS [.v 14, .v 15]))) K_laws_FnExactSimulationRelation_27) K_laws_FnExactSimulationRelation_26
@[simp] def W_laws_FnExactSimulationRelation_28 := @C.wpe _ _ K_laws_FnExactSimulationRelation_28.eq_1
def K_laws_FnExactSimulationRelation_29 : C := .seq (.pl <| .st (.ext 14 0) <|
    .st (.act none (.px (some 10) (.mv (.c (.int .i64 1))))) .done) K_laws_FnExactSimulationRelation_28
@[simp] def W_laws_FnExactSimulationRelation_29 := @C.wpe _ _ K_laws_FnExactSimulationRelation_29.eq_1
def K_laws_FnExactSimulationRelation_30 : C := .seq (.pl <| .st (.ext 14 0) <|
    .st (.act none (.px (some 2) (.mv (.c (.bool false))))) .done) (.ret)
@[simp] def W_laws_FnExactSimulationRelation_30 := @C.wpe _ _ K_laws_FnExactSimulationRelation_30.eq_1
def K_laws_FnExactSimulationRelation_31 : C := .cond 14 (.v 26) K_laws_FnExactSimulationRelation_30 (.skip)
@[simp] def W_laws_FnExactSimulationRelation_31 := @C.wpe _ _ K_laws_FnExactSimulationRelation_31.eq_1
def K_laws_FnExactSimulationRelation_32 : Pl := .st (.act (some (.v 16, false)) (.px (some 20) (.un .not (.v 19)))) <|
    .st (.act none (.px (some 21) (.pick (.v 16) (.c (.bool true)) (.v 20)))) <|
    .st (.act none (.px (some 22) (.mv (.v 21)))) <|
    .st (.act (some (.v 22, false)) (.px (some 23) (.mv (.v 8)))) <|
    .st (.act (some (.v 22, false)) (.px (some 24) (.mv (.v 5)))) <|
    .st (.act (some (.v 22, false)) (.px (some 25) (.eqb true (.v 23) (.v 24)))) <|
    .st (.act none (.px (some 26) (.pick (.v 22) (.c (.bool true)) (.v 25)))) .done
@[simp] def W_laws_FnExactSimulationRelation_32 := @Pl.wpe _ _ K_laws_FnExactSimulationRelation_32.eq_1
def K_laws_FnExactSimulationRelation_33 : C := .seq (.seq (.pl <| .st (.ext 14 13) <|
    .st (.act none (.px (some 14) (.mv (.v 9)))) <|
    .st (.act none (.px (some 15) (.bin .lss (.v 14) (.c (.int .i64 0))))) <|
    .st (.act none (.px (some 16) (.mv (.v 15)))) <|
    .st (.act (some (.v 16, false)) (.px (some 17) (.mv (.v 7)))) <|
    .st (.act (some (.v 16, false)) (.px (some 18) (.mv (.v 4)))) <|
    .st (.act (some (.v 16, false)) (.ex (some 19) (.call fn_laws_eqBoolSS [.v 17, .v 18]))) K_laws_FnExactSimulationRelation_32) K_laws_FnExactSimulationRelation_31) K_laws_FnExactSimulationRelation_29
@[simp] def W_laws_FnExactSimulationRelation_33 := @C.wpe _ _ K_laws_FnExactSimulationRelation_33.eq_1
def K_laws_FnExactSimulationRelation_34 : Pl := .st (.act none (.px (some 9) (.mv (.v 16)))) .done
@[simp] def W_laws_FnExactSimulationRelation_34 := @Pl.wpe _ _ K_laws_FnExactSimulationRelation_34.eq_1
def K_laws_FnExactSimulationRelation_35 : C := .seq (.pl <| .st (.ext 14 3) <|
    .st (.act none (.pget (some 14) none 6 0 (some 3))) <|
    .st (.act none (.px (some 15) (.mv (.v 9)))) <|
    .st (.act none (.ex (some 16) (.call fn_laws_markAutomaton [.v 14, .v 15]))) K_laws_FnExactSimulationRelation_34) K_laws_FnExactSimulationRelation_33
@[simp] def W_laws_FnExactSimulationRelation_35 := @C.wpe _ _ K_laws_FnExactSimulationRelation_35.eq_1
def K_laws_FnExactSimulationRelation_36 : C := .seq (.pl <| .st (.ext 14 0) <|
    .st (.act none (.px (some 9) (.mv (.c (.int .i64 1))))) .done) K_laws_FnExactSimulationRelation_35
@[simp] def W_laws_FnExactSimulationRelation_36 := @C.wpe _ _ K_laws_FnExactSimulationRelation_36.eq_1
def K_laws_FnExactSimulationRelation_37 : C := .seq (.pl <| .st (.ext 14 0) <|
    .st (.act none (.px (some 2) (.mv (.c (.bool false))))) .done) (.ret)
@[simp] def W_laws_FnExactSimulationRelation_37 := @C.wpe _ _ K_laws_FnExactSimulationRelation_37.eq_1
def K_laws_FnExactSimulationRelation_38 : C := .cond 14 (.v 18) K_laws_FnExactSimulationRelation_37 (.skip)
@[simp] def W_laws_FnExactSimulationRelation_38 := @C.wpe _ _ K_laws_FnExactSimulationRelation_38.eq_1
def K_laws_FnExactSimulationRelation_39 : Pl := .st (.act none (.px (some 18) (.un .not (.v 17)))) .done
@[simp] def W_laws_FnExactSimulationRelation_39 := @Pl.wpe _ _ K_laws_FnExactSimulationRelation_39.eq_1
def K_laws_FnExactSimulationRelation_40 : Pl := .st (.act none (.ex (some 17) (.call fn_laws_eqAutomaton [.v 14, .v 16]))) K_laws_FnExactSimulationRelation_39
@[simp] def W_laws_FnExactSimulationRelation_40 := @Pl.wpe _ _ K_laws_FnExactSimulationRelation_40.eq_1
def K_laws_FnExactSimulationRelation_41 : C := .seq (.seq (.pl <| .st (.ext 14 5) <|
    .st (.act none (.pget (some 14) none 6 0 (some 3))) <|
    .st (.act none (.pget (some 15) none 1 0 (some 3))) <|
    .st (.act none (.ex (some 16) (.call fn_laws_toAutomaton [.v 15]))) K_laws_FnExactSimulationRelation_40) K_laws_FnExactSimulationRelation_38) K_laws_FnExactSimulationRelation_36
@[simp] def W_laws_FnExactSimulationRelation_41 := @C.wpe _ _ K_laws_FnExactSimulationRelation_41.eq_1
def K_laws_FnExactSimulationRelation_42 : C := .seq (.pl <| .st (.ext 14 0) <|
    .st (.act none (.px (some 2) (.mv (.c (.bool false))))) .done) (.ret)
@[simp] def W_laws_FnExactSimulationRelation_42 := @C.wpe _ _ K_laws_FnExactSimulationRelation_42.eq_1
def K_laws_FnExactSimulationRelation_43 : C := .cond 14 (.v 22) K_laws_FnExactSimulationRelation_42 (.skip)
@[simp] def W_laws_FnExactSimulationRelation_43 := @C.wpe _ _ K_laws_FnExactSimulationRelation_43.eq_1
def K_laws_FnExactSimulationRelation_44 : Pl := .st (.act none (.px (some 17) (.un .not (.v 16)))) <|
    .st (.act none (.px (some 18) (.mv (.v 17)))) <|
    .st (.act (some (.v 18, false)) (.px (some 19) (.mv (.v 8)))) <|
    .st (.act (some (.v 18, false)) (.px (some 20) (.mv (.v 5)))) <|
    .st (.act (some (.v 18, false)) (.px (some 21) (.eqb true (.v 19) (.v 20)))) <|
    .st (.act none (.px (some 22) (.pick (.v 18) (.c (.bool true)) (.v 21)))) .done
@[simp] def W_laws_FnExactSimulationRelation_44 := @Pl.wpe _ _ K_laws_FnExactSimulationRelation_44.eq_1
def K_laws_FnExactSimulationRelation_45 : C := .seq (.seq (.pl <| .st (.ext 14 9) <|
    .st (.act none (.px (some 14) (.mv (.v 7)))) <|
    .st (.act none (.px (some 15) (.mv (.v 4)))) <|
    .st (.act none (.ex (some 16) (.call fn_laws_eqBoolSS [.v 14, .v 15]))) K_laws_FnExactSimulationRelation_44) K_laws_FnExactSimulationRelation_43) K_laws_FnExactSimulationRelation_41
@[simp] def W_laws_FnExactSimulationRelation_45 := @C.wpe _ _ K_laws_FnExactSimulationRelation_45.eq_1
def K_laws_FnExactSimulationRelation_46 : Pl := .st (.act none (.px (some 16) (.mv (.v 15)))) <|
    .st (.act none (.px (some 17) (.extract 0 (.v 16)))) <|
    .st (.act none (.px (some 18) (.extract 1 (.v 16)))) <|
    .st (.act none (.px (some 7) (.mv (.v 17)))) <|
    .st (.act none (.px (some 8) (.mv (.v 18)))) .done
@[simp] def W_laws_FnExactSimulationRelation_46 := @Pl.wpe _ _ K_laws_FnExactSimulationRelation_46.eq_1
def K_laws_FnExactSimulationRelation_47 : C := .seq (.pl <| .st (.ext 14 5) <|
    .st (.act none (.pget (some 14) none 6 0 (some 3))) <|
    .st (.act none (.ex (some 15) (.call fn_impl_SimulationRelation [.v 14]))) K_laws_FnExactSimulationRelation_46) K_laws_FnExactSimulationRelation_45
@[simp] def W_laws_FnExactSimulationRelation_47 := @C.wpe _ _ K_laws_FnExactSimulationRelation_47.eq_1
def K_laws_FnExactSimulationRelation_48 : Pl := .st (.act none (.pnew 6 (.c (.agg #[.slice none 0 0, .slice none 0 0, .slice none 0 0])) [])) <|
    .st (.act none (.pset none 6 0 3 (.v 15))) .done
@[simp] def W_laws_FnExactSimulationRelation_48 := @Pl.wpe _ _ K_laws_FnExactSimulationRelation_48.eq_1
def K_laws_FnExactSimulationRelation_49 : C := .seq (.pl <| .st (.ext 14 2) <|
    .st (.act none (.pget (some 14) none 1 0 (some 3))) <|
    .st (.act none (.ex (some 15) (.call fn_laws_toAutomaton [.v 14]))) K_laws_FnExactSimulationRelation_48) K_laws_FnExactSimulationRelation_47
@[simp] def W_laws_FnExactSimulationRelation_49 := @C.wpe _ _ K_laws_FnExactSimulationRelation_49.eq_1
def K_laws_FnExactSimulationRelation_50 : Pl := .st (.act none (.px (some 17) (.mv (.v 16)))) <|
    .st (.act none (.px (some 18) (.extract 0 (.v 17)))) <|
    .st (.act none (.px (some 19) (.extract 1 (.v 17)))) <|
    .st (.act none (.px (some 4) (.mv (.v 18)))) <|
    .st (.act none (.px (some 5) (.mv (.v 19)))) .done
@[simp] def W_laws_FnExactSimulationRelation_50 := @Pl.wpe _ _ K_laws_FnExactSimulationRelation_50.eq_1
def K_laws_FnExactSimulationRelation_51 : Pl := .st (.act none (.ex (some 16) (.call fn_spec_SimulationRelation [.v 15]))) K_laws_FnExactSimulationRelation_50
@[simp] def W_laws_FnExactSimulationRelation_51 := @Pl.wpe _ _ K_laws_FnExactSimulationRelation_51.eq_1
def K_laws_FnExactSimulationRelation_52 : C := .seq (.pl <| .st (.ext 14 6) <|
    .st (.act none (.pget (some 14) none 1 0 (some 3))) <|
    .st (.act none (.ex (some 15) (.call fn_laws_toAutomaton [.v 14]))) K_laws_FnExactSimulationRelation_51) K_laws_FnExactSimulationRelation_49
@[simp] def W_laws_FnExactSimulationRelation_52 := @C.wpe _ _ K_laws_FnExactSimulationRelation_52.eq_1
def K_laws_FnExactSimulationRelation_53 : C := .seq (.pl <| .st (.ext 14 0) <|
    .st (.act none (.px (some 2) (.mv (.c (.bool true))))) .done) (.ret)
@[simp] def W_laws_FnExactSimulationRelation_53 := @C.wpe _ _ K_laws_FnExactSimulationRelation_53.eq_1
def K_laws_FnExactSimulationRelation_54 : C := .cond 14 (.v 15) K_laws_FnExactSimulationRelation_53 (.skip)
@[simp] def W_laws_FnExactSimulationRelation_54 := @C.wpe _ _ K_laws_FnExactSimulationRelation_54.eq_1
def K_laws_FnExactSimulationRelation_55 : C := .seq (.seq (.pl <| .st (.ext 14 2) <|
    .st (.act none (.px (some 14) (.mv (.v 3)))) <|
    .st (.act none (.px (some 15) (.bin .lss (.v 14) (.c (.int .i64 0))))) .done) K_laws_FnExactSimulationRelation_54) K_laws_FnExactSimulationRelation_52
@[simp] def W_laws_FnExactSimulationRelation_55 := @C.wpe _ _ K_laws_FnExactSimulationRelation_55.eq_1
def K_laws_FnExactSimulationRelation_56 : Pl := .st (.act none (.px (some 3) (.mv (.v 16)))) .done
@[simp] def W_laws_FnExactSimulationRelation_56 := @Pl.wpe _ _ K_laws_FnExactSimulationRelation_56.eq_1
def K_laws_FnExactSimulationRelation_57 : C := .seq (.pl <| .st (.ext 14 3) <|
    .st (.act none (.pget (some 14) none 1 0 (some 3))) <|
    .st (.act none (.px (some 15) (.mv (.v 3)))) <|
    .st (.act none (.ex (some 16) (.call fn_laws_szAutomaton [.v 14, .v 15]))) K_laws_FnExactSimulationRelation_56) K_laws_FnExactSimulationRelation_55
@[simp] def W_laws_FnExactSimulationRelation_57 := @C.wpe _ _ K_laws_FnExactSimulationRelation_57.eq_1
def K_laws_FnExactSimulationRelation_58 : C := .seq (.pl <| .st (.ext 14 0) <|
    .st (.act none (.px (some 3) (.mv (.c (.int .i64 1048576))))) .done) K_laws_FnExactSimulationRelation_57
@[simp] def W_laws_FnExactSimulationRelation_58 := @C.wpe _ _ K_laws_FnExactSimulationRelation_58.eq_1
def B_laws_FnExactSimulationRelation : C := .seq (.pl <| .st (.ext 14 0) <|
    .st (.act none (.pnew 1 (.v 0) [])) <|
    .st (.act none (.px (some 2) (.mv (.c (.bool false))))) .done) K_laws_FnExactSimulationRelation_58
@[simp] def WB_laws_FnExactSimulationRelation := @C.wpe _ _ B_laws_FnExactSimulationRelation.eq_1
def R_laws_FnExactSimulationRelation : FIR := ⟨B_laws_FnExactSimulationRelation, 14, [(2, none)]⟩
theorem IR_laws_FnExactSimulationRelation : cfun Try.prog H_laws_FnExactSimulationRelation Try.f4 = some R_laws_FnExactSimulationRelation := by kernel_rfl
theorem EN_laws_FnExactSimulationRelation {args : List Value} {h : Heap} {k : Value → Heap → Prop} (hargs : args.length = 1) (hw : B_laws_FnExactSimulationRelation.wp Try.prog (retQ [(2, none)] k) (env0 args 14) h) : CallE Try.prog fn_laws_FnExactSimulationRelation args h k := enter Try.func4 rfl IR_laws_FnExactSimulationRelation hargs hw

def H_laws_eqAutomaton : Hint := ⟨[(0, false), (1, false), (2, true), (3, true), (4, false)], []⟩
def K_laws_eqAutomaton_1 : C := .seq (.pl <| .st (.ext 5 0) <|
    .st (.act none (.px (some 4) (.mv (.c (.bool true))))) .done) (.ret)
@[simp] def W_laws_eqAutomaton_1 := @C.wpe _ _ K_laws_eqAutomaton_1.eq_1
def K_laws_eqAutomaton_2 : C := .seq (.pl <| .st (.ext 5 0) <|
    .st (.act none (.px (some 4) (.mv (.c (.bool false))))) .done) (.ret)
@[simp] def W_laws_eqAutomaton_2 := @C.wpe _ _ K_laws_eqAutomaton_2.eq_1
def K_laws_eqAutomaton_3 : C := .cond 5 (.v 10) K_laws_eqAutomaton_2 (.skip)
@[simp] def W_laws_eqAutomaton_3 := @C.wpe _ _ K_laws_eqAutomaton_3.eq_1
def K_laws_eqAutomaton_4 : Pl := .st (.act none (.px (some 10) (.un .not (.v 9)))) .done
@[simp] def W_laws_eqAutomaton_4 := @Pl.wpe _ _ K_laws_eqAutomaton_4.eq_1
def K_laws_eqAutomaton_5 : C := .seq (.seq (.pl <| .st (.ext 5 6) <|
    .st (.act none (.als 5 none 2)) <|
    .st (.act none (.pget (some 6) (some 5) 2 2 none)) <|
    .st (.act none (.als 7 none 3)) <|
    .st (.act none (.pget (some 8) (some 7) 3 2 none)) <|
    .st (.act none (.ex (some 9) (.call fn_laws_eqTransitionS [.v 6, .v 8]))) K_laws_eqAutomaton_4) K_laws_eqAutomaton_3) K_laws_eqAutomaton_1
@[simp] def W_laws_eqAutomaton_5 := @C.wpe _ _ K_laws_eqAutomaton_5.eq_1
def K_laws_eqAutomaton_6 : C := .seq (.pl <| .st (.ext 5 0) <|
    .st (.act none (.px (some 4) (.mv (.c (.bool false))))) .done) (.ret)
@[simp] def W_laws_eqAutomaton_6 := @C.wpe _ _ K_laws_eqAutomaton_6.eq_1
def K_laws_eqAutomaton_7 : C := .cond 5 (.v 10) K_laws_eqAutomaton_6 (.skip)
@[simp] def W_laws_eqAutomaton_7 := @C.wpe _ _ K_laws_eqAutomaton_7.eq_1
def K_laws_eqAutomaton_8 : Pl := .st (.act none (.px (some 10) (.un .not (.v 9)))) .done
@[simp] def W_laws_eqAutomaton_8 := @Pl.wpe _ _ K_laws_eqAutomaton_8.eq_1
def K_laws_eqAutomaton_9 : C := .seq (.seq (.pl <| .st (.ext 5 6) <|
    .st (.act none (.als 5 none 2)) <|
    .st (.act none (.pget (some 6) (some 5) 2 1 none)) <|
    .st (.act none (.als 7 none 3)) <|
    .st (.act none (.pget (some 8) (some 7) 3 1 none)) <|
    .st (.act none (.ex (some 9) (.call fn_laws_eqBoolS [.v 6, .v 8]))) K_laws_eqAutomaton_8) K_laws_eqAutomaton_7) K_laws_eqAutomaton_5
@[simp] def W_laws_eqAutomaton_9 := @C.wpe _ _ K_laws_eqAutomaton_9.eq_1
def K_laws_eqAutomaton_10 : C := .seq (.pl <| .st (.ext 5 0) <|
    .st (.act none (.px (some 4) (.mv (.c (.bool false))))) .done) (.ret)
@[simp] def W_laws_eqAutomaton_10 := @C.wpe _ _ K_laws_eqAutomaton_10.eq_1
def K_laws_eqAutomaton_11 : C := .cond 5 (.v 10) K_laws_eqAutomaton_10 (.skip)
@[simp] def W_laws_eqAutomaton_11 := @C.wpe _ _ K_laws_eqAutomaton_11.eq_1
def K_laws_eqAutomaton_12 : Pl := .st (.act none (.px (some 10) (.un .not (.v 9)))) .done
@[simp] def W_laws_eqAutomaton_12 := @Pl.wpe _ _ K_laws_eqAutomaton_12.eq_1
def K_laws_eqAutomaton_13 : C := .seq (.seq (.pl <| .st (.ext 5 6) <|
    .st (.act none (.als 5 none 2)) <|
    .st (.act none (.pget (some 6) (some 5) 2 0 none)) <|
    .st (.act none (.als 7 none 3)) <|
    .st (.act none (.pget (some 8) (some 7) 3 0 none)) <|
    .st (.act none (.ex (some 9) (.call fn_laws_eqIntS [.v 6, .v 8]))) K_laws_eqAutomaton_12) K_laws_eqAutomaton_11) K_laws_eqAutomaton_9
@[simp] def W_laws_eqAutomaton_13 := @C.wpe _ _ K_laws_eqAutomaton_13.eq_1
def B_laws_eqAutomaton : C := .seq (.pl <| .st (.ext 5 0) <|
    .st (.act none (.pnew 2 (.v 0) [])) <|
    .st (.act none (.pnew 3 (.v 1) [])) <|
    .st (.act none (.px (some 4) (.mv (.c (.bool false))))) .done) K_laws_eqAutomaton_13
@[simp] def WB_laws_eqAutomaton := @C.wpe _ _ B_laws_eqAutomaton.eq_1
def R_laws_eqAutomaton : FIR := ⟨B_laws_eqAutomaton, 5, [(4, none)]⟩
theorem IR_laws_eqAutomaton : cfun Try.prog H_laws_eqAutomaton Try.f9 = some R_laws_eqAutomaton := by kernel_rfl
theorem EN_laws_eqAutomaton {args : List Value} {h : Heap} {k : Value → Heap → Prop} (hargs : args.length = 2) (hw : B_laws_eqAutomaton.wp Try.prog (retQ [(4, none)] k) (env0 args 5) h) : CallE Try.prog fn_laws_eqAutomaton args h k := enter Try.func9 rfl IR_laws_eqAutomaton hargs hw

def H_laws_eqBoolS : Hint := ⟨[(0, false), (1, false), (4, false), (5, false)], [[2]]⟩
def K_laws_eqBoolS_1 : C := .seq (.pl <| .st (.ext 4 0) <|
    .st (.act none (.px (some 2) (.mv (.c (.bool true))))) .done) (.ret)
@[simp] def W_laws_eqBoolS_1 := @C.wpe _ _ K_laws_eqBoolS_1.eq_1
def K_laws_eqBoolS_2 : C := .pl <| .st (.ext 4 2) <|
    .st (.act none (.px (some 4) (.mv (.v 3)))) <|
    .st (.act none (.px (some 5) (.bin .add (.v 4) (.c (.int .i64 1))))) <|
    .st (.act none (.px (some 3) (.mv (.v 5)))) .done
@[simp] def W_laws_eqBoolS_2 := @C.wpe _ _ K_laws_eqBoolS_2.eq_1
def K_laws_eqBoolS_3 : C := .seq (.pl <| .st (.ext 4 0) <|
    .st (.act none (.px (some 2) (.mv (.c (.bool false))))) .done) (.ret)
@[simp] def W_laws_eqBoolS_3 := @C.wpe _ _ K_laws_eqBoolS_3.eq_1
def K_laws_eqBoolS_4 : C := .cond 4 (.v 12) K_laws_eqBoolS_3 (.skip)
@[simp] def W_laws_eqBoolS_4 := @C.wpe _ _ K_laws_eqBoolS_4.eq_1
def K_laws_eqBoolS_5 : C := .seq (.block 1 (.seq (.pl <| .st (.ext 4 9) <|
    .st (.act none (.px (some 4) (.mv (.v 0)))) <|
    .st (.act none (.px (some 5) (.mv (.v 3)))) <|
    .st (.act none (.px (some 6) (.ia 1 (.v 4) (.v 5)))) <|
    .st (.act none (.ld (some 7) (.v 6) none)) <|
    .st (.act none (.px (some 8) (.mv (.v 1)))) <|
    .st (.act none (.px (some 9) (.mv (.v 3)))) <|
    .st (.act none (.px (some 10) (.ia 1 (.v 8) (.v 9)))) <|
    .st (.act none (.ld (some 11) (.v 10) none)) <|
    .st (.act none (.px (some 12) (.eqb true (.v 7) (.v 11)))) .done) K_laws_eqBoolS_4)) K_laws_eqBoolS_2
@[simp] def W_laws_eqBoolS_5 := @C.wpe _ _ K_laws_eqBoolS_5.eq_1
def K_laws_eqBoolS_6 : C := .cond 4 (.v 7) (.skip) (.exit 0)
@[simp] def W_laws_eqBoolS_6 := @C.wpe _ _ K_laws_eqBoolS_6.eq_1
def K_laws_eqBoolS_7 : C := .seq (.seq (.pl <| .st (.ext 4 4) <|
    .st (.act none (.px (some 4) (.mv (.v 3)))) <|
    .st (.act none (.px (some 5) (.mv (.v 0)))) <|
    .st (.act none (.px (some 6) (.lenV (.v 5)))) <|
    .st (.act none (.px (some 7) (.bin .lss (.v 4) (.v 6)))) .done) K_laws_eqBoolS_6) K_laws_eqBoolS_5
@[simp] def W_laws_eqBoolS_7 := @C.wpe _ _ K_laws_eqBoolS_7.eq_1
def K_laws_eqBoolS_8 : C := .block 0 (.loop 4 [2] K_laws_eqBoolS_7)
@[simp] def W_laws_eqBoolS_8 := @C.wpe _ _ K_laws_eqBoolS_8.eq_1
def K_laws_eqBoolS_9 : C := .seq (.seq (.pl <| .st (.ext 4 0) <|
    .st (.act none (.px (some 3) (.mv (.c (.int .i64 0))))) .done) K_laws_eqBoolS_8) K_laws_eqBoolS_1
@[simp] def W_laws_eqBoolS_9 := @C.wpe _ _ K_laws_eqBoolS_9.eq_1
def K_laws_eqBoolS_10 : C := .seq (.pl <| .st (.ext 4 0) <|
    .st (.act none (.px (some 2) (.mv (.c (.bool false))))) .done) (.ret)
@[simp] def W_laws_eqBoolS_10 := @C.wpe _ _ K_laws_eqBoolS_10.eq_1
def K_laws_eqBoolS_11 : C := .cond 4 (.v 8) K_laws_eqBoolS_10 (.skip)
@[simp] def W_laws_eqBoolS_11 := @C.wpe _ _ K_laws_eqBoolS_11.eq_1
def K_laws_eqBoolS_12 : C := .seq (.seq (.pl <| .st (.ext 4 5) <|
    .st (.act none (.px (some 4) (.mv (.v 0)))) <|
    .st (.act none (.px (some 5) (.lenV (.v 4)))) <|
    .st (.act none (.px (some 6) (.mv (.v 1)))) <|
    .st (.act none (.px (some 7) (.lenV (.v 6)))) <|
    .st (.act none (.px (some 8) (.bin .neq (.v 5) (.v 7)))) .done) K_laws_eqBoolS_11) K_laws_eqBoolS_9
@[simp] def W_laws_eqBoolS_12 := @C.wpe _ _ K_laws_eqBoolS_12.eq_1
def B_laws_eqBoolS : C := .seq (.pl <| .st (.ext 4 0) <|
    .st (.act none (.px (some 2) (.mv (.c (.bool false))))) .done) K_laws_eqBoolS_12
@[simp] def WB_laws_eqBoolS := @C.wpe _ _ B_laws_eqBoolS.eq_1
def R_laws_eqBoolS : FIR := ⟨B_laws_eqBoolS, 4, [(2, none)]⟩
theorem IR_laws_eqBoolS : cfun Try.prog H_laws_eqBoolS Try.f30 = some R_laws_eqBoolS := by kernel_rfl
theorem EN_laws_eqBoolS {args : List Value} {h : Heap} {k : Value → Heap → Prop} (hargs : args.length = 2) (hw : B_laws_eqBoolS.wp Try.prog (retQ [(2, none)] k) (env0 args 4) h) : CallE Try.prog fn_laws_eqBoolS args h k := enter Try.func30 rfl IR_laws_eqBoolS hargs hw

def H_laws_eqBoolSS : Hint := ⟨[(0, false), (1, false), (4, false), (5, false)], [[2]]⟩
def K_laws_eqBoolSS_1 : C := .seq (.pl <| .st (.ext 4 0) <|
    .st (.act none (.px (some 2) (.mv (.c (.bool true))))) .done) (.ret)
@[simp] def W_laws_eqBoolSS_1 := @C.wpe _ _ K_laws_eqBoolSS_1.eq_1
def K_laws_eqBoolSS_2 : C := .pl <| .st (.ext 4 2) <|
    .st (.act none (.px (some 4) (.mv (.v 3)))) <|
    .st (.act none (.px (some 5) (.bin .add (.v 4) (.c (.int .i64 1))))) <|
    .st (.act none (.px (some 3) (.mv (.v 5)))) .done
@[simp] def W_laws_eqBoolSS_2 := @C.wpe _ _ K_laws_eqBoolSS_2.eq_1
def K_laws_eqBoolSS_3 : C := .seq (.pl <| .st (.ext 4 0) <|
    .st (.act none (.px (some 2) (.mv (.c (.bool false))))) .done) (.ret)
@[simp] def W_laws_eqBoolSS_3 := @C.wpe _ _ K_laws_eqBoolSS_3.eq_1
def K_laws_eqBoolSS_4 : C := .cond 4 (.v 13) K_laws_eqBoolSS_3 (.skip)
@[simp] def W_laws_eqBoolSS_4 := @C.wpe _ _ K_laws_eqBoolSS_4.eq_1
def K_laws_eqBoolSS_5 : Pl := .st (.act none (.px (some 13) (.un .not (.v 12)))) .done
@[simp] def W_laws_eqBoolSS_5 := @Pl.wpe _ _ K_laws_eqBoolSS_5.eq_1
def K_laws_eqBoolSS_6 : C := .seq (.block 1 (.seq (.pl <| .st (.ext 4 10) <|
    .st (.act none (.px (some 4) (.mv (.v 0)))) <|
    .st (.act none (.px (some 5) (.mv (.v 3)))) <|
    .st (.act none (.px (some 6) (.ia 1 (.v 4) (.v 5)))) <|
    .st (.act none (.ld (some 7) (.v 6) none)) <|
    .st (.act none (.px (some 8) (.mv (.v 1)))) <|
    .st (.act none (.px (some 9) (.mv (.v 3)))) <|
    .st (.act none (.px (some 10) (.ia 1 (.v 8) (.v 9)))) <|
    .st (.act none (.ld (some 11) (.v 10) none)) <|
    .st (.act none (.ex (some 12) (.call fn_laws_eqBoolS [.v 7, .v 11]))) K_laws_eqBoolSS_5) K_laws_eqBoolSS_4)) K_laws_eqBoolSS_2
@[simp] def W_laws_eqBoolSS_6 := @C.wpe _ _ K_laws_eqBoolSS_6.eq_1
def K_laws_eqBoolSS_7 : C := .cond 4 (.v 7) (.skip) (.exit 0)
@[simp] def W_laws_eqBoolSS_7 := @C.wpe _ _ K_laws_eqBoolSS_7.eq_1
def K_laws_eqBoolSS_8 : C := .seq (.seq (.pl <| .st (.ext 4 4) <|
    .st (.act none (.px (some 4) (.mv (.v 3)))) <|
    .st (.act none (.px (some 5) (.mv (.v 0)))) <|
    .st (.act none (.px (some 6) (.lenV (.v 5)))) <|
    .st (.act none (.px (some 7) (.bin .lss (.v 4) (.v 6)))) .done) K_laws_eqBoolSS_7) K_laws_eqBoolSS_6
@[simp] def W_laws_eqBoolSS_8 := @C.wpe _ _ K_laws_eqBoolSS_8.eq_1
def K_laws_eqBoolSS_9 : C := .block 0 (.loop 4 [2] K_laws_eqBoolSS_8)
@[simp] def W_laws_eqBoolSS_9 := @C.wpe _ _ K_laws_eqBoolSS_9.eq_1
def K_laws_eqBoolSS_10 : C := .seq (.seq (.pl <| .st (.ext 4 0) <|
    .st (.act none (.px (some 3) (.mv (.c (.int .i64 0))))) .done) K_laws_eqBoolSS_9) K_laws_eqBoolSS_1
@[simp] def W_laws_eqBoolSS_10 := @C.wpe _ _ K_laws_eqBoolSS_10.eq_1
def K_laws_eqBoolSS_11 : C := .seq (.pl <| .st (.ext 4 0) <|
    .st (.act none (.px (some 2) (.mv (.c (.bool false))))) .done) (.ret)
@[simp] def W_laws_eqBoolSS_11 := @C.wpe _ _ K_laws_eqBoolSS_11.eq_1
def K_laws_eqBoolSS_12 : C := .cond 4 (.v 8) K_laws_eqBoolSS_11 (.skip)
@[simp] def W_laws_eqBoolSS_12 := @C.wpe _ _ K_laws_eqBoolSS_12.eq_1
def K_laws_eqBoolSS_13 : C := .seq (.seq (.pl <| .st (.ext 4 5) <|
    .st (.act none (.px (some 4) (.mv (.v 0)))) <|
    .st (.act none (.px (some 5) (.lenV (.v 4)))) <|
    .st (.act none (.px (some 6) (.mv (.v 1)))) <|
    .st (.act none (.px (some 7) (.lenV (.v 6)))) <|
    .st (.act none (.px (some 8) (.bin .neq (.v 5) (.v 7)))) .done) K_laws_eqBoolSS_12) K_laws_eqBoolSS_10
@[simp] def W_laws_eqBoolSS_13 := @C.wpe _ _ K_laws_eqBoolSS_13.eq_1
def B_laws_eqBoolSS : C := .seq (.pl <| .st (.ext 4 0) <|
    .st (.act none (.px (some 2) (.mv (.c (.bool false))))) .done) K_laws_eqBoolSS_13
@[simp] def WB_laws_eqBoolSS := @C.wpe _ _ B_laws_eqBoolSS.eq_1
def R_laws_eqBoolSS : FIR := ⟨B_laws_eqBoolSS, 4, [(2, none)]⟩
theorem IR_laws_eqBoolSS : cfun Try.prog H_laws_eqBoolSS Try.f12 = some R_laws_eqBoolSS := by kernel_rfl
theorem EN_laws_eqBoolSS {args : List Value} {h : Heap} {k : Value → Heap → Prop} (hargs : args.length = 2) (hw : B_laws_eqBoolSS.wp Try.prog (retQ [(2, none)] k) (env0 args 4) h) : CallE Try.prog fn_laws_eqBoolSS args h k := enter Try.func12 rfl IR_laws_eqBoolSS hargs hw

def H_laws_eqIntS : Hint := ⟨[(0, false), (1, false), (4, false), (5, false)], [[2]]⟩
def K_laws_eqIntS_1 : C := .seq (.pl <| .st (.ext 4 0) <|
    .st (.act none (.px (some 2) (.mv (.c (.bool true))))) .done) (.ret)
@[simp] def W_laws_eqIntS_1 := @C.wpe _ _ K_laws_eqIntS_1.eq_1
def K_laws_eqIntS_2 : C := .pl <| .st (.ext 4 2) <|
    .st (.act none (.px (some 4) (.mv (.v 3)))) <|
    .st (.act none (.px (some 5) (.bin .add (.v 4) (.c (.int .i64 1))))) <|
    .st (.act none (.px (some 3) (.mv (.v 5)))) .done
@[simp] def W_laws_eqIntS_2 := @C.wpe _ _ K_laws_eqIntS_2.eq_1
def K_laws_eqIntS_3 : C := .seq (.pl <| .st (.ext 4 0) <|
    .st (.act none (.px (some 2) (.mv (.c (.bool false))))) .done) (.ret)
@[simp] def W_laws_eqIntS_3 := @C.wpe _ _ K_laws_eqIntS_3.eq_1
def K_laws_eqIntS_4 : C := .cond 4 (.v 12) K_laws_eqIntS_3 (.skip)
@[simp] def W_laws_eqIntS_4 := @C.wpe _ _ K_laws_eqIntS_4.eq_1
def K_laws_eqIntS_5 : C := .seq (.block 1 (.seq (.pl <| .st (.ext 4 9) <|
    .st (.act none (.px (some 4) (.mv (.v 0)))) <|
    .st (.act none (.px (some 5) (.mv (.v 3)))) <|
    .st (.act none (.px (some 6) (.ia 1 (.v 4) (.v 5)))) <|
    .st (.act none (.ld (some 7) (.v 6) none)) <|
    .st (.act none (.px (some 8) (.mv (.v 1)))) <|
    .st (.act none (.px (some 9) (.mv (.v 3)))) <|
    .st (.act none (.px (some 10) (.ia 1 (.v 8) (.v 9)))) <|
    .st (.act none (.ld (some 11) (.v 10) none)) <|
    .st (.act none (.px (some 12) (.bin .neq (.v 7) (.v 11)))) .done) K_laws_eqIntS_4)) K_laws_eqIntS_2
@[simp] def W_laws_eqIntS_5 := @C.wpe _ _ K_laws_eqIntS_5.eq_1
def K_laws_eqIntS_6 : C := .cond 4 (.v 7) (.skip) (.exit 0)
@[simp] def W_laws_eqIntS_6 := @C.wpe _ _ K_laws_eqIntS_6.eq_1
def K_laws_eqIntS_7 : C := .seq (.seq (.pl <| .st (.ext 4 4) <|
    .st (.act none (.px (some 4) (.mv (.v 3)))) <|
    .st (.act none (.px (some 5) (.mv (.v 0)))) <|
    .st (.act none (.px (some 6) (.lenV (.v 5)))) <|
    .st (.act none (.px (some 7) (.bin .lss (.v 4) (.v 6)))) .done) K_laws_eqIntS_6) K_laws_eqIntS_5
@[simp] def W_laws_eqIntS_7 := @C.wpe _ _ K_laws_eqIntS_7.eq_1
def K_laws_eqIntS_8 : C := .block 0 (.loop 4 [2] K_laws_eqIntS_7)
@[simp] def W_laws_eqIntS_8 := @C.wpe _ _ K_laws_eqIntS_8.eq_1
def K_laws_eqIntS_9 : C := .seq (.seq (.pl <| .st (.ext 4 0) <|
    .st (.act none (.px (some 3) (.mv (.c (.int .i64 0))))) .done) K_laws_eqIntS_8) K_laws_eqIntS_1
@[simp] def W_laws_eqIntS_9 := @C.wpe _ _ K_laws_eqIntS_9.eq_1
def K_laws_eqIntS_10 : C := .seq (.pl <| .st (.ext 4 0) <|
    .st (.act none (.px (some 2) (.mv (.c (.bool false))))) .done) (.ret)
@[simp] def W_laws_eqIntS_10 := @C.wpe _ _ K_laws_eqIntS_10.eq_1
def K_laws_eqIntS_11 : C := .cond 4 (.v 8) K_laws_eqIntS_10 (.skip)
@[simp] def W_laws_eqIntS_11 := @C.wpe _ _ K_laws_eqIntS_11.eq_1
def K_laws_eqIntS_12 : C := .seq (.seq (.pl <| .st (.ext 4 5) <|
    .st (.act none (.px (some 4) (.mv (.v 0)))) <|
    .st (.act none (.px (some 5) (.lenV (.v 4)))) <|
    .st (.act none (.px (some 6) (.mv (.v 1)))) <|
    .st (.act none (.px (some 7) (.lenV (.v 6)))) <|
    .st (.act none (.px (some 8) (.bin .neq (.v 5) (.v 7)))) .done) K_laws_eqIntS_11) K_laws_eqIntS_9
@[simp] def W_laws_eqIntS_12 := @C.wpe _ _ K_laws_eqIntS_12.eq_1
def B_laws_eqIntS : C := .seq (.pl <| .st (.ext 4 0) <|
    .st (.act none (.px (some 2) (.mv (.c (.bool false))))) .done) K_laws_eqIntS_12
@[simp] def WB_laws_eqIntS := @C.wpe _ _ B_laws_eqIntS.eq_1
def R_laws_eqIntS : FIR := ⟨B_laws_eqIntS, 4, [(2, none)]⟩
theorem IR_laws_eqIntS : cfun Try.prog H_laws_eqIntS Try.f29 = some R_laws_eqIntS := by kernel_rfl
theorem EN_laws_eqIntS {args : List Value} {h : Heap} {k : Value → Heap → Prop} (hargs : args.length = 2) (hw : B_laws_eqIntS.wp Try.prog (retQ [(2, none)] k) (env0 args 4) h) : CallE Try.prog fn_laws_eqIntS args h k := enter Try.func29 rfl IR_laws_eqIntS hargs hw

def H_laws_eqTransition : Hint := ⟨[(0, false), (1, false), (2, true), (3, true), (4, false)], []⟩
def K_laws_eqTransition_1 : C := .seq (.pl <| .st (.ext 5 0) <|
    .st (.act none (.px (some 4) (.mv (.c (.bool true))))) .done) (.ret)
@[simp] def W_laws_eqTransition_1 := @C.wpe _ _ K_laws_eqTransition_1.eq_1
def K_laws_eqTransition_2 : C := .seq (.pl <| .st (.ext 5 0) <|
    .st (.act none (.px (some 4) (.mv (.c (.bool false))))) .done) (.ret)
@[simp] def W_laws_eqTransition_2 := @C.wpe _ _ K_laws_eqTransition_2.eq_1
def K_laws_eqTransition_3 : C := .cond 5 (.v 9) K_laws_eqTransition_2 (.skip)
@[simp] def W_laws_eqTransition_3 := @C.wpe _ _ K_laws_eqTransition_3.eq_1
def K_laws_eqTransition_4 : C := .seq (.seq (.pl <| .st (.ext 5 5) <|
    .st (.act none (.als 5 none 2)) <|
    .st (.act none (.pget (some 6) (some 5) 2 3 none)) <|
    .st (.act none (.als 7 none 3)) <|
    .st (.act none (.pget (some 8) (some 7) 3 3 none)) <|
    .st (.act none (.px (some 9) (.bin .neq (.v 6) (.v 8)))) .done) K_laws_eqTransition_3) K_laws_eqTransition_1
@[simp] def W_laws_eqTransition_4 := @C.wpe _ _ K_laws_eqTransition_4.eq_1
def K_laws_eqTransition_5 : C := .seq (.pl <| .st (.ext 5 0) <|
    .st (.act none (.px (some 4) (.mv (.c (.bool false))))) .done) (.ret)
@[simp] def W_laws_eqTransition_5 := @C.wpe _ _ K_laws_eqTransition_5.eq_1
def K_laws_eqTransition_6 : C := .cond 5 (.v 9) K_laws_eqTransition_5 (.skip)
@[simp] def W_laws_eqTransition_6 := @C.wpe _ _ K_laws_eqTransition_6.eq_1
def K_laws_eqTransition_7 : C := .seq (.seq (.pl <| .st (.ext 5 5) <|
    .st (.act none (.als 5 none 2)) <|
    .st (.act none (.pget (some 6) (some 5) 2 2 none)) <|
    .st (.act none (.als 7 none 3)) <|
    .st (.act none (.pget (some 8) (some 7) 3 2 none)) <|
    .st (.act none (.px (some 9) (.bin .neq (.v 6) (.v 8)))) .done) K_laws_eqTransition_6) K_laws_eqTransition_4
@[simp] def W_laws_eqTransition_7 := @C.wpe _ _ K_laws_eqTransition_7.eq_1
def K_laws_eqTransition_8 : C := .seq (.pl <| .st (.ext 5 0) <|
    .st (.act none (.px (some 4) (.mv (.c (.bool false))))) .done) (.ret)
@[simp] def W_laws_eqTransition_8 := @C.wpe _ _ K_laws_eqTransition_8.eq_1
def K_laws_eqTransition_9 : C := .cond 5 (.v 9) K_laws_eqTransition_8 (.skip)
@[simp] def W_laws_eqTransition_9 := @C.wpe _ _ K_laws_eqTransition_9.eq_1
def K_laws_eqTransition_10 : C := .seq (.seq (.pl <| .st (.ext 5 5) <|
    .st (.act none (.als 5 none 2)) <|
    .st (.act none (.pget (some 6) (some 5) 2 1 none)) <|
    .st (.act none (.als 7 none 3)) <|
    .st (.act none (.pget (some 8) (some 7) 3 1 none)) <|
    .st (.act none (.px (some 9) (.bin .neq (.v 6) (.v 8)))) .done) K_laws_eqTransition_9) K_laws_eqTransition_7
@[simp] def W_laws_eqTransition_10 := @C.wpe _ _ K_laws_eqTransition_10.eq_1
def K_laws_eqTransition_11 : C := .seq (.pl <| .st (.ext 5 0) <|
    .st (.act none (.px (some 4) (.mv (.c (.bool false))))) .done) (.ret)
@[simp] def W_laws_eqTransition_11 := @C.wpe _ _ K_laws_eqTransition_11.eq_1
def K_laws_eqTransition_12 : C := .cond 5 (.v 9) K_laws_eqTransition_11 (.skip)
@[simp] def W_laws_eqTransition_12 := @C.wpe _ _ K_laws_eqTransition_12.eq_1
def K_laws_eqTransition_13 : C := .seq (.seq (.pl <| .st (.ext 5 5) <|
    .st (.act none (.als 5 none 2)) <|
    .st (.act none (.pget (some 6) (some 5) 2 0 none)) <|
    .st (.act none (.als 7 none 3)) <|
    .st (.act none (.pget (some 8) (some 7) 3 0 none)) <|
    .st (.act none (.px (some 9) (.bin .neq (.v 6) (.v 8)))) .done) K_laws_eqTransition_12) K_laws_eqTransition_10
@[simp] def W_laws_eqTransition_13 := @C.wpe _ _ K_laws_eqTransition_13.eq_1
def B_laws_eqTransition : C := .seq (.pl <| .st (.ext 5 0) <|
    .st (.act none (.pnew 2 (.v 0) [])) <|
    .st (.act none (.pnew 3 (.v 1) [])) <|
    .st (.act none (.px (some 4) (.mv (.c (.bool false))))) .done) K_laws_eqTransition_13
@[simp] def WB_laws_eqTransition := @C.wpe _ _ B_laws_eqTransition.eq_1
def R_laws_eqTransition : FIR := ⟨B_laws_eqTransition, 5, [(4, none)]⟩
theorem IR_laws_eqTransition : cfun Try.prog H_laws_eqTransition Try.f45 = some R_laws_eqTransition := by kernel_rfl
theorem EN_laws_eqTransition {args : List Value} {h : Heap} {k : Value → Heap → Prop} (hargs : args.length = 2) (hw : B_laws_eqTransition.wp Try.prog (retQ [(4, none)] k) (env0 args 5) h) : CallE Try.prog fn_laws_eqTransition args h k := enter Try.func45 rfl IR_laws_eqTransition hargs hw

def H_laws_eqTransitionS : Hint := ⟨[(0, false), (1, false), (4, false), (5, false)], [[2]]⟩
def K_laws_eqTransitionS_1 : C := .seq (.pl <| .st (.ext 4 0) <|
    .st (.act none (.px (some 2) (.mv (.c (.bool true))))) .done) (.ret)
@[simp] def W_laws_eqTransitionS_1 := @C.wpe _ _ K_laws_eqTransitionS_1.eq_1
def K_laws_eqTransitionS_2 : C := .pl <| .st (.ext 4 2) <|
    .st (.act none (.px (some 4) (.mv (.v 3)))) <|
    .st (.act none (.px (some 5) (.bin .add (.v 4) (.c (.int .i64 1))))) <|
    .st (.act none (.px (some 3) (.mv (.v 5)))) .done
@[simp] def W_laws_eqTransitionS_2 := @C.wpe _ _ K_laws_eqTransitionS_2.eq_1
def K_laws_eqTransitionS_3 : C := .seq (.pl <| .st (.ext 4 0) <|
    .st (.act none (.px (some 2) (.mv (.c (.bool false))))) .done) (.ret)
@[simp] def W_laws_eqTransitionS_3 := @C.wpe _ _ K_laws_eqTransitionS_3.eq_1
def K_laws_eqTransitionS_4 : C := .cond 4 (.v 13) K_laws_eqTransitionS_3 (.skip)
@[simp] def W_laws_eqTransitionS_4 := @C.wpe _ _ K_laws_eqTransitionS_4.eq_1
def K_laws_eqTransitionS_5 : Pl := .st (.act none (.px (some 13) (.un .not (.v 12)))) .done
@[simp] def W_laws_eqTransitionS_5 := @Pl.wpe _ _ K_laws_eqTransitionS_5.eq_1
def K_laws_eqTransitionS_6 : C := .seq (.block 1 (.seq (.pl <| .st (.ext 4 10) <|
    .st (.act none (.px (some 4) (.mv (.v 0)))) <|
    .st (.act none (.px (some 5) (.mv (.v 3)))) <|
    .st (.act none (.px (some 6) (.ia 4 (.v 4) (.v 5)))) <|
    .st (.act none (.ld (some 7) (.v 6) (some 4))) <|
    .st (.act none (.px (some 8) (.mv (.v 1)))) <|
    .st (.act none (.px (some 9) (.mv (.v 3)))) <|
    .st (.act none (.px (some 10) (.ia 4 (.v 8) (.v 9)))) <|
    .st (.act none (.ld (some 11) (.v 10) (some 4))) <|
    .st (.act none (.ex (some 12) (.call fn_laws_eqTransition [.v 7, .v 11]))) K_laws_eqTransitionS_5) K_laws_eqTransitionS_4)) K_laws_eqTransitionS_2
@[simp] def W_laws_eqTransitionS_6 := @C.wpe _ _ K_laws_eqTransitionS_6.eq_1
def K_laws_eqTransitionS_7 : C := .cond 4 (.v 7) (.skip) (.exit 0)
@[simp] def W_laws_eqTransitionS_7 := @C.wpe _ _ K_laws_eqTransitionS_7.eq_1
def K_laws_eqTransitionS_8 : C := .seq (.seq (.pl <| .st (.ext 4 4) <|
    .st (.act none (.px (some 4) (.mv (.v 3)))) <|
    .st (.act none (.px (some 5) (.mv (.v 0)))) <|
    .st (.act none (.px (some 6) (.lenV (.v 5)))) <|
    .st (.act none (.px (some 7) (.bin .lss (.v 4) (.v 6)))) .done) K_laws_eqTransitionS_7) K_laws_eqTransitionS_6
@[simp] def W_laws_eqTransitionS_8 := @C.wpe _ _ K_laws_eqTransitionS_8.eq_1
def K_laws_eqTransitionS_9 : C := .block 0 (.loop 4 [2] K_laws_eqTransitionS_8)
@[simp] def W_laws_eqTransitionS_9 := @C.wpe _ _ K_laws_eqTransitionS_9.eq_1
def K_laws_eqTransitionS_10 : C := .seq (.seq (.pl <| .st (.ext 4 0) <|
    .st (.act none (.px (some 3) (.mv (.c (.int .i64 0))))) .done) K_laws_eqTransitionS_9) K_laws_eqTransitionS_1
@[simp] def W_laws_eqTransitionS_10 := @C.wpe _ _ K_laws_eqTransitionS_10.eq_1
def K_laws_eqTransitionS_11 : C := .seq (.pl <| .st (.ext 4 0) <|
    .st (.act none (.px (some 2) (.mv (.c (.bool false))))) .done) (.ret)
@[simp] def W_laws_eqTransitionS_11 := @C.wpe _ _ K_laws_eqTransitionS_11.eq_1
def K_laws_eqTransitionS_12 : C := .cond 4 (.v 8) K_laws_eqTransitionS_11 (.skip)
@[simp] def W_laws_eqTransitionS_12 := @C.wpe _ _ K_laws_eqTransitionS_12.eq_1
def K_laws_eqTransitionS_13 : C := .seq (.seq (.pl <| .st (.ext 4 5) <|
    .st (.act none (.px (some 4) (.mv (.v 0)))) <|
    .st (.act none (.px (some 5) (.lenV (.v 4)))) <|
    .st (.act none (.px (some 6) (.mv (.v 1)))) <|
    .st (.act none (.px (some 7) (.lenV (.v 6)))) <|
    .st (.act none (.px (some 8) (.bin .neq (.v 5) (.v 7)))) .done) K_laws_eqTransitionS_12) K_laws_eqTransitionS_10
@[simp] def W_laws_eqTransitionS_13 := @C.wpe _ _ K_laws_eqTransitionS_13.eq_1
def B_laws_eqTransitionS : C := .seq (.pl <| .st (.ext 4 0) <|
    .st (.act none (.px (some 2) (.mv (.c (.bool false))))) .done) K_laws_eqTransitionS_13
@[simp] def WB_laws_eqTransitionS := @C.wpe _ _ B_laws_eqTransitionS.eq_1
def R_laws_eqTransitionS : FIR := ⟨B_laws_eqTransitionS, 4, [(2, none)]⟩
theorem IR_laws_eqTransitionS : cfun Try.prog H_laws_eqTransitionS Try.f31 = some R_laws_eqTransitionS := by kernel_rfl
theorem EN_laws_eqTransitionS {args : List Value} {h : Heap} {k : Value → Heap → Prop} (hargs : args.length = 2) (hw : B_laws_eqTransitionS.wp Try.prog (retQ [(2, none)] k) (env0 args 4) h) : CallE Try.prog fn_laws_eqTransitionS args h k := enter Try.func31 rfl IR_laws_eqTransitionS hargs hw

def H_laws_heldBoolS : Hint := ⟨[(0, false), (1, false), (4, false), (5, false)], [[2]]⟩
def K_laws_heldBoolS_1 : C := .seq (.pl <| .st (.ext 4 1) <|
    .st (.act none (.px (some 4) (.mv (.v 1)))) <|
    .st (.act none (.px (some 2) (.mv (.v 4)))) .done) (.ret)
@[simp] def W_laws_heldBoolS_1 := @C.wpe _ _ K_laws_heldBoolS_1.eq_1
def K_laws_heldBoolS_2 : C := .pl <| .st (.ext 4 2) <|
    .st (.act none (.px (some 4) (.mv (.v 3)))) <|
    .st (.act none (.px (some 5) (.bin .add (.v 4) (.c (.int .i64 1))))) <|
    .st (.act none (.px (some 3) (.mv (.v 5)))) .done
@[simp] def W_laws_heldBoolS_2 := @C.wpe _ _ K_laws_heldBoolS_2.eq_1
def K_laws_heldBoolS_3 : C := .pl <| .st (.ext 4 2) <|
    .st (.act none (.px (some 4) (.mv (.v 1)))) <|
    .st (.act none (.px (some 5) (.bin .add (.v 4) (.c (.int .i64 1))))) <|
    .st (.act none (.px (some 1) (.mv (.v 5)))) .done
@[simp] def W_laws_heldBoolS_3 := @C.wpe _ _ K_laws_heldBoolS_3.eq_1
def K_laws_heldBoolS_4 : C := .seq (.pl <| .st (.ext 4 0) <|
    .st (.act none (.px (some 2) (.mv (.c (.int .i64 (-1)))))) .done) (.ret)
@[simp] def W_laws_heldBoolS_4 := @C.wpe _ _ K_laws_heldBoolS_4.eq_1
def K_laws_heldBoolS_5 : C := .cond 4 (.v 11) K_laws_heldBoolS_4 (.skip)
@[simp] def W_laws_heldBoolS_5 := @C.wpe _ _ K_laws_heldBoolS_5.eq_1
def K_laws_heldBoolS_6 : C := .seq (.block 1 (.seq (.seq (.pl <| .st (.ext 4 8) <|
    .st (.act none (.px (some 4) (.mv (.v 0)))) <|
    .st (.act none (.px (some 5) (.mv (.v 3)))) <|
    .st (.act none (.px (some 6) (.ia 1 (.v 4) (.v 5)))) <|
    .st (.act none (.ld (some 7) (.v 6) none)) <|
    .st (.act none (.px (some 8) (.mv (.v 1)))) <|
    .st (.act none (.px (some 9) (.bin .rem (.v 8) (.c (.int .i64 3))))) <|
    .st (.act none (.px (some 10) (.bin .eql (.v 9) (.c (.int .i64 0))))) <|
    .st (.act none (.px (some 11) (.eqb true (.v 7) (.v 10)))) .done) K_laws_heldBoolS_5) K_laws_heldBoolS_3)) K_laws_heldBoolS_2
@[simp] def W_laws_heldBoolS_6 := @C.wpe _ _ K_laws_heldBoolS_6.eq_1
def K_laws_heldBoolS_7 : C := .cond 4 (.v 7) (.skip) (.exit 0)
@[simp] def W_laws_heldBoolS_7 := @C.wpe _ _ K_laws_heldBoolS_7.eq_1
def K_laws_heldBoolS_8 : C := .seq (.seq (.pl <| .st (.ext 4 4) <|
    .st (.act none (.px (some 4) (.mv (.v 3)))) <|
    .st (.act none (.px (some 5) (.mv (.v 0)))) <|
    .st (.act none (.px (some 6) (.lenV (.v 5)))) <|
    .st (.act none (.px (some 7) (.bin .lss (.v 4) (.v 6)))) .done) K_laws_heldBoolS_7) K_laws_heldBoolS_6
@[simp] def W_laws_heldBoolS_8 := @C.wpe _ _ K_laws_heldBoolS_8.eq_1
def K_laws_heldBoolS_9 : C := .block 0 (.loop 4 [2] K_laws_heldBoolS_8)
@[simp] def W_laws_heldBoolS_9 := @C.wpe _ _ K_laws_heldBoolS_9.eq_1
def K_laws_heldBoolS_10 : C := .seq (.seq (.pl <| .st (.ext 4 0) <|
    .st (.act none (.px (some 3) (.mv (.c (.int .i64 0))))) .done) K_laws_heldBoolS_9) K_laws_heldBoolS_1
@[simp] def W_laws_heldBoolS_10 := @C.wpe _ _ K_laws_heldBoolS_10.eq_1
def B_laws_heldBoolS : C := .seq (.pl <| .st (.ext 4 0) <|
    .st (.act none (.px (some 2) (.mv (.c (.int .i64 0))))) .done) K_laws_heldBoolS_10
@[simp] def WB_laws_heldBoolS := @C.wpe _ _ B_laws_heldBoolS.eq_1
def R_laws_heldBoolS : FIR := ⟨B_laws_heldBoolS, 4, [(2, none)]⟩
theorem IR_laws_heldBoolS : cfun Try.prog H_laws_heldBoolS Try.f37 = some R_laws_heldBoolS := by kernel_rfl
theorem EN_laws_heldBoolS {args : List Value} {h : Heap} {k : Value → Heap → Prop} (hargs : args.length = 2) (hw : B_laws_heldBoolS.wp Try.prog (retQ [(2, none)] k) (env0 args 4) h) : CallE Try.prog fn_laws_heldBoolS args h k := enter Try.func37 rfl IR_laws_heldBoolS hargs hw

def H_laws_heldBoolSS : Hint := ⟨[(0, false), (1, false), (4, false), (5, false)], [[2]]⟩
def K_laws_heldBoolSS_1 : C := .seq (.pl <| .st (.ext 4 1) <|
    .st (.act none (.px (some 4) (.mv (.v 1)))) <|
    .st (.act none (.px (some 2) (.mv (.v 4)))) .done) (.ret)
@[simp] def W_laws_heldBoolSS_1 := @C.wpe _ _ K_laws_heldBoolSS_1.eq_1
def K_laws_heldBoolSS_2 : C := .pl <| .st (.ext 4 2) <|
    .st (.act none (.px (some 4) (.mv (.v 3)))) <|
    .st (.act none (.px (some 5) (.bin .add (.v 4) (.c (.int .i64 1))))) <|
    .st (.act none (.px (some 3) (.mv (.v 5)))) .done
@[simp] def W_laws_heldBoolSS_2 := @C.wpe _ _ K_laws_heldBoolSS_2.eq_1
def K_laws_heldBoolSS_3 : C := .seq (.pl <| .st (.ext 4 0) <|
    .st (.act none (.px (some 2) (.mv (.c (.int .i64 (-1)))))) .done) (.ret)
@[simp] def W_laws_heldBoolSS_3 := @C.wpe _ _ K_laws_heldBoolSS_3.eq_1
def K_laws_heldBoolSS_4 : C := .cond 4 (.v 5) K_laws_heldBoolSS_3 (.skip)
@[simp] def W_laws_heldBoolSS_4 := @C.wpe _ _ K_laws_heldBoolSS_4.eq_1
def K_laws_heldBoolSS_5 : C := .seq (.pl <| .st (.ext 4 2) <|
    .st (.act none (.px (some 4) (.mv (.v 1)))) <|
    .st (.act none (.px (some 5) (.bin .lss (.v 4) (.c (.int .i64 0))))) .done) K_laws_heldBoolSS_4
@[simp] def W_laws_heldBoolSS_5 := @C.wpe _ _ K_laws_heldBoolSS_5.eq_1
def K_laws_heldBoolSS_6 : Pl := .st (.act none (.px (some 1) (.mv (.v 9)))) .done
@[simp] def W_laws_heldBoolSS_6 := @Pl.wpe _ _ K_laws_heldBoolSS_6.eq_1
def K_laws_heldBoolSS_7 : C := .seq (.block 1 (.seq (.pl <| .st (.ext 4 6) <|
    .st (.act none (.px (some 4) (.mv (.v 0)))) <|
    .st (.act none (.px (some 5) (.mv (.v 3)))) <|
    .st (.act none (.px (some 6) (.ia 1 (.v 4) (.v 5)))) <|
    .st (.act none (.ld (some 7) (.v 6) none)) <|
    .st (.act none (.px (some 8) (.mv (.v 1)))) <|
    .st (.act none (.ex (some 9) (.call fn_laws_heldBoolS [.v 7, .v 8]))) K_laws_heldBoolSS_6) K_laws_heldBoolSS_5)) K_laws_heldBoolSS_2
@[simp] def W_laws_heldBoolSS_7 := @C.wpe _ _ K_laws_heldBoolSS_7.eq_1
def K_laws_heldBoolSS_8 : C := .cond 4 (.v 7) (.skip) (.exit 0)
@[simp] def W_laws_heldBoolSS_8 := @C.wpe _ _ K_laws_heldBoolSS_8.eq_1
def K_laws_heldBoolSS_9 : C := .seq (.seq (.pl <| .st (.ext 4 4) <|
    .st (.act none (.px (some 4) (.mv (.v 3)))) <|
    .st (.act none (.px (some 5) (.mv (.v 0)))) <|
    .st (.act none (.px (some 6) (.lenV (.v 5)))) <|
    .st (.act none (.px (some 7) (.bin .lss (.v 4) (.v 6)))) .done) K_laws_heldBoolSS_8) K_laws_heldBoolSS_7
@[simp] def W_laws_heldBoolSS_9 := @C.wpe _ _ K_laws_heldBoolSS_9.eq_1
def K_laws_heldBoolSS_10 : C := .block 0 (.loop 4 [2] K_laws_heldBoolSS_9)
@[simp] def W_laws_heldBoolSS_10 := @C.wpe _ _ K_laws_heldBoolSS_10.eq_1
def K_laws_heldBoolSS_11 : C := .seq (.seq (.pl <| .st (.ext 4 0) <|
    .st (.act none (.px (some 3) (.mv (.c (.int .i64 0))))) .done) K_laws_heldBoolSS_10) K_laws_heldBoolSS_1
@[simp] def W_laws_heldBoolSS_11 := @C.wpe _ _ K_laws_heldBoolSS_11.eq_1
def B_laws_heldBoolSS : C := .seq (.pl <| .st (.ext 4 0) <|
    .st (.act none (.px (some 2) (.mv (.c (.int .i64 0))))) .done) K_laws_heldBoolSS_11
@[simp] def WB_laws_heldBoolSS := @C.wpe _ _ B_laws_heldBoolSS.eq_1
def R_laws_heldBoolSS : FIR := ⟨B_laws_heldBoolSS, 4, [(2, none)]⟩
theorem IR_laws_heldBoolSS : cfun Try.prog H_laws_heldBoolSS Try.f15 = some R_laws_heldBoolSS := by kernel_rfl
theorem EN_laws_heldBoolSS {args : List Value} {h : Heap} {k : Value → Heap → Prop} (hargs : args.length = 2) (hw : B_laws_heldBoolSS.wp Try.prog (retQ [(2, none)] k) (env0 args 4) h) : CallE Try.prog fn_laws_heldBoolSS args h k := enter Try.func15 rfl IR_laws_heldBoolSS hargs hw

def H_laws_markAutomaton : Hint := ⟨[(0, false), (1, false), (2, true), (4, false)], []⟩
def K_laws_markAutomaton_1 : C := .seq (.pl <| .st (.ext 4 1) <|
    .st (.act none (.px (some 4) (.mv (.v 1)))) <|
    .st (.act none (.px (some 3) (.mv (.v 4)))) .done) (.ret)
@[simp] def W_laws_markAutomaton_1 := @C.wpe _ _ K_laws_markAutomaton_1.eq_1
def K_laws_markAutomaton_2 : Pl := .st (.act none (.px (some 1) (.mv (.v 7)))) .done
@[simp] def W_laws_markAutomaton_2 := @Pl.wpe _ _ K_laws_markAutomaton_2.eq_1
def K_laws_markAutomaton_3 : C := .seq (.pl <| .st (.ext 4 4) <|
    .st (.act none (.als 4 none 2)) <|
    .st (.act none (.pget (some 5) (some 4) 2 2 none)) <|
    .st (.act none (.px (some 6) (.mv (.v 1)))) <|
    .st (.act none (.ex (some 7) (.call fn_laws_markTransitionS [.v 5, .v 6]))) K_laws_markAutomaton_2) K_laws_markAutomaton_1
@[simp] def W_laws_markAutomaton_3 := @C.wpe _ _ K_laws_markAutomaton_3.eq_1
def K_laws_markAutomaton_4 : Pl := .st (.act none (.px (some 1) (.mv (.v 7)))) .done
@[simp] def W_laws_markAutomaton_4 := @Pl.wpe _ _ K_laws_markAutomaton_4.eq_1
def K_laws_markAutomaton_5 : C := .seq (.pl <| .st (.ext 4 4) <|
    .st (.act none (.als 4 none 2)) <|
    .st (.act none (.pget (some 5) (some 4) 2 1 none)) <|
    .st (.act none (.px (some 6) (.mv (.v 1)))) <|
    .st (.act none (.ex (some 7) (.call fn_laws_markBoolS [.v 5, .v 6]))) K_laws_markAutomaton_4) K_laws_markAutomaton_3
@[simp] def W_laws_markAutomaton_5 := @C.wpe _ _ K_laws_markAutomaton_5.eq_1
def K_laws_markAutomaton_6 : Pl := .st (.act none (.px (some 1) (.mv (.v 7)))) .done
@[simp] def W_laws_markAutomaton_6 := @Pl.wpe _ _ K_laws_markAutomaton_6.eq_1
def K_laws_markAutomaton_7 : C := .seq (.pl <| .st (.ext 4 4) <|
    .st (.act none (.als 4 none 2)) <|
    .st (.act none (.pget (some 5) (some 4) 2 0 none)) <|
    .st (.act none (.px (some 6) (.mv (.v 1)))) <|
    .st (.act none (.ex (some 7) (.call fn_laws_markIntS [.v 5, .v 6]))) K_laws_markAutomaton_6) K_laws_markAutomaton_5
@[simp] def W_laws_markAutomaton_7 := @C.wpe _ _ K_laws_markAutomaton_7.eq_1
def B_laws_markAutomaton : C := .seq (.pl <| .st (.ext 4 0) <|
    .st (.act none (.pnew 2 (.v 0) [])) <|
    .st (.act none (.px (some 3) (.mv (.c (.int .i64 0))))) .done) K_laws_markAutomaton_7
@[simp] def WB_laws_markAutomaton := @C.wpe _ _ B_laws_markAutomaton.eq_1
def R_laws_markAutomaton : FIR := ⟨B_laws_markAutomaton, 4, [(3, none)]⟩
theorem IR_laws_markAutomaton : cfun Try.prog H_laws_markAutomaton Try.f13 = some R_laws_markAutomaton := by kernel_rfl
theorem EN_laws_markAutomaton {args : List Value} {h : Heap} {k : Value → Heap → Prop} (hargs : args.length = 2) (hw : B_laws_markAutomaton.wp Try.prog (retQ [(3, none)] k) (env0 args 4) h) : CallE Try.prog fn_laws_markAutomaton args h k := enter Try.func13 rfl IR_laws_markAutomaton hargs hw

def H_laws_markBoolS : Hint := ⟨[(0, false), (1, false), (4, false), (5, false)], [[2]]⟩
def K_laws_markBoolS_1 : C := .seq (.pl <| .st (.ext 4 1) <|
    .st (.act none (.px (some 4) (.mv (.v 1)))) <|
    .st (.act none (.px (some 2) (.mv (.v 4)))) .done) (.ret)
@[simp] def W_laws_markBoolS_1 := @C.wpe _ _ K_laws_markBoolS_1.eq_1
def K_laws_markBoolS_2 : C := .pl <| .st (.ext 4 2) <|
    .st (.act none (.px (some 4) (.mv (.v 3)))) <|
    .st (.act none (.px (some 5) (.bin .add (.v 4) (.c (.int .i64 1))))) <|
    .st (.act none (.px (some 3) (.mv (.v 5)))) .done
@[simp] def W_laws_markBoolS_2 := @C.wpe _ _ K_laws_markBoolS_2.eq_1
def K_laws_markBoolS_3 : C := .pl <| .st (.ext 4 2) <|
    .st (.act none (.px (some 4) (.mv (.v 1)))) <|
    .st (.act none (.px (some 5) (.bin .add (.v 4) (.c (.int .i64 1))))) <|
    .st (.act none (.px (some 1) (.mv (.v 5)))) .done
@[simp] def W_laws_markBoolS_3 := @C.wpe _ _ K_laws_markBoolS_3.eq_1
def K_laws_markBoolS_4 : C := .seq (.block 1 (.seq (.pl <| .st (.ext 4 6) <|
    .st (.act none (.px (some 4) (.mv (.v 0)))) <|
    .st (.act none (.px (some 5) (.mv (.v 3)))) <|
    .st (.act none (.px (some 6) (.mv (.v 1)))) <|
    .st (.act none (.px (some 7) (.bin .rem (.v 6) (.c (.int .i64 3))))) <|
    .st (.act none (.px (some 8) (.bin .eql (.v 7) (.c (.int .i64 0))))) <|
    .st (.act none (.px (some 9) (.ia 1 (.v 4) (.v 5)))) <|
    .st (.act none (.ex none (.store 1 (.v 9) (.v 8)))) .done) K_laws_markBoolS_3)) K_laws_markBoolS_2
@[simp] def W_laws_markBoolS_4 := @C.wpe _ _ K_laws_markBoolS_4.eq_1
def K_laws_markBoolS_5 : C := .cond 4 (.v 7) (.skip) (.exit 0)
@[simp] def W_laws_markBoolS_5 := @C.wpe _ _ K_laws_markBoolS_5.eq_1
def K_laws_markBoolS_6 : C := .seq (.seq (.pl <| .st (.ext 4 4) <|
    .st (.act none (.px (some 4) (.mv (.v 3)))) <|
    .st (.act none (.px (some 5) (.mv (.v 0)))) <|
    .st (.act none (.px (some 6) (.lenV (.v 5)))) <|
    .st (.act none (.px (some 7) (.bin .lss (.v 4) (.v 6)))) .done) K_laws_markBoolS_5) K_laws_markBoolS_4
@[simp] def W_laws_markBoolS_6 := @C.wpe _ _ K_laws_markBoolS_6.eq_1
def K_laws_markBoolS_7 : C := .block 0 (.loop 4 [2] K_laws_markBoolS_6)
@[simp] def W_laws_markBoolS_7 := @C.wpe _ _ K_laws_markBoolS_7.eq_1
def K_laws_markBoolS_8 : C := .seq (.seq (.pl <| .st (.ext 4 0) <|
    .st (.act none (.px (some 3) (.mv (.c (.int .i64 0))))) .done) K_laws_markBoolS_7) K_laws_markBoolS_1
@[simp] def W_laws_markBoolS_8 := @C.wpe _ _ K_laws_markBoolS_8.eq_1
def B_laws_markBoolS : C := .seq (.pl <| .st (.ext 4 0) <|
    .st (.act none (.px (some 2) (.mv (.c (.int .i64 0))))) .done) K_laws_markBoolS_8
@[simp] def WB_laws_markBoolS := @C.wpe _ _ B_laws_markBoolS.eq_1
def R_laws_markBoolS : FIR := ⟨B_laws_markBoolS, 4, [(2, none)]⟩
theorem IR_laws_markBoolS : cfun Try.prog H_laws_markBoolS Try.f35 = some R_laws_markBoolS := by kernel_rfl
theorem EN_laws_markBoolS {args : List Value} {h : Heap} {k : Value → Heap → Prop} (hargs : args.length = 2) (hw : B_laws_markBoolS.wp Try.prog (retQ [(2, none)] k) (env0 args 4) h) : CallE Try.prog fn_laws_markBoolS args h k := enter Try.func35 rfl IR_laws_markBoolS hargs hw

def H_laws_markBoolSS : Hint := ⟨[(0, false), (1, false), (4, false), (5, false)], [[2]]⟩
def K_laws_markBoolSS_1 : C := .seq (.pl <| .st (.ext 4 1) <|
    .st (.act none (.px (some 4) (.mv (.v 1)))) <|
    .st (.act none (.px (some 2) (.mv (.v 4)))) .done) (.ret)
@[simp] def W_laws_markBoolSS_1 := @C.wpe _ _ K_laws_markBoolSS_1.eq_1
def K_laws_markBoolSS_2 : C := .pl <| .st (.ext 4 2) <|
    .st (.act none (.px (some 4) (.mv (.v 3)))) <|
    .st (.act none (.px (some 5) (.bin .add (.v 4) (.c (.int .i64 1))))) <|
    .st (.act none (.px (some 3) (.mv (.v 5)))) .done
@[simp] def W_laws_markBoolSS_2 := @C.wpe _ _ K_laws_markBoolSS_2.eq_1
def K_laws_markBoolSS_3 : Pl := .st (.act none (.px (some 1) (.mv (.v 9)))) .done
@[simp] def W_laws_markBoolSS_3 := @Pl.wpe _ _ K_laws_markBoolSS_3.eq_1
def K_laws_markBoolSS_4 : C := .seq (.block 1 (.pl <| .st (.ext 4 6) <|
    .st (.act none (.px (some 4) (.mv (.v 0)))) <|
    .st (.act none (.px (some 5) (.mv (.v 3)))) <|
    .st (.act none (.px (some 6) (.ia 1 (.v 4) (.v 5)))) <|
    .st (.act none (.ld (some 7) (.v 6) none)) <|
    .st (.act none (.px (some 8) (.mv (.v 1)))) <|
    .st (.act none (.ex (some 9) (.call fn_laws_markBoolS [.v 7, .v 8]))) K_laws_markBoolSS_3)) K_laws_markBoolSS_2
@[simp] def W_laws_markBoolSS_4 := @C.wpe _ _ K_laws_markBoolSS_4.eq_1
def K_laws_markBoolSS_5 : C := .cond 4 (.v 7) (.skip) (.exit 0)
@[simp] def W_laws_markBoolSS_5 := @C.wpe _ _ K_laws_markBoolSS_5.eq_1
def K_laws_markBoolSS_6 : C := .seq (.seq (.pl <| .st (.ext 4 4) <|
    .st (.act none (.px (some 4) (.mv (.v 3)))) <|
    .st (.act none (.px (some 5) (.mv (.v 0)))) <|
    .st (.act none (.px (some 6) (.lenV (.v 5)))) <|
    .st (.act none (.px (some 7) (.bin .lss (.v 4) (.v 6)))) .done) K_laws_markBoolSS_5) K_laws_markBoolSS_4
@[simp] def W_laws_markBoolSS_6 := @C.wpe _ _ K_laws_markBoolSS_6.eq_1
def K_laws_markBoolSS_7 : C := .block 0 (.loop 4 [2] K_laws_markBoolSS_6)
@[simp] def W_laws_markBoolSS_7 := @C.wpe _ _ K_laws_markBoolSS_7.eq_1
def K_laws_markBoolSS_8 : C := .seq (.seq (.pl <| .st (.ext 4 0) <|
    .st (.act none (.px (some 3) (.mv (.c (.int .i64 0))))) .done) K_laws_markBoolSS_7) K_laws_markBoolSS_1
@[simp] def W_laws_markBoolSS_8 := @C.wpe _ _ K_laws_markBoolSS_8.eq_1
def B_laws_markBoolSS : C := .seq (.pl <| .st (.ext 4 0) <|
    .st (.act none (.px (some 2) (.mv (.c (.int .i64 0))))) .done) K_laws_markBoolSS_8
@[simp] def WB_laws_markBoolSS := @C.wpe _ _ B_laws_markBoolSS.eq_1
def R_laws_markBoolSS : FIR := ⟨B_laws_markBoolSS, 4, [(2, none)]⟩
theorem IR_laws_markBoolSS : cfun Try.prog H_laws_markBoolSS Try.f14 = some R_laws_markBoolSS := by kernel_rfl
theorem EN_laws_markBoolSS {args : List Value} {h : Heap} {k : Value → Heap → Prop} (hargs : args.length = 2) (hw : B_laws_markBoolSS.wp Try.prog (retQ [(2, none)] k) (env0 args 4) h) : CallE Try.prog fn_laws_markBoolSS args h k := enter Try.func14 rfl IR_laws_markBoolSS hargs hw

def H_laws_markIntS : Hint := ⟨[(0, false), (1, false), (4, false), (5, false)], [[2]]⟩
def K_laws_markIntS_1 : C := .seq (.pl <| .st (.ext 4 1) <|
    .st (.act none (.px (some 4) (.mv (.v 1)))) <|
    .st (.act none (.px (some 2) (.mv (.v 4)))) .done) (.ret)
@[simp] def W_laws_markIntS_1 := @C.wpe _ _ K_laws_markIntS_1.eq_1
def K_laws_markIntS_2 : C := .pl <| .st (.ext 4 2) <|
    .st (.act none (.px (some 4) (.mv (.v 3)))) <|
    .st (.act none (.px (some 5) (.bin .add (.v 4) (.c (.int .i64 1))))) <|
    .st (.act none (.px (some 3) (.mv (.v 5)))) .done
@[simp] def W_laws_markIntS_2 := @C.wpe _ _ K_laws_markIntS_2.eq_1
def K_laws_markIntS_3 : C := .pl <| .st (.ext 4 2) <|
    .st (.act none (.px (some 4) (.mv (.v 1)))) <|
    .st (.act none (.px (some 5) (.bin .add (.v 4) (.c (.int .i64 1))))) <|
    .st (.act none (.px (some 1) (.mv (.v 5)))) .done
@[simp] def W_laws_markIntS_3 := @C.wpe _ _ K_laws_markIntS_3.eq_1
def K_laws_markIntS_4 : C := .seq (.block 1 (.seq (.pl <| .st (.ext 4 4) <|
    .st (.act none (.px (some 4) (.mv (.v 0)))) <|
    .st (.act none (.px (some 5) (.mv (.v 3)))) <|
    .st (.act none (.px (some 6) (.mv (.v 1)))) <|
    .st (.act none (.px (some 7) (.ia 1 (.v 4) (.v 5)))) <|
    .st (.act none (.ex none (.store 1 (.v 7) (.v 6)))) .done) K_laws_markIntS_3)) K_laws_markIntS_2
@[simp] def W_laws_markIntS_4 := @C.wpe _ _ K_laws_markIntS_4.eq_1
def K_laws_markIntS_5 : C := .cond 4 (.v 7) (.skip) (.exit 0)
@[simp] def W_laws_markIntS_5 := @C.wpe _ _ K_laws_markIntS_5.eq_1
def K_laws_markIntS_6 : C := .seq (.seq (.pl <| .st (.ext 4 4) <|
    .st (.act none (.px (some 4) (.mv (.v 3)))) <|
    .st (.act none (.px (some 5) (.mv (.v 0)))) <|
    .st (.act none (.px (some 6) (.lenV (.v 5)))) <|
    .st (.act none (.px (some 7) (.bin .lss (.v 4) (.v 6)))) .done) K_laws_markIntS_5) K_laws_markIntS_4
@[simp] def W_laws_markIntS_6 := @C.wpe _ _ K_laws_markIntS_6.eq_1
def K_laws_markIntS_7 : C := .block 0 (.loop 4 [2] K_laws_markIntS_6)
@[simp] def W_laws_markIntS_7 := @C.wpe _ _ K_laws_markIntS_7.eq_1
def K_laws_markIntS_8 : C := .seq (.seq (.pl <| .st (.ext 4 0) <|
    .st (.act none (.px (some 3) (.mv (.c (.int .i64 0))))) .done) K_laws_markIntS_7) K_laws_markIntS_1
@[simp] def W_laws_markIntS_8 := @C.wpe _ _ K_laws_markIntS_8.eq_1
def B_laws_markIntS : C := .seq (.pl <| .st (.ext 4 0) <|
    .st (.act none (.px (some 2) (.mv (.c (.int .i64 0))))) .done) K_laws_markIntS_8
@[simp] def WB_laws_markIntS := @C.wpe _ _ B_laws_markIntS.eq_1
def R_laws_markIntS : FIR := ⟨B_laws_markIntS, 4, [(2, none)]⟩
theorem IR_laws_markIntS : cfun Try.prog H_laws_markIntS Try.f34 = some R_laws_markIntS := by kernel_rfl
theorem EN_laws_markIntS {args : List Value} {h : Heap} {k : Value → Heap → Prop} (hargs : args.length = 2) (hw : B_laws_markIntS.wp Try.prog (retQ [(2, none)] k) (env0 args 4) h) : CallE Try.prog fn_laws_markIntS args h k := enter Try.func34 rfl IR_laws_markIntS hargs hw

def H_laws_markTransitionS : Hint := ⟨[(0, false), (1, false), (4, false), (5, false)], [[2]]⟩
def K_laws_markTransitionS_1 : C := .seq (.pl <| .st (.ext 4 1) <|
    .st (.act none (.px (some 4) (.mv (.v 1)))) <|
    .st (.act none (.px (some 2) (.mv (.v 4)))) .done) (.ret)
@[simp] def W_laws_markTransitionS_1 := @C.wpe _ _ K_laws_markTransitionS_1.eq_1
def K_laws_markTransitionS_2 : C := .pl <| .st (.ext 4 2) <|
    .st (.act none (.px (some 4) (.mv (.v 3)))) <|
    .st (.act none (.px (some 5) (.bin .add (.v 4) (.c (.int .i64 1))))) <|
    .st (.act none (.px (some 3) (.mv (.v 5)))) .done
@[simp] def W_laws_markTransitionS_2 := @C.wpe _ _ K_laws_markTransitionS_2.eq_1
def K_laws_markTransitionS_3 : C := .pl <| .st (.ext 4 2) <|
    .st (.act none (.px (some 4) (.mv (.v 1)))) <|
    .st (.act none (.px (some 5) (.bin .add (.v 4) (.c (.int .i64 1))))) <|
    .st (.act none (.px (some 1) (.mv (.v 5)))) .done
@[simp] def W_laws_markTransitionS_3 := @C.wpe _ _ K_laws_markTransitionS_3.eq_1
def K_laws_markTransitionS_4 : C := .seq (.pl <| .st (.ext 4 5) <|
    .st (.act none (.px (some 4) (.mv (.v 0)))) <|
    .st (.act none (.px (some 5) (.mv (.v 3)))) <|
    .st (.act none (.px (some 6) (.mv (.v 1)))) <|
    .st (.act none (.px (some 7) (.ia 4 (.v 4) (.v 5)))) <|
    .st (.act none (.px (some 8) (.fa 3 (.v 7)))) <|
    .st (.act none (.ex none (.store 1 (.v 8) (.v 6)))) .done) K_laws_markTransitionS_3
@[simp] def W_laws_markTransitionS_4 := @C.wpe _ _ K_laws_markTransitionS_4.eq_1
def K_laws_markTransitionS_5 : C := .seq (.pl <| .st (.ext 4 2) <|
    .st (.act none (.px (some 4) (.mv (.v 1)))) <|
    .st (.act none (.px (some 5) (.bin .add (.v 4) (.c (.int .i64 1))))) <|
    .st (.act none (.px (some 1) (.mv (.v 5)))) .done) K_laws_markTransitionS_4
@[simp] def W_laws_markTransitionS_5 := @C.wpe _ _ K_laws_markTransitionS_5.eq_1
def K_laws_markTransitionS_6 : C := .seq (.pl <| .st (.ext 4 5) <|
    .st (.act none (.px (some 4) (.mv (.v 0)))) <|
    .st (.act none (.px (some 5) (.mv (.v 3)))) <|
    .st (.act none (.px (some 6) (.mv (.v 1)))) <|
    .st (.act none (.px (some 7) (.ia 4 (.v 4) (.v 5)))) <|
    .st (.act none (.px (some 8) (.fa 2 (.v 7)))) <|
    .st (.act none (.ex none (.store 1 (.v 8) (.v 6)))) .done) K_laws_markTransitionS_5
@[simp] def W_laws_markTransitionS_6 := @C.wpe _ _ K_laws_markTransitionS_6.eq_1
def K_laws_markTransitionS_7 : C := .seq (.pl <| .st (.ext 4 2) <|
    .st (.act none (.px (some 4) (.mv (.v 1)))) <|
    .st (.act none (.px (some 5) (.bin .add (.v 4) (.c (.int .i64 1))))) <|
    .st (.act none (.px (some 1) (.mv (.v 5)))) .done) K_laws_markTransitionS_6
@[simp] def W_laws_markTransitionS_7 := @C.wpe _ _ K_laws_markTransitionS_7.eq_1
def K_laws_markTransitionS_8 : C := .seq (.pl <| .st (.ext 4 5) <|
    .st (.act none (.px (some 4) (.mv (.v 0)))) <|
    .st (.act none (.px (some 5) (.mv (.v 3)))) <|
    .st (.act none (.px (some 6) (.mv (.v 1)))) <|
    .st (.act none (.px (some 7) (.ia 4 (.v 4) (.v 5)))) <|
    .st (.act none (.px (some 8) (.fa 1 (.v 7)))) <|
    .st (.act none (.ex none (.store 1 (.v 8) (.v 6)))) .done) K_laws_markTransitionS_7
@[simp] def W_laws_markTransitionS_8 := @C.wpe _ _ K_laws_markTransitionS_8.eq_1
def K_laws_markTransitionS_9 : C := .seq (.pl <| .st (.ext 4 2) <|
    .st (.act none (.px (some 4) (.mv (.v 1)))) <|
    .st (.act none (.px (some 5) (.bin .add (.v 4) (.c (.int .i64 1))))) <|
    .st (.act none (.px (some 1) (.mv (.v 5)))) .done) K_laws_markTransitionS_8
@[simp] def W_laws_markTransitionS_9 := @C.wpe _ _ K_laws_markTransitionS_9.eq_1
def K_laws_markTransitionS_10 : C := .seq (.block 1 (.seq (.pl <| .st (.ext 4 5) <|
    .st (.act none (.px (some 4) (.mv (.v 0)))) <|
    .st (.act none (.px (some 5) (.mv (.v 3)))) <|
    .st (.act none (.px (some 6) (.mv (.v 1)))) <|
    .st (.act none (.px (some 7) (.ia 4 (.v 4) (.v 5)))) <|
    .st (.act none (.px (some 8) (.fa 0 (.v 7)))) <|
    .st (.act none (.ex none (.store 1 (.v 8) (.v 6)))) .done) K_laws_markTransitionS_9)) K_laws_markTransitionS_2
@[simp] def W_laws_markTransitionS_10 := @C.wpe _ _ K_laws_markTransitionS_10.eq_1
def K_laws_markTransitionS_11 : C := .cond 4 (.v 7) (.skip) (.exit 0)
@[simp] def W_laws_markTransitionS_11 := @C.wpe _ _ K_laws_markTransitionS_11.eq_1
def K_laws_markTransitionS_12 : C := .seq (.seq (.pl <| .st (.ext 4 4) <|
    .st (.act none (.px (some 4) (.mv (.v 3)))) <|
    .st (.act none (.px (some 5) (.mv (.v 0)))) <|
    .st (.act none (.px (some 6) (.lenV (.v 5)))) <|
    .st (.act none (.px (some 7) (.bin .lss (.v 4) (.v 6)))) .done) K_laws_markTransitionS_11) K_laws_markTransitionS_10
@[simp] def W_laws_markTransitionS_12 := @C.wpe _ _ K_laws_markTransitionS_12.eq_1
def K_laws_markTransitionS_13 : C := .block 0 (.loop 4 [2] K_laws_markTransitionS_12)
@[simp] def W_laws_markTransitionS_13 := @C.wpe _ _ K_laws_markTransitionS_13.eq_1
def K_laws_markTransitionS_14 : C := .seq (.seq (.pl <| .st (.ext 4 0) <|
    .st (.act none (.px (some 3) (.mv (.c (.int .i64 0))))) .done) K_laws_markTransitionS_13) K_laws_markTransitionS_1
@[simp] def W_laws_markTransitionS_14 := @C.wpe _ _ K_laws_markTransitionS_14.eq_1
def B_laws_markTransitionS : C := .seq (.pl <| .st (.ext 4 0) <|
    .st (.act none (.px (some 2) (.mv (.c (.int .i64 0))))) .done) K_laws_markTransitionS_14
@[simp] def WB_laws_markTransitionS := @C.wpe _ _ B_laws_markTransitionS.eq_1
def R_laws_markTransitionS : FIR := ⟨B_laws_markTransitionS, 4, [(2, none)]⟩
theorem IR_laws_markTransitionS : cfun Try.prog H_laws_markTransitionS Try.f36 = some R_laws_markTransitionS := by kernel_rfl
theorem EN_laws_markTransitionS {args : List Value} {h : Heap} {k : Value → Heap → Prop} (hargs : args.length = 2) (hw : B_laws_markTransitionS.wp Try.prog (retQ [(2, none)] k) (env0 args 4) h) : CallE Try.prog fn_laws_markTransitionS args h k := enter Try.func36 rfl IR_laws_markTransitionS hargs hw

def H_laws_szAutomaton : Hint := ⟨[(0, false), (1, false), (2, true), (4, false)], []⟩
def K_laws_szAutomaton_1 : C := .seq (.pl <| .st (.ext 4 1) <|
    .st (.act none (.px (some 4) (.mv (.v 1)))) <|
    .st (.act none (.px (some 3) (.mv (.v 4)))) .done) (.ret)
@[simp] def W_laws_szAutomaton_1 := @C.wpe _ _ K_laws_szAutomaton_1.eq_1
def K_laws_szAutomaton_2 : C := .seq (.pl <| .st (.ext 4 0) <|
    .st (.act none (.px (some 3) (.mv (.c (.int .i64 (-1)))))) .done) (.ret)
@[simp] def W_laws_szAutomaton_2 := @C.wpe _ _ K_laws_szAutomaton_2.eq_1
def K_laws_szAutomaton_3 : C := .cond 4 (.v 5) K_laws_szAutomaton_2 (.skip)
@[simp] def W_laws_szAutomaton_3 := @C.wpe _ _ K_laws_szAutomaton_3.eq_1
def K_laws_szAutomaton_4 : C := .seq (.seq (.pl <| .st (.ext 4 2) <|
    .st (.act none (.px (some 4) (.mv (.v 1)))) <|
    .st (.act none (.px (some 5) (.bin .lss (.v 4) (.c (.int .i64 0))))) .done) K_laws_szAutomaton_3) K_laws_szAutomaton_1
@[simp] def W_laws_szAutomaton_4 := @C.wpe _ _ K_laws_szAutomaton_4.eq_1
def K_laws_szAutomaton_5 : Pl := .st (.act none (.px (some 1) (.mv (.v 7)))) .done
@[simp] def W_laws_szAutomaton_5 := @Pl.wpe _ _ K_laws_szAutomaton_5.eq_1
def K_laws_szAutomaton_6 : C := .seq (.pl <| .st (.ext 4 4) <|
    .st (.act none (.als 4 none 2)) <|
    .st (.act none (.pget (some 5) (some 4) 2 2 none)) <|
    .st (.act none (.px (some 6) (.mv (.v 1)))) <|
    .st (.act none (.ex (some 7) (.call fn_laws_szTransitionS [.v 5, .v 6]))) K_laws_szAutomaton_5) K_laws_szAutomaton_4
@[simp] def W_laws_szAutomaton_6 := @C.wpe _ _ K_laws_szAutomaton_6.eq_1
def K_laws_szAutomaton_7 : C := .seq (.pl <| .st (.ext 4 0) <|
    .st (.act none (.px (some 3) (.mv (.c (.int .i64 (-1)))))) .done) (.ret)
@[simp] def W_laws_szAutomaton_7 := @C.wpe _ _ K_laws_szAutomaton_7.eq_1
def K_laws_szAutomaton_8 : C := .cond 4 (.v 5) K_laws_szAutomaton_7 (.skip)
@[simp] def W_laws_szAutomaton_8 := @C.wpe _ _ K_laws_szAutomaton_8.eq_1
def K_laws_szAutomaton_9 : C := .seq (.seq (.pl <| .st (.ext 4 2) <|
    .st (.act none (.px (some 4) (.mv (.v 1)))) <|
    .st (.act none (.px (some 5) (.bin .lss (.v 4) (.c (.int .i64 0))))) .done) K_laws_szAutomaton_8) K_laws_szAutomaton_6
@[simp] def W_laws_szAutomaton_9 := @C.wpe _ _ K_laws_szAutomaton_9.eq_1
def K_laws_szAutomaton_10 : Pl := .st (.act none (.px (some 1) (.mv (.v 7)))) .done
@[simp] def W_laws_szAutomaton_10 := @Pl.wpe _ _ K_laws_szAutomaton_10.eq_1
def K_laws_szAutomaton_11 : C := .seq (.pl <| .st (.ext 4 4) <|
    .st (.act none (.als 4 none 2)) <|
    .st (.act none (.pget (some 5) (some 4) 2 1 none)) <|
    .st (.act none (.px (some 6) (.mv (.v 1)))) <|
    .st (.act none (.ex (some 7) (.call fn_laws_szBoolS [.v 5, .v 6]))) K_laws_szAutomaton_10) K_laws_szAutomaton_9
@[simp] def W_laws_szAutomaton_11 := @C.wpe _ _ K_laws_szAutomaton_11.eq_1
def K_laws_szAutomaton_12 : C := .seq (.pl <| .st (.ext 4 0) <|
    .st (.act none (.px (some 3) (.mv (.c (.int .i64 (-1)))))) .done) (.ret)
@[simp] def W_laws_szAutomaton_12 := @C.wpe _ _ K_laws_szAutomaton_12.eq_1
def K_laws_szAutomaton_13 : C := .cond 4 (.v 5) K_laws_szAutomaton_12 (.skip)
@[simp] def W_laws_szAutomaton_13 := @C.wpe _ _ K_laws_szAutomaton_13.eq_1
def K_laws_szAutomaton_14 : C := .seq (.seq (.pl <| .st (.ext 4 2) <|
    .st (.act none (.px (some 4) (.mv (.v 1)))) <|
    .st (.act none (.px (some 5) (.bin .lss (.v 4) (.c (.int .i64 0))))) .done) K_laws_szAutomaton_13) K_laws_szAutomaton_11
@[simp] def W_laws_szAutomaton_14 := @C.wpe _ _ K_laws_szAutomaton_14.eq_1
def K_laws_szAutomaton_15 : Pl := .st (.act none (.px (some 1) (.mv (.v 7)))) .done
@[simp] def W_laws_szAutomaton_15 := @Pl.wpe _ _ K_laws_szAutomaton_15.eq_1
def K_laws_szAutomaton_16 : C := .seq (.pl <| .st (.ext 4 4) <|
    .st (.act none (.als 4 none 2)) <|
    .st (.act none (.pget (some 5) (some 4) 2 0 none)) <|
    .st (.act none (.px (some 6) (.mv (.v 1)))) <|
    .st (.act none (.ex (some 7) (.call fn_laws_szIntS [.v 5, .v 6]))) K_laws_szAutomaton_15) K_laws_szAutomaton_14
@[simp] def W_laws_szAutomaton_16 := @C.wpe _ _ K_laws_szAutomaton_16.eq_1
def B_laws_szAutomaton : C := .seq (.pl <| .st (.ext 4 0) <|
    .st (.act none (.pnew 2 (.v 0) [])) <|
    .st (.act none (.px (some 3) (.mv (.c (.int .i64 0))))) .done) K_laws_szAutomaton_16
@[simp] def WB_laws_szAutomaton := @C.wpe _ _ B_laws_szAutomaton.eq_1
def R_laws_szAutomaton : FIR := ⟨B_laws_szAutomaton, 4, [(3, none)]⟩
theorem IR_laws_szAutomaton : cfun Try.prog H_laws_szAutomaton Try.f5 = some R_laws_szAutomaton := by kernel_rfl
theorem EN_laws_szAutomaton {args : List Value} {h : Heap} {k : Value → Heap → Prop} (hargs : args.length = 2) (hw : B_laws_szAutomaton.wp Try.prog (retQ [(3, none)] k) (env0 args 4) h) : CallE Try.prog fn_laws_szAutomaton args h k := enter Try.func5 rfl IR_laws_szAutomaton hargs hw

def H_laws_szBoolS : Hint := ⟨[(0, false), (1, false), (4, false)], []⟩
def K_laws_szBoolS_1 : C := .seq (.pl <| .st (.ext 3 1) <|
    .st (.act none (.px (some 3) (.mv (.v 1)))) <|
    .st (.act none (.px (some 2) (.mv (.v 3)))) .done) (.ret)
@[simp] def W_laws_szBoolS_1 := @C.wpe _ _ K_laws_szBoolS_1.eq_1
def K_laws_szBoolS_2 : C := .seq (.pl <| .st (.ext 3 0) <|
    .st (.act none (.px (some 2) (.mv (.c (.int .i64 (-1)))))) .done) (.ret)
@[simp] def W_laws_szBoolS_2 := @C.wpe _ _ K_laws_szBoolS_2.eq_1
def K_laws_szBoolS_3 : C := .cond 3 (.v 4) K_laws_szBoolS_2 (.skip)
@[simp] def W_laws_szBoolS_3 := @C.wpe _ _ K_laws_szBoolS_3.eq_1
def K_laws_szBoolS_4 : C := .seq (.seq (.pl <| .st (.ext 3 2) <|
    .st (.act none (.px (some 3) (.mv (.v 1)))) <|
    .st (.act none (.px (some 4) (.bin .lss (.v 3) (.c (.int .i64 0))))) .done) K_laws_szBoolS_3) K_laws_szBoolS_1
@[simp] def W_laws_szBoolS_4 := @C.wpe _ _ K_laws_szBoolS_4.eq_1
def K_laws_szBoolS_5 : C := .seq (.pl <| .st (.ext 3 4) <|
    .st (.act none (.px (some 3) (.mv (.v 1)))) <|
    .st (.act none (.px (some 4) (.mv (.v 0)))) <|
    .st (.act none (.px (some 5) (.lenV (.v 4)))) <|
    .st (.act none (.px (some 6) (.bin .sub (.v 3) (.v 5)))) <|
    .st (.act none (.px (some 1) (.mv (.v 6)))) .done) K_laws_szBoolS_4
@[simp] def W_laws_szBoolS_5 := @C.wpe _ _ K_laws_szBoolS_5.eq_1
def B_laws_szBoolS : C := .seq (.pl <| .st (.ext 3 0) <|
    .st (.act none (.px (some 2) (.mv (.c (.int .i64 0))))) .done) K_laws_szBoolS_5
@[simp] def WB_laws_szBoolS := @C.wpe _ _ B_laws_szBoolS.eq_1
def R_laws_szBoolS : FIR := ⟨B_laws_szBoolS, 3, [(2, none)]⟩
theorem IR_laws_szBoolS : cfun Try.prog H_laws_szBoolS Try.f17 = some R_laws_szBoolS := by kernel_rfl
theorem EN_laws_szBoolS {args : List Value} {h : Heap} {k : Value → Heap → Prop} (hargs : args.length = 2) (hw : B_laws_szBoolS.wp Try.prog (retQ [(2, none)] k) (env0 args 3) h) : CallE Try.prog fn_laws_szBoolS args h k := enter Try.func17 rfl IR_laws_szBoolS hargs hw

def H_laws_szIntS : Hint := ⟨[(0, false), (1, false), (4, false)], []⟩
def K_laws_szIntS_1 : C := .seq (.pl <| .st (.ext 3 1) <|
    .st (.act none (.px (some 3) (.mv (.v 1)))) <|
    .st (.act none (.px (some 2) (.mv (.v 3)))) .done) (.ret)
@[simp] def W_laws_szIntS_1 := @C.wpe _ _ K_laws_szIntS_1.eq_1
def K_laws_szIntS_2 : C := .seq (.pl <| .st (.ext 3 0) <|
    .st (.act none (.px (some 2) (.mv (.c (.int .i64 (-1)))))) .done) (.ret)
@[simp] def W_laws_szIntS_2 := @C.wpe _ _ K_laws_szIntS_2.eq_1
def K_laws_szIntS_3 : C := .cond 3 (.v 4) K_laws_szIntS_2 (.skip)
@[simp] def W_laws_szIntS_3 := @C.wpe _ _ K_laws_szIntS_3.eq_1
def K_laws_szIntS_4 : C := .seq (.seq (.pl <| .st (.ext 3 2) <|
    .st (.act none (.px (some 3) (.mv (.v 1)))) <|
    .st (.act none (.px (some 4) (.bin .lss (.v 3) (.c (.int .i64 0))))) .done) K_laws_szIntS_3) K_laws_szIntS_1
@[simp] def W_laws_szIntS_4 := @C.wpe _ _ K_laws_szIntS_4.eq_1
def K_laws_szIntS_5 : C := .seq (.pl <| .st (.ext 3 4) <|
    .st (.act none (.px (some 3) (.mv (.v 1)))) <|
    .st (.act none (.px (some 4) (.mv (.v 0)))) <|
    .st (.act none (.px (some 5) (.lenV (.v 4)))) <|
    .st (.act none (.px (some 6) (.bin .sub (.v 3) (.v 5)))) <|
    .st (.act none (.px (some 1) (.mv (.v 6)))) .done) K_laws_szIntS_4
@[simp] def W_laws_szIntS_5 := @C.wpe _ _ K_laws_szIntS_5.eq_1
def B_laws_szIntS : C := .seq (.pl <| .st (.ext 3 0) <|
    .st (.act none (.px (some 2) (.mv (.c (.int .i64 0))))) .done) K_laws_szIntS_5
@[simp] def WB_laws_szIntS := @C.wpe _ _ B_laws_szIntS.eq_1
def R_laws_szIntS : FIR := ⟨B_laws_szIntS, 3, [(2, none)]⟩
theorem IR_laws_szIntS : cfun Try.prog H_laws_szIntS Try.f16 = some R_laws_szIntS := by kernel_rfl
theorem EN_laws_szIntS {args : List Value} {h : Heap} {k : Value → Heap → Prop} (hargs : args.length = 2) (hw : B_laws_szIntS.wp Try.prog (retQ [(2, none)] k) (env0 args 3) h) : CallE Try.prog fn_laws_szIntS args h k := enter Try.func16 rfl IR_laws_szIntS hargs hw

def H_laws_szTransitionS : Hint := ⟨[(0, false), (1, false), (4, false)], []⟩
def K_laws_szTransitionS_1 : C := .seq (.pl <| .st (.ext 3 1) <|
    .st (.act none (.px (some 3) (.mv (.v 1)))) <|
    .st (.act none (.px (some 2) (.mv (.v 3)))) .done) (.ret)
@[simp] def W_laws_szTransitionS_1 := @C.wpe _ _ K_laws_szTransitionS_1.eq_1
def K_laws_szTransitionS_2 : C := .seq (.pl <| .st (.ext 3 0) <|
    .st (.act none (.px (some 2) (.mv (.c (.int .i64 (-1)))))) .done) (.ret)
@[simp] def W_laws_szTransitionS_2 := @C.wpe _ _ K_laws_szTransitionS_2.eq_1
def K_laws_szTransitionS_3 : C := .cond 3 (.v 4) K_laws_szTransitionS_2 (.skip)
@[simp] def W_laws_szTransitionS_3 := @C.wpe _ _ K_laws_szTransitionS_3.eq_1
def K_laws_szTransitionS_4 : C := .seq (.seq (.pl <| .st (.ext 3 2) <|
    .st (.act none (.px (some 3) (.mv (.v 1)))) <|
    .st (.act none (.px (some 4) (.bin .lss (.v 3) (.c (.int .i64 0))))) .done) K_laws_szTransitionS_3) K_laws_szTransitionS_1
@[simp] def W_laws_szTransitionS_4 := @C.wpe _ _ K_laws_szTransitionS_4.eq_1
def K_laws_szTransitionS_5 : C := .seq (.pl <| .st (.ext 3 4) <|
    .st (.act none (.px (some 3) (.mv (.v 1)))) <|
    .st (.act none (.px (some 4) (.mv (.v 0)))) <|
    .st (.act none (.px (some 5) (.lenV (.v 4)))) <|
    .st (.act none (.px (some 6) (.bin .sub (.v 3) (.v 5)))) <|
    .st (.act none (.px (some 1) (.mv (.v 6)))) .done) K_laws_szTransitionS_4
@[simp] def W_laws_szTransitionS_5 := @C.wpe _ _ K_laws_szTransitionS_5.eq_1
def B_laws_szTransitionS : C := .seq (.pl <| .st (.ext 3 0) <|
    .st (.act none (.px (some 2) (.mv (.c (.int .i64 0))))) .done) K_laws_szTransitionS_5
@[simp] def WB_laws_szTransitionS := @C.wpe _ _ B_laws_szTransitionS.eq_1
def R_laws_szTransitionS : FIR := ⟨B_laws_szTransitionS, 3, [(2, none)]⟩
theorem IR_laws_szTransitionS : cfun Try.prog H_laws_szTransitionS Try.f18 = some R_laws_szTransitionS := by kernel_rfl
theorem EN_laws_szTransitionS {args : List Value} {h : Heap} {k : Value → Heap → Prop} (hargs : args.length = 2) (hw : B_laws_szTransitionS.wp Try.prog (retQ [(2, none)] k) (env0 args 3) h) : CallE Try.prog fn_laws_szTransitionS args h k := enter Try.func18 rfl IR_laws_szTransitionS hargs hw

def H_laws_toAutomaton : Hint := ⟨[(0, false), (1, true), (2, true), (3, true)], []⟩
def K_laws_toAutomaton_1 : C := .seq (.pl <| .st (.ext 4 1) <|
    .st (.act none (.pget (some 4) none 3 0 (some 3))) <|
    .st (.act none (.pset none 2 0 3 (.v 4))) .done) (.ret)
@[simp] def W_laws_toAutomaton_1 := @C.wpe _ _ K_laws_toAutomaton_1.eq_1
def K_laws_toAutomaton_2 : Pl := .st (.act none (.als 7 none 3)) <|
    .st (.act none (.pset (some 7) 3 2 1 (.v 6))) .done
@[simp] def W_laws_toAutomaton_2 := @Pl.wpe _ _ K_laws_toAutomaton_2.eq_1
def K_laws_toAutomaton_3 : C := .seq (.pl <| .st (.ext 4 4) <|
    .st (.act none (.als 4 none 1)) <|
    .st (.act none (.pget (some 5) (some 4) 1 2 none)) <|
    .st (.act none (.ex (some 6) (.call fn_laws_toTransitionS [.v 5]))) K_laws_toAutomaton_2) K_laws_toAutomaton_1
@[simp] def W_laws_toAutomaton_3 := @C.wpe _ _ K_laws_toAutomaton_3.eq_1
def K_laws_toAutomaton_4 : Pl := .st (.act none (.als 7 none 3)) <|
    .st (.act none (.pset (some 7) 3 1 1 (.v 6))) .done
@[simp] def W_laws_toAutomaton_4 := @Pl.wpe _ _ K_laws_toAutomaton_4.eq_1
def K_laws_toAutomaton_5 : C := .seq (.pl <| .st (.ext 4 4) <|
    .st (.act none (.als 4 none 1)) <|
    .st (.act none (.pget (some 5) (some 4) 1 1 none)) <|
    .st (.act none (.ex (some 6) (.call fn_laws_toBoolS [.v 5]))) K_laws_toAutomaton_4) K_laws_toAutomaton_3
@[simp] def W_laws_toAutomaton_5 := @C.wpe _ _ K_laws_toAutomaton_5.eq_1
def K_laws_toAutomaton_6 : Pl := .st (.act none (.als 7 none 3)) <|
    .st (.act none (.pset (some 7) 3 0 1 (.v 6))) .done
@[simp] def W_laws_toAutomaton_6 := @Pl.wpe _ _ K_laws_toAutomaton_6.eq_1
def K_laws_toAutomaton_7 : C := .seq (.pl <| .st (.ext 4 4) <|
    .st (.act none (.als 4 none 1)) <|
    .st (.act none (.pget (some 5) (some 4) 1 0 none)) <|
    .st (.act none (.ex (some 6) (.call fn_laws_toIntS [.v 5]))) K_laws_toAutomaton_6) K_laws_toAutomaton_5
@[simp] def W_laws_toAutomaton_7 := @C.wpe _ _ K_laws_toAutomaton_7.eq_1
def K_laws_toAutomaton_8 : C := .seq (.pl <| .st (.ext 4 0) <|
    .st (.act none (.pnew 3 (.c (.agg #[.slice none 0 0, .slice none 0 0, .slice none 0 0])) [])) .done) K_laws_toAutomaton_7
@[simp] def W_laws_toAutomaton_8 := @C.wpe _ _ K_laws_toAutomaton_8.eq_1
def B_laws_toAutomaton : C := .seq (.pl <| .st (.ext 4 0) <|
    .st (.act none (.pnew 1 (.v 0) [])) <|
    .st (.act none (.pnew 2 (.c (.agg #[.slice none 0 0, .slice none 0 0, .slice none 0 0])) [])) .done) K_laws_toAutomaton_8
@[simp] def WB_laws_toAutomaton := @C.wpe _ _ B_laws_toAutomaton.eq_1
def R_laws_toAutomaton : FIR := ⟨B_laws_toAutomaton, 4, [(2, some (some 3))]⟩
theorem IR_laws_toAutomaton : cfun Try.prog H_laws_toAutomaton Try.f7 = some R_laws_toAutomaton := by kernel_rfl
theorem EN_laws_toAutomaton {args : List Value} {h : Heap} {k : Value → Heap → Prop} (hargs : args.length = 1) (hw : B_laws_toAutomaton.wp Try.prog (retQ [(2, some (some 3))] k) (env0 args 4) h) : CallE Try.prog fn_laws_toAutomaton args h k := enter Try.func7 rfl IR_laws_toAutomaton hargs hw

def H_laws_toBoolS : Hint := ⟨[(0, false), (2, false), (3, false), (4, false)], [[1]]⟩
def K_laws_toBoolS_1 : C := .seq (.pl <| .st (.ext 4 1) <|
    .st (.act none (.px (some 4) (.mv (.v 2)))) <|
    .st (.act none (.px (some 1) (.mv (.v 4)))) .done) (.ret)
@[simp] def W_laws_toBoolS_1 := @C.wpe _ _ K_laws_toBoolS_1.eq_1
def K_laws_toBoolS_2 : C := .pl <| .st (.ext 4 2) <|
    .st (.act none (.px (some 4) (.mv (.v 3)))) <|
    .st (.act none (.px (some 5) (.bin .add (.v 4) (.c (.int .i64 1))))) <|
    .st (.act none (.px (some 3) (.mv (.v 5)))) .done
@[simp] def W_laws_toBoolS_2 := @C.wpe _ _ K_laws_toBoolS_2.eq_1
def K_laws_toBoolS_3 : C := .seq (.block 1 (.pl <| .st (.ext 4 7) <|
    .st (.act none (.px (some 4) (.mv (.v 2)))) <|
    .st (.act none (.px (some 5) (.mv (.v 3)))) <|
    .st (.act none (.px (some 6) (.mv (.v 0)))) <|
    .st (.act none (.px (some 7) (.mv (.v 3)))) <|
    .st (.act none (.px (some 8) (.ia 1 (.v 6) (.v 7)))) <|
    .st (.act none (.ld (some 9) (.v 8) none)) <|
    .st (.act none (.px (some 10) (.ia 1 (.v 4) (.v 5)))) <|
    .st (.act none (.ex none (.store 1 (.v 10) (.v 9)))) .done)) K_laws_toBoolS_2
@[simp] def W_laws_toBoolS_3 := @C.wpe _ _ K_laws_toBoolS_3.eq_1
def K_laws_toBoolS_4 : C := .cond 4 (.v 7) (.skip) (.exit 0)
@[simp] def W_laws_toBoolS_4 := @C.wpe _ _ K_laws_toBoolS_4.eq_1
def K_laws_toBoolS_5 : C := .seq (.seq (.pl <| .st (.ext 4 4) <|
    .st (.act none (.px (some 4) (.mv (.v 3)))) <|
    .st (.act none (.px (some 5) (.mv (.v 0)))) <|
    .st (.act none (.px (some 6) (.lenV (.v 5)))) <|
    .st (.act none (.px (some 7) (.bin .lss (.v 4) (.v 6)))) .done) K_laws_toBoolS_4) K_laws_toBoolS_3
@[simp] def W_laws_toBoolS_5 := @C.wpe _ _ K_laws_toBoolS_5.eq_1
def K_laws_toBoolS_6 : C := .block 0 (.loop 4 [1] K_laws_toBoolS_5)
@[simp] def W_laws_toBoolS_6 := @C.wpe _ _ K_laws_toBoolS_6.eq_1
def K_laws_toBoolS_7 : C := .seq (.seq (.pl <| .st (.ext 4 0) <|
    .st (.act none (.px (some 3) (.mv (.c (.int .i64 0))))) .done) K_laws_toBoolS_6) K_laws_toBoolS_1
@[simp] def W_laws_toBoolS_7 := @C.wpe _ _ K_laws_toBoolS_7.eq_1
def K_laws_toBoolS_8 : Pl := .st (.act none (.px (some 2) (.mv (.v 6)))) .done
@[simp] def W_laws_toBoolS_8 := @Pl.wpe _ _ K_laws_toBoolS_8.eq_1
def K_laws_toBoolS_9 : C := .seq (.pl <| .st (.ext 4 3) <|
    .st (.act none (.px (some 4) (.mv (.v 0)))) <|
    .st (.act none (.px (some 5) (.lenV (.v 4)))) <|
    .st (.act none (.ex (some 6) (.mks 1 1 [.bool false] (.v 5) (.v 5)))) K_laws_toBoolS_8) K_laws_toBoolS_7
@[simp] def W_laws_toBoolS_9 := @C.wpe _ _ K_laws_toBoolS_9.eq_1
def B_laws_toBoolS : C := .seq (.pl <| .st (.ext 4 0) <|
    .st (.act none (.px (some 1) (.mv (.c (.slice none 0 0))))) .done) K_laws_toBoolS_9
@[simp] def WB_laws_toBoolS := @C.wpe _ _ B_laws_toBoolS.eq_1
def R_laws_toBoolS : FIR := ⟨B_laws_toBoolS, 4, [(1, none)]⟩
theorem IR_laws_toBoolS : cfun Try.prog H_laws_toBoolS Try.f22 = some R_laws_toBoolS := by kernel_rfl
theorem EN_laws_toBoolS {args : List Value} {h : Heap} {k : Value → Heap → Prop} (hargs : args.length = 1) (hw : B_laws_toBoolS.wp Try.prog (retQ [(1, none)] k) (env0 args 4) h) : CallE Try.prog fn_laws_toBoolS args h k := enter Try.func22 rfl IR_laws_toBoolS hargs hw

def H_laws_toIntS : Hint := ⟨[(0, false), (2, false), (3, false), (4, false)], [[1]]⟩
def K_laws_toIntS_1 : C := .seq (.pl <| .st (.ext 4 1) <|
    .st (.act none (.px (some 4) (.mv (.v 2)))) <|
    .st (.act none (.px (some 1) (.mv (.v 4)))) .done) (.ret)
@[simp] def W_laws_toIntS_1 := @C.wpe _ _ K_laws_toIntS_1.eq_1
def K_laws_toIntS_2 : C := .pl <| .st (.ext 4 2) <|
    .st (.act none (.px (some 4) (.mv (.v 3)))) <|
    .st (.act none (.px (some 5) (.bin .add (.v 4) (.c (.int .i64 1))))) <|
    .st (.act none (.px (some 3) (.mv (.v 5)))) .done
@[simp] def W_laws_toIntS_2 := @C.wpe _ _ K_laws_toIntS_2.eq_1
def K_laws_toIntS_3 : C := .seq (.block 1 (.pl <| .st (.ext 4 7) <|
    .st (.act none (.px (some 4) (.mv (.v 2)))) <|
    .st (.act none (.px (some 5) (.mv (.v 3)))) <|
    .st (.act none (.px (some 6) (.mv (.v 0)))) <|
    .st (.act none (.px (some 7) (.mv (.v 3)))) <|
    .st (.act none (.px (some 8) (.ia 1 (.v 6) (.v 7)))) <|
    .st (.act none (.ld (some 9) (.v 8) none)) <|
    .st (.act none (.px (some 10) (.ia 1 (.v 4) (.v 5)))) <|
    .st (.act none (.ex none (.store 1 (.v 10) (.v 9)))) .done)) K_laws_toIntS_2
@[simp] def W_laws_toIntS_3 := @C.wpe _ _ K_laws_toIntS_3.eq_1
def K_laws_toIntS_4 : C := .cond 4 (.v 7) (.skip) (.exit 0)
@[simp] def W_laws_toIntS_4 := @C.wpe _ _ K_laws_toIntS_4.eq_1
def K_laws_toIntS_5 : C := .seq (.seq (.pl <| .st (.ext 4 4) <|
    .st (.act none (.px (some 4) (.mv (.v 3)))) <|
    .st (.act none (.px (some 5) (.mv (.v 0)))) <|
    .st (.act none (.px (some 6) (.lenV (.v 5)))) <|
    .st (.act none (.px (some 7) (.bin .lss (.v 4) (.v 6)))) .done) K_laws_toIntS_4) K_laws_toIntS_3
@[simp] def W_laws_toIntS_5 := @C.wpe _ _ K_laws_toIntS_5.eq_1
def K_laws_toIntS_6 : C := .block 0 (.loop 4 [1] K_laws_toIntS_5)
@[simp] def W_laws_toIntS_6 := @C.wpe _ _ K_laws_toIntS_6.eq_1
def K_laws_toIntS_7 : C := .seq (.seq (.pl <| .st (.ext 4 0) <|
    .st (.act none (.px (some 3) (.mv (.c (.int .i64 0))))) .done) K_laws_toIntS_6) K_laws_toIntS_1
@[simp] def W_laws_toIntS_7 := @C.wpe _ _ K_laws_toIntS_7.eq_1
def K_laws_toIntS_8 : Pl := .st (.act none (.px (some 2) (.mv (.v 6)))) .done
@[simp] def W_laws_toIntS_8 := @Pl.wpe _ _ K_laws_toIntS_8.eq_1
def K_laws_toIntS_9 : C := .seq (.pl <| .st (.ext 4 3) <|
    .st (.act none (.px (some 4) (.mv (.v 0)))) <|
    .st (.act none (.px (some 5) (.lenV (.v 4)))) <|
    .st (.act none (.ex (some 6) (.mks 8 1 [.int .i64 0] (.v 5) (.v 5)))) K_laws_toIntS_8) K_laws_toIntS_7
@[simp] def W_laws_toIntS_9 := @C.wpe _ _ K_laws_toIntS_9.eq_1
def B_laws_toIntS : C := .seq (.pl <| .st (.ext 4 0) <|
    .st (.act none (.px (some 1) (.mv (.c (.slice none 0 0))))) .done) K_laws_toIntS_9
@[simp] def WB_laws_toIntS := @C.wpe _ _ B_laws_toIntS.eq_1
def R_laws_toIntS : FIR := ⟨B_laws_toIntS, 4, [(1, none)]⟩
theorem IR_laws_toIntS : cfun Try.prog H_laws_toIntS Try.f21 = some R_laws_toIntS := by kernel_rfl
theorem EN_laws_toIntS {args : List Value} {h : Heap} {k : Value → Heap → Prop} (hargs : args.length = 1) (hw : B_laws_toIntS.wp Try.prog (retQ [(1, none)] k) (env0 args 4) h) : CallE Try.prog fn_laws_toIntS args h k := enter Try.func21 rfl IR_laws_toIntS hargs hw

def H_laws_toTransition : Hint := ⟨[(0, false), (1, true), (2, true), (3, true)], []⟩
def K_laws_toTransition_1 : C := .seq (.pl <| .st (.ext 4 1) <|
    .st (.act none (.pget (some 4) none 3 0 (some 4))) <|
    .st (.act none (.pset none 2 0 4 (.v 4))) .done) (.ret)
@[simp] def W_laws_toTransition_1 := @C.wpe _ _ K_laws_toTransition_1.eq_1
def K_laws_toTransition_2 : C := .seq (.pl <| .st (.ext 4 3) <|
    .st (.act none (.als 4 none 1)) <|
    .st (.act none (.pget (some 5) (some 4) 1 3 none)) <|
    .st (.act none (.als 6 none 3)) <|
    .st (.act none (.pset (some 6) 3 3 1 (.v 5))) .done) K_laws_toTransition_1
@[simp] def W_laws_toTransition_2 := @C.wpe _ _ K_laws_toTransition_2.eq_1
def K_laws_toTransition_3 : C := .seq (.pl <| .st (.ext 4 3) <|
    .st (.act none (.als 4 none 1)) <|
    .st (.act none (.pget (some 5) (some 4) 1 2 none)) <|
    .st (.act none (.als 6 none 3)) <|
    .st (.act none (.pset (some 6) 3 2 1 (.v 5))) .done) K_laws_toTransition_2
@[simp] def W_laws_toTransition_3 := @C.wpe _ _ K_laws_toTransition_3.eq_1
def K_laws_toTransition_4 : C := .seq (.pl <| .st (.ext 4 3) <|
    .st (.act none (.als 4 none 1)) <|
    .st (.act none (.pget (some 5) (some 4) 1 1 none)) <|
    .st (.act none (.als 6 none 3)) <|
    .st (.act none (.pset (some 6) 3 1 1 (.v 5))) .done) K_laws_toTransition_3
@[simp] def W_laws_toTransition_4 := @C.wpe _ _ K_laws_toTransition_4.eq_1
def K_laws_toTransition_5 : C := .seq (.pl <| .st (.ext 4 3) <|
    .st (.act none (.als 4 none 1)) <|
    .st (.act none (.pget (some 5) (some 4) 1 0 none)) <|
    .st (.act none (.als 6 none 3)) <|
    .st (.act none (.pset (some 6) 3 0 1 (.v 5))) .done) K_laws_toTransition_4
@[simp] def W_laws_toTransition_5 := @C.wpe _ _ K_laws_toTransition_5.eq_1
def K_laws_toTransition_6 : C := .seq (.pl <| .st (.ext 4 0) <|
    .st (.act none (.pnew 3 (.c (.agg #[.int .i64 0, .int .i64 0, .int .i64 0, .int .i64 0])) [])) .done) K_laws_toTransition_5
@[simp] def W_laws_toTransition_6 := @C.wpe _ _ K_laws_toTransition_6.eq_1
def B_laws_toTransition : C := .seq (.pl <| .st (.ext 4 0) <|
    .st (.act none (.pnew 1 (.v 0) [])) <|
    .st (.act none (.pnew 2 (.c (.agg #[.int .i64 0, .int .i64 0, .int .i64 0, .int .i64 0])) [])) .done) K_laws_toTransition_6
@[simp] def WB_laws_toTransition := @C.wpe _ _ B_laws_toTransition.eq_1
def R_laws_toTransition : FIR := ⟨B_laws_toTransition, 4, [(2, some (some 4))]⟩
theorem IR_laws_toTransition : cfun Try.prog H_laws_toTransition Try.f40 = some R_laws_toTransition := by kernel_rfl
theorem EN_laws_toTransition {args : List Value} {h : Heap} {k : Value → Heap → Prop} (hargs : args.length = 1) (hw : B_laws_toTransition.wp Try.prog (retQ [(2, some (some 4))] k) (env0 args 4) h) : CallE Try.prog fn_laws_toTransition args h k := enter Try.func40 rfl IR_laws_toTransition hargs hw

def H_laws_toTransitionS : Hint := ⟨[(0, false), (2, false), (3, false), (4, false)], [[1]]⟩
def K_laws_toTransitionS_1 : C := .seq (.pl <| .st (.ext 4 1) <|
    .st (.act none (.px (some 4) (.mv (.v 2)))) <|
    .st (.act none (.px (some 1) (.mv (.v 4)))) .done) (.ret)
@[simp] def W_laws_toTransitionS_1 := @C.wpe _ _ K_laws_toTransitionS_1.eq_1
def K_laws_toTransitionS_2 : C := .pl <| .st (.ext 4 2) <|
    .st (.act none (.px (some 4) (.mv (.v 3)))) <|
    .st (.act none (.px (some 5) (.bin .add (.v 4) (.c (.int .i64 1))))) <|
    .st (.act none (.px (some 3) (.mv (.v 5)))) .done
@[simp] def W_laws_toTransitionS_2 := @C.wpe _ _ K_laws_toTransitionS_2.eq_1
def K_laws_toTransitionS_3 : Pl := .st (.act none (.px (some 11) (.ia 4 (.v 4) (.v 5)))) <|
    .st (.act none (.ex none (.store 4 (.v 11) (.v 10)))) .done
@[simp] def W_laws_toTransitionS_3 := @Pl.wpe _ _ K_laws_toTransitionS_3.eq_1
def K_laws_toTransitionS_4 : C := .seq (.block 1 (.pl <| .st (.ext 4 8) <|
    .st (.act none (.px (some 4) (.mv (.v 2)))) <|
    .st (.act none (.px (some 5) (.mv (.v 3)))) <|
    .st (.act none (.px (some 6) (.mv (.v 0)))) <|
    .st (.act none (.px (some 7) (.mv (.v 3)))) <|
    .st (.act none (.px (some 8) (.ia 4 (.v 6) (.v 7)))) <|
    .st (.act none (.ld (some 9) (.v 8) (some 4))) <|
    .st (.act none (.ex (some 10) (.call fn_laws_toTransition [.v 9]))) K_laws_toTransitionS_3)) K_laws_toTransitionS_2
@[simp] def W_laws_toTransitionS_4 := @C.wpe _ _ K_laws_toTransitionS_4.eq_1
def K_laws_toTransitionS_5 : C := .cond 4 (.v 7) (.skip) (.exit 0)
@[simp] def W_laws_toTransitionS_5 := @C.wpe _ _ K_laws_toTransitionS_5.eq_1
def K_laws_toTransitionS_6 : C := .seq (.seq (.pl <| .st (.ext 4 4) <|
    .st (.act none (.px (some 4) (.mv (.v 3)))) <|
    .st (.act none (.px (some 5) (.mv (.v 0)))) <|
    .st (.act none (.px (some 6) (.lenV (.v 5)))) <|
    .st (.act none (.px (some 7) (.bin .lss (.v 4) (.v 6)))) .done) K_laws_toTransitionS_5) K_laws_toTransitionS_4
@[simp] def W_laws_toTransitionS_6 := @C.wpe _ _ K_laws_toTransitionS_6.eq_1
def K_laws_toTransitionS_7 : C := .block 0 (.loop 4 [1] K_laws_toTransitionS_6)
@[simp] def W_laws_toTransitionS_7 := @C.wpe _ _ K_laws_toTransitionS_7.eq_1
def K_laws_toTransitionS_8 : C := .seq (.seq (.pl <| .st (.ext 4 0) <|
    .st (.act none (.px (some 3) (.mv (.c (.int .i64 0))))) .done) K_laws_toTransitionS_7) K_laws_toTransitionS_1
@[simp] def W_laws_toTransitionS_8 := @C.wpe _ _ K_laws_toTransitionS_8.eq_1
def K_laws_toTransitionS_9 : Pl := .st (.act none (.px (some 2) (.mv (.v 6)))) .done
@[simp] def W_laws_toTransitionS_9 := @Pl.wpe _ _ K_laws_toTransitionS_9.eq_1
def K_laws_toTransitionS_10 : C := .seq (.pl <| .st (.ext 4 3) <|
    .st (.act none (.px (some 4) (.mv (.v 0)))) <|
    .st (.act none (.px (some 5) (.lenV (.v 4)))) <|
    .st (.act none (.ex (some 6) (.mks 32 4 [.int .i64 0, .int .i64 0, .int .i64 0, .int .i64 0] (.v 5) (.v 5)))) K_laws_toTransitionS_9) K_laws_toTransitionS_8
@[simp] def W_laws_toTransitionS_10 := @C.wpe _ _ K_laws_toTransitionS_10.eq_1
def B_laws_toTransitionS : C := .seq (.pl <| .st (.ext 4 0) <|
    .st (.act none (.px (some 1) (.mv (.c (.slice none 0 0))))) .done) K_laws_toTransitionS_10
@[simp] def WB_laws_toTransitionS := @C.wpe _ _ B_laws_toTransitionS.eq_1
def R_laws_toTransitionS : FIR := ⟨B_laws_toTransitionS, 4, [(1, none)]⟩
theorem IR_laws_toTransitionS : cfun Try.prog H_laws_toTransitionS Try.f23 = some R_laws_toTransitionS := by kernel_rfl
theorem EN_laws_toTransitionS {args : List Value} {h : Heap} {k : Value → Heap → Prop} (hargs : args.length = 1) (hw : B_laws_toTransitionS.wp Try.prog (retQ [(1, none)] k) (env0 args 4) h) : CallE Try.prog fn_laws_toTransitionS args h k := enter Try.func23 rfl IR_laws_toTransitionS hargs hw

def H_slices_Clip_S_bool_bool : Hint := ⟨[(0, false), (2, false)], []⟩
def K_slices_Clip_S_bool_bool_1 : C := .seq (.pl <| .st (.ext 2 6) <|
    .st (.act none (.px (some 2) (.mv (.v 0)))) <|
    .st (.act none (.px (some 3) (.mv (.v 0)))) <|
    .st (.act none (.px (some 4) (.lenV (.v 3)))) <|
    .st (.act none (.px (some 5) (.mv (.v 0)))) <|
    .st (.act none (.px (some 6) (.lenV (.v 5)))) <|
    .st (.act none (.px (some 7) (.sliceV 1 (.v 2) none (some (.v 4)) (some (.v 6))))) <|
    .st (.act none (.px (some 1) (.mv (.v 7)))) .done) (.ret)
@[simp] def W_slices_Clip_S_bool_bool_1 := @C.wpe _ _ K_slices_Clip_S_bool_bool_1.eq_1
def B_slices_Clip_S_bool_bool : C := .seq (.pl <| .st (.ext 2 0) <|
    .st (.act none (.px (some 1) (.mv (.c (.slice none 0 0))))) .done) K_slices_Clip_S_bool_bool_1
@[simp] def WB_slices_Clip_S_bool_bool := @C.wpe _ _ B_slices_Clip_S_bool_bool.eq_1
def R_slices_Clip_S_bool_bool : FIR := ⟨B_slices_Clip_S_bool_bool, 2, [(1, none)]⟩
theorem IR_slices_Clip_S_bool_bool : cfun Try.prog H_slices_Clip_S_bool_bool Try.f57 = some R_slices_Clip_S_bool_bool := by kernel_rfl
theorem EN_slices_Clip_S_bool_bool {args : List Value} {h : Heap} {k : Value → Heap → Prop} (hargs : args.length = 1) (hw : B_slices_Clip_S_bool_bool.wp Try.prog (retQ [(1, none)] k) (env0 args 2) h) : CallE Try.prog fn_slices_Clip_S_bool_bool args h k := enter Try.func57 rfl IR_slices_Clip_S_bool_bool hargs hw

def H_slices_Clip_S_impl_Transition_impl_Transition : Hint := ⟨[(0, false), (2, false)], []⟩
def K_slices_Clip_S_impl_Transition_impl_Transition_1 : C := .seq (.pl <| .st (.ext 2 6) <|
    .st (.act none (.px (some 2) (.mv (.v 0)))) <|
    .st (.act none (.px (some 3) (.mv (.v 0)))) <|
    .st (.act none (.px (some 4) (.lenV (.v 3)))) <|
    .st (.act none (.px (some 5) (.mv (.v 0)))) <|
    .st (.act none (.px (some 6) (.lenV (.v 5)))) <|
    .st (.act none (.px (some 7) (.sliceV 4 (.v 2) none (some (.v 4)) (some (.v 6))))) <|
    .st (.act none (.px (some 1) (.mv (.v 7)))) .done) (.ret)
@[simp] def W_slices_Clip_S_impl_Transition_impl_Transition_1 := @C.wpe _ _ K_slices_Clip_S_impl_Transition_impl_Transition_1.eq_1
def B_slices_Clip_S_impl_Transition_impl_Transition : C := .seq (.pl <| .st (.ext 2 0) <|
    .st (.act none (.px (some 1) (.mv (.c (.slice none 0 0))))) .done) K_slices_Clip_S_impl_Transition_impl_Transition_1
@[simp] def WB_slices_Clip_S_impl_Transition_impl_Transition := @C.wpe _ _ B_slices_Clip_S_impl_Transition_impl_Transition.eq_1
def R_slices_Clip_S_impl_Transition_impl_Transition : FIR := ⟨B_slices_Clip_S_impl_Transition_impl_Transition, 2, [(1, none)]⟩
theorem IR_slices_Clip_S_impl_Transition_impl_Transition : cfun Try.prog H_slices_Clip_S_impl_Transition_impl_Transition Try.f59 = some R_slices_Clip_S_impl_Transition_impl_Transition := by kernel_rfl
theorem EN_slices_Clip_S_impl_Transition_impl_Transition {args : List Value} {h : Heap} {k : Value → Heap → Prop} (hargs : args.length = 1) (hw : B_slices_Clip_S_impl_Transition_impl_Transition.wp Try.prog (retQ [(1, none)] k) (env0 args 2) h) : CallE Try.prog fn_slices_Clip_S_impl_Transition_impl_Transition args h k := enter Try.func59 rfl IR_slices_Clip_S_impl_Transition_impl_Transition hargs hw

def H_slices_Clip_S_int_int : Hint := ⟨[(0, false), (2, false)], []⟩
def K_slices_Clip_S_int_int_1 : C := .seq (.pl <| .st (.ext 2 6) <|
    .st (.act none (.px (some 2) (.mv (.v 0)))) <|
    .st (.act none (.px (some 3) (.mv (.v 0)))) <|
    .st (.act none (.px (some 4) (.lenV (.v 3)))) <|
    .st (.act none (.px (some 5) (.mv (.v 0)))) <|
    .st (.act none (.px (some 6) (.lenV (.v 5)))) <|
    .st (.act none (.px (some 7) (.sliceV 1 (.v 2) none (some (.v 4)) (some (.v 6))))) <|
    .st (.act none (.px (some 1) (.mv (.v 7)))) .done) (.ret)
@[simp] def W_slices_Clip_S_int_int_1 := @C.wpe _ _ K_slices_Clip_S_int_int_1.eq_1
def B_slices_Clip_S_int_int : C := .seq (.pl <| .st (.ext 2 0) <|
    .st (.act none (.px (some 1) (.mv (.c (.slice none 0 0))))) .done) K_slices_Clip_S_int_int_1
@[simp] def WB_slices_Clip_S_int_int := @C.wpe _ _ B_slices_Clip_S_int_int.eq_1
def R_slices_Clip_S_int_int : FIR := ⟨B_slices_Clip_S_int_int, 2, [(1, none)]⟩
theorem IR_slices_Clip_S_int_int : cfun Try.prog H_slices_Clip_S_int_int Try.f55 = some R_slices_Clip_S_int_int := by kernel_rfl
theorem EN_slices_Clip_S_int_int {args : List Value} {h : Heap} {k : Value → Heap → Prop} (hargs : args.length = 1) (hw : B_slices_Clip_S_int_int.wp Try.prog (retQ [(1, none)] k) (env0 args 2) h) : CallE Try.prog fn_slices_Clip_S_int_int args h k := enter Try.func55 rfl IR_slices_Clip_S_int_int hargs hw

def H_slices_Clone_S_bool_bool : Hint := ⟨[(0, false), (2, false)], []⟩
def K_slices_Clone_S_bool_bool_1 : Pl := .st (.act none (.px (some 1) (.mv (.v 4)))) .done
@[simp] def W_slices_Clone_S_bool_bool_1 := @Pl.wpe _ _ K_slices_Clone_S_bool_bool_1.eq_1
def K_slices_Clone_S_bool_bool_2 : C := .seq (.pl <| .st (.ext 2 3) <|
    .st (.act none (.psl 2 [] [])) <|
    .st (.act none (.px (some 3) (.mv (.v 0)))) <|
    .st (.act none (.ex (some 4) (.app 1 1 [.bool false] (.p 0 2) (.o (.v 3))))) K_slices_Clone_S_bool_bool_1) (.ret)
@[simp] def W_slices_Clone_S_bool_bool_2 := @C.wpe _ _ K_slices_Clone_S_bool_bool_2.eq_1
def K_slices_Clone_S_bool_bool_3 : C := .seq (.pl <| .st (.ext 2 0) <|
    .st (.act none (.px (some 1) (.mv (.c (.slice none 0 0))))) .done) (.ret)
@[simp] def W_slices_Clone_S_bool_bool_3 := @C.wpe _ _ K_slices_Clone_S_bool_bool_3.eq_1
def K_slices_Clone_S_bool_bool_4 : C := .cond 2 (.v 3) K_slices_Clone_S_bool_bool_3 (.skip)
@[simp] def W_slices_Clone_S_bool_bool_4 := @C.wpe _ _ K_slices_Clone_S_bool_bool_4.eq_1
def K_slices_Clone_S_bool_bool_5 : C := .seq (.seq (.pl <| .st (.ext 2 2) <|
    .st (.act none (.px (some 2) (.mv (.v 0)))) <|
    .st (.act none (.px (some 3) (.isNil false (.v 2)))) .done) K_slices_Clone_S_bool_bool_4) K_slices_Clone_S_bool_bool_2
@[simp] def W_slices_Clone_S_bool_bool_5 := @C.wpe _ _ K_slices_Clone_S_bool_bool_5.eq_1
def B_slices_Clone_S_bool_bool : C := .seq (.pl <| .st (.ext 2 0) <|
    .st (.act none (.px (some 1) (.mv (.c (.slice none 0 0))))) .done) K_slices_Clone_S_bool_bool_5
@[simp] def WB_slices_Clone_S_bool_bool := @C.wpe _ _ B_slices_Clone_S_bool_bool.eq_1
def R_slices_Clone_S_bool_bool : FIR := ⟨B_slices_Clone_S_bool_bool, 2, [(1, none)]⟩
theorem IR_slices_Clone_S_bool_bool : cfun Try.prog H_slices_Clone_S_bool_bool Try.f58 = some R_slices_Clone_S_bool_bool := by kernel_rfl
theorem EN_slices_Clone_S_bool_bool {args : List Value} {h : Heap} {k : Value → Heap → Prop} (hargs : args.length = 1) (hw : B_slices_Clone_S_bool_bool.wp Try.prog (retQ [(1, none)] k) (env0 args 2) h) : CallE Try.prog fn_slices_Clone_S_bool_bool args h k := enter Try.func58 rfl IR_slices_Clone_S_bool_bool hargs hw

def H_slices_Clone_S_impl_Transition_impl_Transition : Hint := ⟨[(0, false), (2, false)], []⟩
def K_slices_Clone_S_impl_Transition_impl_Transition_1 : Pl := .st (.act none (.px (some 1) (.mv (.v 4)))) .done
@[simp] def W_slices_Clone_S_impl_Transition_impl_Transition_1 := @Pl.wpe _ _ K_slices_Clone_S_impl_Transition_impl_Transition_1.eq_1
def K_slices_Clone_S_impl_Transition_impl_Transition_2 : C := .seq (.pl <| .st (.ext 2 3) <|
    .st (.act none (.psl 2 [] [])) <|
    .st (.act none (.px (some 3) (.mv (.v 0)))) <|
    .st (.act none (.ex (some 4) (.app 32 4 [.int .i64 0, .int .i64 0, .int .i64 0, .int .i64 0] (.p 0 2) (.o (.v 3))))) K_slices_Clone_S_impl_Transition_impl_Transition_1) (.ret)
@[simp] def W_slices_Clone_S_impl_Transition_impl_Transition_2 := @C.wpe _ _ K_slices_Clone_S_impl_Transition_impl_Transition_2.eq_1
def K_slices_Clone_S_impl_Transition_impl_Transition_3 : C := .seq (.pl <| .st (.ext 2 0) <|
    .st (.act none (.px (some 1) (.mv (.c (.slice none 0 0))))) .done) (.ret)
@[simp] def W_slices_Clone_S_impl_Transition_impl_Transition_3 := @C.wpe _ _ K_slices_Clone_S_impl_Transition_impl_Transition_3.eq_1
def K_slices_Clone_S_impl_Transition_impl_Transition_4 : C := .cond 2 (.v 3) K_slices_Clone_S_impl_Transition_impl_Transition_3 (.skip)
@[simp] def W_slices_Clone_S_impl_Transition_impl_Transition_4 := @C.wpe _ _ K_slices_Clone_S_impl_Transition_impl_Transition_4.eq_1
def K_slices_Clone_S_impl_Transition_impl_Transition_5 : C := .seq (.seq (.pl <| .st (.ext 2 2) <|
    .st (.act none (.px (some 2) (.mv (.v 0)))) <|
    .st (.act none (.px (some 3) (.isNil false (.v 2)))) .done) K_slices_Clone_S_impl_Transition_impl_Transition_4) K_slices_Clone_S_impl_Transition_impl_Transition_2
@[simp] def W_slices_Clone_S_impl_Transition_impl_Transition_5 := @C.wpe _ _ K_slices_Clone_S_impl_Transition_impl_Transition_5.eq_1
def B_slices_Clone_S_impl_Transition_impl_Transition : C := .seq (.pl <| .st (.ext 2 0) <|
    .st (.act none (.px (some 1) (.mv (.c (.slice none 0 0))))) .done) K_slices_Clone_S_impl_Transition_impl_Transition_5
@[simp] def WB_slices_Clone_S_impl_Transition_impl_Transition := @C.wpe _ _ B_slices_Clone_S_impl_Transition_impl_Transition.eq_1
def R_slices_Clone_S_impl_Transition_impl_Transition : FIR := ⟨B_slices_Clone_S_impl_Transition_impl_Transition, 2, [(1, none)]⟩
theorem IR_slices_Clone_S_impl_Transition_impl_Transition : cfun Try.prog H_slices_Clone_S_impl_Transition_impl_Transition Try.f60 = some R_slices_Clone_S_impl_Transition_impl_Transition := by kernel_rfl
theorem EN_slices_Clone_S_impl_Transition_impl_Transition {args : List Value} {h : Heap} {k : Value → Heap → Prop} (hargs : args.length = 1) (hw : B_slices_Clone_S_impl_Transition_impl_Transition.wp Try.prog (retQ [(1, none)] k) (env0 args 2) h) : CallE Try.prog fn_slices_Clone_S_impl_Transition_impl_Transition args h k := enter Try.func60 rfl IR_slices_Clone_S_impl_Transition_impl_Transition hargs hw

def H_slices_Clone_S_int_int : Hint := ⟨[(0, false), (2, false)], []⟩
def K_slices_Clone_S_int_int_1 : Pl := .st (.act none (.px (some 1) (.mv (.v 4)))) .done
@[simp] def W_slices_Clone_S_int_int_1 := @Pl.wpe _ _ K_slices_Clone_S_int_int_1.eq_1
def K_slices_Clone_S_int_int_2 : C := .seq (.pl <| .st (.ext 2 3) <|
    .st (.act none (.psl 2 [] [])) <|
    .st (.act none (.px (some 3) (.mv (.v 0)))) <|
    .st (.act none (.ex (some 4) (.app 8 1 [.int .i64 0] (.p 0 2) (.o (.v 3))))) K_slices_Clone_S_int_int_1) (.ret)
@[simp] def W_slices_Clone_S_int_int_2 := @C.wpe _ _ K_slices_Clone_S_int_int_2.eq_1
def K_slices_Clone_S_int_int_3 : C := .seq (.pl <| .st (.ext 2 0) <|
    .st (.act none (.px (some 1) (.mv (.c (.slice none 0 0))))) .done) (.ret)
@[simp] def W_slices_Clone_S_int_int_3 := @C.wpe _ _ K_slices_Clone_S_int_int_3.eq_1
def K_slices_Clone_S_int_int_4 : C := .cond 2 (.v 3) K_slices_Clone_S_int_int_3 (.skip)
@[simp] def W_slices_Clone_S_int_int_4 := @C.wpe _ _ K_slices_Clone_S_int_int_4.eq_1
def K_slices_Clone_S_int_int_5 : C := .seq (.seq (.pl <| .st (.ext 2 2) <|
    .st (.act none (.px (some 2) (.mv (.v 0)))) <|
    .st (.act none (.px (some 3) (.isNil false (.v 2)))) .done) K_slices_Clone_S_int_int_4) K_slices_Clone_S_int_int_2
@[simp] def W_slices_Clone_S_int_int_5 := @C.wpe _ _ K_slices_Clone_S_int_int_5.eq_1
def B_slices_Clone_S_int_int : C := .seq (.pl <| .st (.ext 2 0) <|
    .st (.act none (.px (some 1) (.mv (.c (.slice none 0 0))))) .done) K_slices_Clone_S_int_int_5
@[simp] def WB_slices_Clone_S_int_int := @C.wpe _ _ B_slices_Clone_S_int_int.eq_1
def R_slices_Clone_S_int_int : FIR := ⟨B_slices_Clone_S_int_int, 2, [(1, none)]⟩
theorem IR_slices_Clone_S_int_int : cfun Try.prog H_slices_Clone_S_int_int Try.f56 = some R_slices_Clone_S_int_int := by kernel_rfl
theorem EN_slices_Clone_S_int_int {args : List Value} {h : Heap} {k : Value → Heap → Prop} (hargs : args.length = 1) (hw : B_slices_Clone_S_int_int.wp Try.prog (retQ [(1, none)] k) (env0 args 2) h) : CallE Try.prog fn_slices_Clone_S_int_int args h k := enter Try.func56 rfl IR_slices_Clone_S_int_int hargs hw

def H_slices_ContainsFunc_S_impl_Transition_impl_Transition : Hint := ⟨[(0, false), (1, false), (4, false)], []⟩
def K_slices_ContainsFunc_S_impl_Transition_impl_Transition_1 : Pl := .st (.act none (.px (some 6) (.bin .geq (.v 5) (.c (.int .i64 0))))) <|
    .st (.act none (.px (some 2) (.mv (.v 6)))) .done
@[simp] def W_slices_ContainsFunc_S_impl_Transition_impl_Transition_1 := @Pl.wpe _ _ K_slices_ContainsFunc_S_impl_Transition_impl_Transition_1.eq_1
def K_slices_ContainsFunc_S_impl_Transition_impl_Transition_2 : C := .seq (.pl <| .st (.ext 3 4) <|
    .st (.act none (.px (some 3) (.mv (.v 0)))) <|
    .st (.act none (.px (some 4) (.mv (.v 1)))) <|
    .st (.act none (.ex (some 5) (.call fn_slices_IndexFunc_S_impl_Transition_impl_Transition [.v 3, .v 4]))) K_slices_ContainsFunc_S_impl_Transition_impl_Transition_1) (.ret)
@[simp] def W_slices_ContainsFunc_S_impl_Transition_impl_Transition_2 := @C.wpe _ _ K_slices_ContainsFunc_S_impl_Transition_impl_Transition_2.eq_1
def B_slices_ContainsFunc_S_impl_Transition_impl_Transition : C := .seq (.pl <| .st (.ext 3 0) <|
    .st (.act none (.px (some 2) (.mv (.c (.bool false))))) .done) K_slices_ContainsFunc_S_impl_Transition_impl_Transition_2
@[simp] def WB_slices_ContainsFunc_S_impl_Transition_impl_Transition := @C.wpe _ _ B_slices_ContainsFunc_S_impl_Transition_impl_Transition.eq_1
def R_slices_ContainsFunc_S_impl_Transition_impl_Transition : FIR := ⟨B_slices_ContainsFunc_S_impl_Transition_impl_Transition, 3, [(2, none)]⟩
theorem IR_slices_ContainsFunc_S_impl_Transition_impl_Transition : cfun Try.prog H_slices_ContainsFunc_S_impl_Transition_impl_Transition Try.f48 = some R_slices_ContainsFunc_S_impl_Transition_impl_Transition := by kernel_rfl
theorem EN_slices_ContainsFunc_S_impl_Transition_impl_Transition {args : List Value} {h : Heap} {k : Value → Heap → Prop} (hargs : args.length = 2) (hw : B_slices_ContainsFunc_S_impl_Transition_impl_Transition.wp Try.prog (retQ [(2, none)] k) (env0 args 3) h) : CallE Try.prog fn_slices_ContainsFunc_S_impl_Transition_impl_Transition args h k := enter Try.func48 rfl IR_slices_ContainsFunc_S_impl_Transition_impl_Transition hargs hw

def H_slices_ContainsFunc_S_int_int : Hint := ⟨[(0, false), (1, false), (4, false)], []⟩
def K_slices_ContainsFunc_S_int_int_1 : Pl := .st (.act none (.px (some 6) (.bin .geq (.v 5) (.c (.int .i64 0))))) <|
    .st (.act none (.px (some 2) (.mv (.v 6)))) .done
@[simp] def W_slices_ContainsFunc_S_int_int_1 := @Pl.wpe _ _ K_slices_ContainsFunc_S_int_int_1.eq_1
def K_slices_ContainsFunc_S_int_int_2 : C := .seq (.pl <| .st (.ext 3 4) <|
    .st (.act none (.px (some 3) (.mv (.v 0)))) <|
    .st (.act none (.px (some 4) (.mv (.v 1)))) <|
    .st (.act none (.ex (some 5) (.call fn_slices_IndexFunc_S_int_int [.v 3, .v 4]))) K_slices_ContainsFunc_S_int_int_1) (.ret)
@[simp] def W_slices_ContainsFunc_S_int_int_2 := @C.wpe _ _ K_slices_ContainsFunc_S_int_int_2.eq_1
def B_slices_ContainsFunc_S_int_int : C := .seq (.pl <| .st (.ext 3 0) <|
    .st (.act none (.px (some 2) (.mv (.c (.bool false))))) .done) K_slices_ContainsFunc_S_int_int_2
@[simp] def WB_slices_ContainsFunc_S_int_int := @C.wpe _ _ B_slices_ContainsFunc_S_int_int.eq_1
def R_slices_ContainsFunc_S_int_int : FIR := ⟨B_slices_ContainsFunc_S_int_int, 3, [(2, none)]⟩
theorem IR_slices_ContainsFunc_S_int_int : cfun Try.prog H_slices_ContainsFunc_S_int_int Try.f26 = some R_slices_ContainsFunc_S_int_int := by kernel_rfl
theorem EN_slices_ContainsFunc_S_int_int {args : List Value} {h : Heap} {k : Value → Heap → Prop} (hargs : args.length = 2) (hw : B_slices_ContainsFunc_S_int_int.wp Try.prog (retQ [(2, none)] k) (env0 args 3) h) : CallE Try.prog fn_slices_ContainsFunc_S_int_int args h k := enter Try.func26 rfl IR_slices_ContainsFunc_S_int_int hargs hw

def H_slices_IndexFunc_S_impl_Transition_impl_Transition : Hint := ⟨[(0, false), (1, false), (4, false), (5, false), (7, false), (8, false)], [[2, 3]]⟩
def K_slices_IndexFunc_S_impl_Transition_impl_Transition_1 : C := .seq (.pl <| .st (.ext 6 0) <|
    .st (.act none (.px (some 2) (.mv (.c (.int .i64 (-1)))))) .done) (.ret)
@[simp] def W_slices_IndexFunc_S_impl_Transition_impl_Transition_1 := @C.wpe _ _ K_slices_IndexFunc_S_impl_Transition_impl_Transition_1.eq_1
def K_slices_IndexFunc_S_impl_Transition_impl_Transition_2 : C := .pl <| .st (.ext 6 1) <|
    .st (.act none (.px (some 6) (.bin .add (.v 5) (.c (.int .i64 1))))) <|
    .st (.act none (.px (some 5) (.mv (.v 6)))) .done
@[simp] def W_slices_IndexFunc_S_impl_Transition_impl_Transition_2 := @C.wpe _ _ K_slices_IndexFunc_S_impl_Transition_impl_Transition_2.eq_1
def K_slices_IndexFunc_S_impl_Transition_impl_Transition_3 : C := .seq (.pl <| .st (.ext 6 1) <|
    .st (.act none (.px (some 6) (.mv (.v 3)))) <|
    .st (.act none (.px (some 2) (.mv (.v 6)))) .done) (.ret)
@[simp] def W_slices_IndexFunc_S_impl_Transition_impl_Transition_3 := @C.wpe _ _ K_slices_IndexFunc_S_impl_Transition_impl_Transition_3.eq_1
def K_slices_IndexFunc_S_impl_Transition_impl_Transition_4 : C := .cond 6 (.v 11) K_slices_IndexFunc_S_impl_Transition_impl_Transition_3 (.skip)
@[simp] def W_slices_IndexFunc_S_impl_Transition_impl_Transition_4 := @C.wpe _ _ K_slices_IndexFunc_S_impl_Transition_impl_Transition_4.eq_1
def K_slices_IndexFunc_S_impl_Transition_impl_Transition_5 : C := .seq (.pl <| .st (.ext 6 6) <|
    .st (.act none (.px (some 6) (.mv (.v 1)))) <|
    .st (.act none (.px (some 7) (.mv (.v 0)))) <|
    .st (.act none (.px (some 8) (.mv (.v 3)))) <|
    .st (.act none (.px (some 9) (.ia 4 (.v 7) (.v 8)))) <|
    .st (.act none (.ld (some 10) (.v 9) (some 4))) <|
    .st (.act none (.ex (some 11) (.callv (.v 6) [.v 10]))) .done) K_slices_IndexFunc_S_impl_Transition_impl_Transition_4
@[simp] def W_slices_IndexFunc_S_impl_Transition_impl_Transition_5 := @C.wpe _ _ K_slices_IndexFunc_S_impl_Transition_impl_Transition_5.eq_1
def K_slices_IndexFunc_S_impl_Transition_impl_Transition_6 : C := .seq (.block 1 (.seq (.pl <| .st (.ext 6 1) <|
    .st (.act none (.px (some 6) (.mv (.v 5)))) <|
    .st (.act none (.px (some 3) (.mv (.v 6)))) .done) K_slices_IndexFunc_S_impl_Transition_impl_Transition_5)) K_slices_IndexFunc_S_impl_Transition_impl_Transition_2
@[simp] def W_slices_IndexFunc_S_impl_Transition_impl_Transition_6 := @C.wpe _ _ K_slices_IndexFunc_S_impl_Transition_impl_Transition_6.eq_1
def K_slices_IndexFunc_S_impl_Transition_impl_Transition_7 : C := .seq (.cond 6 (.v 6) (.skip) (.exit 0)) K_slices_IndexFunc_S_impl_Transition_impl_Transition_6
@[simp] def W_slices_IndexFunc_S_impl_Transition_impl_Transition_7 := @C.wpe _ _ K_slices_IndexFunc_S_impl_Transition_impl_Transition_7.eq_1
def K_slices_IndexFunc_S_impl_Transition_impl_Transition_8 : C := .seq (.pl <| .st (.ext 6 1) <|
    .st (.act none (.px (some 6) (.bin .lss (.v 5) (.v 4)))) .done) K_slices_IndexFunc_S_impl_Transition_impl_Transition_7
@[simp] def W_slices_IndexFunc_S_impl_Transition_impl_Transition_8 := @C.wpe _ _ K_slices_IndexFunc_S_impl_Transition_impl_Transition_8.eq_1
def K_slices_IndexFunc_S_impl_Transition_impl_Transition_9 : C := .block 0 (.loop 6 [2, 3] K_slices_IndexFunc_S_impl_Transition_impl_Transition_8)
@[simp] def W_slices_IndexFunc_S_impl_Transition_impl_Transition_9 := @C.wpe _ _ K_slices_IndexFunc_S_impl_Transition_impl_Transition_9.eq_1
def K_slices_IndexFunc_S_impl_Transition_impl_Transition_10 : C := .seq (.seq (.pl <| .st (.ext 6 1) <|
    .st (.act none (.px (some 6) (.mv (.v 0)))) <|
    .st (.act none (.px (some 4) (.lenV (.v 6)))) <|
    .st (.act none (.px (some 5) (.mv (.c (.int .i64 0))))) .done) K_slices_IndexFunc_S_impl_Transition_impl_Transition_9) K_slices_IndexFunc_S_impl_Transition_impl_Transition_1
@[simp] def W_slices_IndexFunc_S_impl_Transition_impl_Transition_10 := @C.wpe _ _ K_slices_IndexFunc_S_impl_Transition_impl_Transition_10.eq_1
def B_slices_IndexFunc_S_impl_Transition_impl_Transition : C := .seq (.pl <| .st (.ext 6 0) <|
    .st (.act none (.px (some 2) (.mv (.c (.int .i64 0))))) .done) K_slices_IndexFunc_S_impl_Transition_impl_Transition_10
@[simp] def WB_slices_IndexFunc_S_impl_Transition_impl_Transition := @C.wpe _ _ B_slices_IndexFunc_S_impl_Transition_impl_Transition.eq_1
def R_slices_IndexFunc_S_impl_Transition_impl_Transition : FIR := ⟨B_slices_IndexFunc_S_impl_Transition_impl_Transition, 6, [(2, none)]⟩
theorem IR_slices_IndexFunc_S_impl_Transition_impl_Transition : cfun Try.prog H_slices_IndexFunc_S_impl_Transition_impl_Transition Try.f54 = some R_slices_IndexFunc_S_impl_Transition_impl_Transition := by kernel_rfl
theorem EN_slices_IndexFunc_S_impl_Transition_impl_Transition {args : List Value} {h : Heap} {k : Value → Heap → Prop} (hargs : args.length = 2) (hw : B_slices_IndexFunc_S_impl_Transition_impl_Transition.wp Try.prog (retQ [(2, none)] k) (env0 args 6) h) : CallE Try.prog fn_slices_IndexFunc_S_impl_Transition_impl_Transition args h k := enter Try.func54 rfl IR_slices_IndexFunc_S_impl_Transition_impl_Transition hargs hw

def H_slices_IndexFunc_S_int_int : Hint := ⟨[(0, false), (1, false), (4, false), (5, false), (7, false), (8, false)], [[2, 3]]⟩
def K_slices_IndexFunc_S_int_int_1 : C := .seq (.pl <| .st (.ext 6 0) <|
    .st (.act none (.px (some 2) (.mv (.c (.int .i64 (-1)))))) .done) (.ret)
@[simp] def W_slices_IndexFunc_S_int_int_1 := @C.wpe _ _ K_slices_IndexFunc_S_int_int_1.eq_1
def K_slices_IndexFunc_S_int_int_2 : C := .pl <| .st (.ext 6 1) <|
    .st (.act none (.px (some 6) (.bin .add (.v 5) (.c (.int .i64 1))))) <|
    .st (.act none (.px (some 5) (.mv (.v 6)))) .done
@[simp] def W_slices_IndexFunc_S_int_int_2 := @C.wpe _ _ K_slices_IndexFunc_S_int_int_2.eq_1
def K_slices_IndexFunc_S_int_int_3 : C := .seq (.pl <| .st (.ext 6 1) <|
    .st (.act none (.px (some 6) (.mv (.v 3)))) <|
    .st (.act none (.px (some 2) (.mv (.v 6)))) .done) (.ret)
@[simp] def W_slices_IndexFunc_S_int_int_3 := @C.wpe _ _ K_slices_IndexFunc_S_int_int_3.eq_1
def K_slices_IndexFunc_S_int_int_4 : C := .cond 6 (.v 11) K_slices_IndexFunc_S_int_int_3 (.skip)
@[simp] def W_slices_IndexFunc_S_int_int_4 := @C.wpe _ _ K_slices_IndexFunc_S_int_int_4.eq_1
def K_slices_IndexFunc_S_int_int_5 : C := .seq (.pl <| .st (.ext 6 6) <|
    .st (.act none (.px (some 6) (.mv (.v 1)))) <|
    .st (.act none (.px (some 7) (.mv (.v 0)))) <|
    .st (.act none (.px (some 8) (.mv (.v 3)))) <|
    .st (.act none (.px (some 9) (.ia 1 (.v 7) (.v 8)))) <|
    .st (.act none (.ld (some 10) (.v 9) none)) <|
    .st (.act none (.ex (some 11) (.callv (.v 6) [.v 10]))) .done) K_slices_IndexFunc_S_int_int_4
@[simp] def W_slices_IndexFunc_S_int_int_5 := @C.wpe _ _ K_slices_IndexFunc_S_int_int_5.eq_1
def K_slices_IndexFunc_S_int_int_6 : C := .seq (.block 1 (.seq (.pl <| .st (.ext 6 1) <|
    .st (.act none (.px (some 6) (.mv (.v 5)))) <|
    .st (.act none (.px (some 3) (.mv (.v 6)))) .done) K_slices_IndexFunc_S_int_int_5)) K_slices_IndexFunc_S_int_int_2
@[simp] def W_slices_IndexFunc_S_int_int_6 := @C.wpe _ _ K_slices_IndexFunc_S_int_int_6.eq_1
def K_slices_IndexFunc_S_int_int_7 : C := .seq (.cond 6 (.v 6) (.skip) (.exit 0)) K_slices_IndexFunc_S_int_int_6
@[simp] def W_slices_IndexFunc_S_int_int_7 := @C.wpe _ _ K_slices_IndexFunc_S_int_int_7.eq_1
def K_slices_IndexFunc_S_int_int_8 : C := .seq (.pl <| .st (.ext 6 1) <|
    .st (.act none (.px (some 6) (.bin .lss (.v 5) (.v 4)))) .done) K_slices_IndexFunc_S_int_int_7
@[simp] def W_slices_IndexFunc_S_int_int_8 := @C.wpe _ _ K_slices_IndexFunc_S_int_int_8.eq_1
def K_slices_IndexFunc_S_int_int_9 : C := .block 0 (.loop 6 [2, 3] K_slices_IndexFunc_S_int_int_8)
@[simp] def W_slices_IndexFunc_S_int_int_9 := @C.wpe _ _ K_slices_IndexFunc_S_int_int_9.eq_1
def K_slices_IndexFunc_S_int_int_10 : C := .seq (.seq (.pl <| .st (.ext 6 1) <|
    .st (.act none (.px (some 6) (.mv (.v 0)))) <|
    .st (.act none (.px (some 4) (.lenV (.v 6)))) <|
    .st (.act none (.px (some 5) (.mv (.c (.int .i64 0))))) .done) K_slices_IndexFunc_S_int_int_9) K_slices_IndexFunc_S_int_int_1
@[simp] def W_slices_IndexFunc_S_int_int_10 := @C.wpe _ _ K_slices_IndexFunc_S_int_int_10.eq_1
def B_slices_IndexFunc_S_int_int : C := .seq (.pl <| .st (.ext 6 0) <|
    .st (.act none (.px (some 2) (.mv (.c (.int .i64 0))))) .done) K_slices_IndexFunc_S_int_int_10
@[simp] def WB_slices_IndexFunc_S_int_int := @C.wpe _ _ B_slices_IndexFunc_S_int_int.eq_1
def R_slices_IndexFunc_S_int_int : FIR := ⟨B_slices_IndexFunc_S_int_int, 6, [(2, none)]⟩
theorem IR_slices_IndexFunc_S_int_int : cfun Try.prog H_slices_IndexFunc_S_int_int Try.f44 = some R_slices_IndexFunc_S_int_int := by kernel_rfl
theorem EN_slices_IndexFunc_S_int_int {args : List Value} {h : Heap} {k : Value → Heap → Prop} (hargs : args.length = 2) (hw : B_slices_IndexFunc_S_int_int.wp Try.prog (retQ [(2, none)] k) (env0 args 6) h) : CallE Try.prog fn_slices_IndexFunc_S_int_int args h k := enter Try.func44 rfl IR_slices_IndexFunc_S_int_int hargs hw

def H_spec_AutomatonValid : Hint := ⟨[(0, false), (1, true), (2, false), (3, false), (4, false), (5, false)], [[0, 2, 5], [0, 2, 4]]⟩
def K_spec_AutomatonValid_1 : C := .seq (.pl <| .st (.ext 6 0) <|
    .st (.act none (.px (some 2) (.mv (.c (.bool true))))) .done) (.ret)
@[simp] def W_spec_AutomatonValid_1 := @C.wpe _ _ K_spec_AutomatonValid_1.eq_1
def K_spec_AutomatonValid_2 : C := .pl <| .st (.ext 6 2) <|
    .st (.act none (.px (some 6) (.mv (.v 5)))) <|
    .st (.act none (.px (some 7) (.bin .add (.v 6) (.c (.int .i64 1))))) <|
    .st (.act none (.px (some 5) (.mv (.v 7)))) .done
@[simp] def W_spec_AutomatonValid_2 := @C.wpe _ _ K_spec_AutomatonValid_2.eq_1
def K_spec_AutomatonValid_3 : C := .seq (.pl <| .st (.ext 6 0) <|
    .st (.act none (.px (some 2) (.mv (.c (.bool false))))) .done) (.ret)
@[simp] def W_spec_AutomatonValid_3 := @C.wpe _ _ K_spec_AutomatonValid_3.eq_1
def K_spec_AutomatonValid_4 : C := .cond 6 (.v 13) K_spec_AutomatonValid_3 (.skip)
@[simp] def W_spec_AutomatonValid_4 := @C.wpe _ _ K_spec_AutomatonValid_4.eq_1
def K_spec_AutomatonValid_5 : Pl := .st (.act none (.px (some 13) (.un .not (.v 12)))) .done
@[simp] def W_spec_AutomatonValid_5 := @Pl.wpe _ _ K_spec_AutomatonValid_5.eq_1
def K_spec_AutomatonValid_6 : C := .seq (.block 3 (.seq (.pl <| .st (.ext 6 8) <|
    .st (.act none (.als 6 none 1)) <|
    .st (.act none (.pget (some 7) (some 6) 1 2 none)) <|
    .st (.act none (.px (some 8) (.mv (.v 5)))) <|
    .st (.act none (.px (some 9) (.ia 4 (.v 7) (.v 8)))) <|
    .st (.act none (.ld (some 10) (.v 9) (some 4))) <|
    .st (.act none (.px (some 11) (.mv (.v 3)))) <|
    .st (.act none (.ex (some 12) (.call fn_spec_l7Edge [.v 10, .v 11]))) K_spec_AutomatonValid_5) K_spec_AutomatonValid_4)) K_spec_AutomatonValid_2
@[simp] def W_spec_AutomatonValid_6 := @C.wpe _ _ K_spec_AutomatonValid_6.eq_1
def K_spec_AutomatonValid_7 : C := .cond 6 (.v 10) (.skip) (.exit 2)
@[simp] def W_spec_AutomatonValid_7 := @C.wpe _ _ K_spec_AutomatonValid_7.eq_1
def K_spec_AutomatonValid_8 : C := .seq (.seq (.pl <| .st (.ext 6 5) <|
    .st (.act none (.px (some 6) (.mv (.v 5)))) <|
    .st (.act none (.als 7 none 1)) <|
    .st (.act none (.pget (some 8) (some 7) 1 2 none)) <|
    .st (.act none (.px (some 9) (.lenV (.v 8)))) <|
    .st (.act none (.px (some 10) (.bin .lss (.v 6) (.v 9)))) .done) K_spec_AutomatonValid_7) K_spec_AutomatonValid_6
@[simp] def W_spec_AutomatonValid_8 := @C.wpe _ _ K_spec_AutomatonValid_8.eq_1
def K_spec_AutomatonValid_9 : C := .block 2 (.loop 6 [0, 2, 4] K_spec_AutomatonValid_8)
@[simp] def W_spec_AutomatonValid_9 := @C.wpe _ _ K_spec_AutomatonValid_9.eq_1
def K_spec_AutomatonValid_10 : C := .seq (.seq (.pl <| .st (.ext 6 0) <|
    .st (.act none (.px (some 5) (.mv (.c (.int .i64 0))))) .done) K_spec_AutomatonValid_9) K_spec_AutomatonValid_1
@[simp] def W_spec_AutomatonValid_10 := @C.wpe _ _ K_spec_AutomatonValid_10.eq_1
def K_spec_AutomatonValid_11 : C := .pl <| .st (.ext 6 2) <|
    .st (.act none (.px (some 6) (.mv (.v 4)))) <|
    .st (.act none (.px (some 7) (.bin .add (.v 6) (.c (.int .i64 1))))) <|
    .st (.act none (.px (some 4) (.mv (.v 7)))) .done
@[simp] def W_spec_AutomatonValid_11 := @C.wpe _ _ K_spec_AutomatonValid_11.eq_1
def K_spec_AutomatonValid_12 : C := .seq (.pl <| .st (.ext 6 0) <|
    .st (.act none (.px (some 2) (.mv (.c (.bool false))))) .done) (.ret)
@[simp] def W_spec_AutomatonValid_12 := @C.wpe _ _ K_spec_AutomatonValid_12.eq_1
def K_spec_AutomatonValid_13 : C := .cond 6 (.v 38) K_spec_AutomatonValid_12 (.skip)
@[simp] def W_spec_AutomatonValid_13 := @C.wpe _ _ K_spec_AutomatonValid_13.eq_1
def K_spec_AutomatonValid_14 : C := .seq (.block 1 (.seq (.pl <| .st (.ext 6 33) <|
    .st (.act none (.als 6 none 1)) <|
    .st (.act none (.pget (some 7) (some 6) 1 0 none)) <|
    .st (.act none (.px (some 8) (.mv (.v 4)))) <|
    .st (.act none (.px (some 9) (.ia 1 (.v 7) (.v 8)))) <|
    .st (.act none (.ld (some 10) (.v 9) none)) <|
    .st (.act none (.px (some 11) (.bin .lss (.v 10) (.c (.int .i64 0))))) <|
    .st (.act none (.px (some 12) (.mv (.v 11)))) <|
    .st (.act (some (.v 12, false)) (.als 13 none 1)) <|
    .st (.act (some (.v 12, false)) (.pget (some 14) (some 13) 1 0 none)) <|
    .st (.act (some (.v 12, false)) (.px (some 15) (.mv (.v 4)))) <|
    .st (.act (some (.v 12, false)) (.px (some 16) (.ia 1 (.v 14) (.v 15)))) <|
    .st (.act (some (.v 12, false)) (.ld (some 17) (.v 16) none)) <|
    .st (.act (some (.v 12, false)) (.px (some 18) (.mv (.v 3)))) <|
    .st (.act (some (.v 12, false)) (.px (some 19) (.bin .geq (.v 17) (.v 18)))) <|
    .st (.act none (.px (some 20) (.pick (.v 12) (.c (.bool true)) (.v 19)))) <|
    .st (.act none (.px (some 21) (.mv (.v 20)))) <|
    .st (.act (some (.v 21, false)) (.px (some 22) (.mv (.v 4)))) <|
    .st (.act (some (.v 21, false)) (.px (some 23) (.bin .gtr (.v 22) (.c (.int .i64 0))))) <|
    .st (.act (some (.v 21, false)) (.px (some 24) (.mv (.v 23)))) <|
    .st (.act (some (.v 24, true)) (.als 25 none 1)) <|
    .st (.act (some (.v 24, true)) (.pget (some 26) (some 25) 1 0 none)) <|
    .st (.act (some (.v 24, true)) (.px (some 27) (.mv (.v 4)))) <|
    .st (.act (some (.v 24, true)) (.px (some 28) (.bin .sub (.v 27) (.c (.int .i64 1))))) <|
    .st (.act (some (.v 24, true)) (.px (some 29) (.ia 1 (.v 26) (.v 28)))) <|
    .st (.act (some (.v 24, true)) (.ld (some 30) (.v 29) none)) <|
    .st (.act (some (.v 24, true)) (.als 31 none 1)) <|
    .st (.act (some (.v 24, true)) (.pget (some 32) (some 31) 1 0 none)) <|
    .st (.act (some (.v 24, true)) (.px (some 33) (.mv (.v 4)))) <|
    .st (.act (some (.v 24, true)) (.px (some 34) (.ia 1 (.v 32) (.v 33)))) <|
    .st (.act (some (.v 24, true)) (.ld (some 35) (.v 34) none)) <|
    .st (.act (some (.v 24, true)) (.px (some 36) (.bin .geq (.v 30) (.v 35)))) <|
    .st (.act (some (.v 21, false)) (.px (some 37) (.pick (.v 24) (.v 36) (.c (.bool false))))) <|
    .st (.act none (.px (some 38) (.pick (.v 21) (.c (.bool true)) (.v 37)))) .done) K_spec_AutomatonValid_13)) K_spec_AutomatonValid_11
@[simp] def W_spec_AutomatonValid_14 := @C.wpe _ _ K_spec_AutomatonValid_14.eq_1
def K_spec_AutomatonValid_15 : C := .cond 6 (.v 10) (.skip) (.exit 0)
@[simp] def W_spec_AutomatonValid_15 := @C.wpe _ _ K_spec_AutomatonValid_15.eq_1
def K_spec_AutomatonValid_16 : C := .seq (.seq (.pl <| .st (.ext 6 5) <|
    .st (.act none (.px (some 6) (.mv (.v 4)))) <|
    .st (.act none (.als 7 none 1)) <|
    .st (.act none (.pget (some 8) (some 7) 1 0 none)) <|
    .st (.act none (.px (some 9) (.lenV (.v 8)))) <|
    .st (.act none (.px (some 10) (.bin .lss (.v 6) (.v 9)))) .done) K_spec_AutomatonValid_15) K_spec_AutomatonValid_14
@[simp] def W_spec_AutomatonValid_16 := @C.wpe _ _ K_spec_AutomatonValid_16.eq_1
def K_spec_AutomatonValid_17 : C := .block 0 (.loop 6 [0, 2, 5] K_spec_AutomatonValid_16)
@[simp] def W_spec_AutomatonValid_17 := @C.wpe _ _ K_spec_AutomatonValid_17.eq_1
def K_spec_AutomatonValid_18 : C := .seq (.seq (.pl <| .st (.ext 6 0) <|
    .st (.act none (.px (some 4) (.mv (.c (.int .i64 0))))) .done) K_spec_AutomatonValid_17) K_spec_AutomatonValid_10
@[simp] def W_spec_AutomatonValid_18 := @C.wpe _ _ K_spec_AutomatonValid_18.eq_1
def K_spec_AutomatonValid_19 : C := .seq (.pl <| .st (.ext 6 0) <|
    .st (.act none (.px (some 2) (.mv (.c (.bool false))))) .done) (.ret)
@[simp] def W_spec_AutomatonValid_19 := @C.wpe _ _ K_spec_AutomatonValid_19.eq_1
def K_spec_AutomatonValid_20 : C := .cond 6 (.v 24) K_spec_AutomatonValid_19 (.skip)
@[simp] def W_spec_AutomatonValid_20 := @C.wpe _ _ K_spec_AutomatonValid_20.eq_1
def K_spec_AutomatonValid_21 : C := .seq (.seq (.pl <| .st (.ext 6 19) <|
    .st (.act none (.px (some 6) (.mv (.v 3)))) <|
    .st (.act none (.px (some 7) (.bin .lss (.v 6) (.c (.int .i64 1))))) <|
    .st (.act none (.px (some 8) (.mv (.v 7)))) <|
    .st (.act (some (.v 8, false)) (.px (some 9) (.mv (.v 3)))) <|
    .st (.act (some (.v 8, false)) (.px (some 10) (.bin .gtr (.v 9) (.c (.int .i64 64))))) <|
    .st (.act none (.px (some 11) (.pick (.v 8) (.c (.bool true)) (.v 10)))) <|
    .st (.act none (.px (some 12) (.mv (.v 11)))) <|
    .st (.act (some (.v 12, false)) (.als 13 none 1)) <|
    .st (.act (some (.v 12, false)) (.pget (some 14) (some 13) 1 0 none)) <|
    .st (.act (some (.v 12, false)) (.px (some 15) (.lenV (.v 14)))) <|
    .st (.act (some (.v 12, false)) (.px (some 16) (.mv (.v 3)))) <|
    .st (.act (some (.v 12, false)) (.px (some 17) (.bin .gtr (.v 15) (.v 16)))) <|
    .st (.act none (.px (some 18) (.pick (.v 12) (.c (.bool true)) (.v 17)))) <|
    .st (.act none (.px (some 19) (.mv (.v 18)))) <|
    .st (.act (some (.v 19, false)) (.als 20 none 1)) <|
    .st (.act (some (.v 19, false)) (.pget (some 21) (some 20) 1 2 none)) <|
    .st (.act (some (.v 19, false)) (.px (some 22) (.lenV (.v 21)))) <|
    .st (.act (some (.v 19, false)) (.px (some 23) (.bin .gtr (.v 22) (.c (.int .i64 2048))))) <|
    .st (.act none (.px (some 24) (.pick (.v 19) (.c (.bool true)) (.v 23)))) .done) K_spec_AutomatonValid_20) K_spec_AutomatonValid_18
@[simp] def W_spec_AutomatonValid_21 := @C.wpe _ _ K_spec_AutomatonValid_21.eq_1
def K_spec_AutomatonValid_22 : C := .seq (.pl <| .st (.ext 6 3) <|
    .st (.act none (.als 6 none 1)) <|
    .st (.act none (.pget (some 7) (some 6) 1 1 none)) <|
    .st (.act none (.px (some 8) (.lenV (.v 7)))) <|
    .st (.act none (.px (some 3) (.mv (.v 8)))) .done) K_spec_AutomatonValid_21
@[simp] def W_spec_AutomatonValid_22 := @C.wpe _ _ K_spec_AutomatonValid_22.eq_1
def B_spec_AutomatonValid : C := .seq (.pl <| .st (.ext 6 0) <|
    .st (.act none (.pnew 1 (.v 0) [])) <|
    .st (.act none (.px (some 2) (.mv (.c (.bool false))))) .done) K_spec_AutomatonValid_22
@[simp] def WB_spec_AutomatonValid := @C.wpe _ _ B_spec_AutomatonValid.eq_1
def R_spec_AutomatonValid : FIR := ⟨B_spec_AutomatonValid, 6, [(2, none)]⟩
theorem IR_spec_AutomatonValid : cfun Try.prog H_spec_AutomatonValid Try.f32 = some R_spec_AutomatonValid := by kernel_rfl
theorem EN_spec_AutomatonValid {args : List Value} {h : Heap} {k : Value → Heap → Prop} (hargs : args.length = 1) (hw : B_spec_AutomatonValid.wp Try.prog (retQ [(2, none)] k) (env0 args 6) h) : CallE Try.prog fn_spec_AutomatonValid args h k := enter Try.func32 rfl IR_spec_AutomatonValid hargs hw

def H_spec_IncludesAutomaton : Hint := ⟨[(0, false), (1, false), (2, true), (3, true), (4, false), (5, true), (6, false), (7, false), (8, false), (9, false), (10, false), (11, false)], [[0, 1, 4, 5, 6, 10, 11], [0, 1, 4, 5, 6]]⟩
def K_spec_IncludesAutomaton_1 : C := .seq (.pl <| .st (.ext 12 0) <|
    .st (.act none (.px (some 4) (.mv (.c (.bool true))))) .done) (.ret)
@[simp] def W_spec_IncludesAutomaton_1 := @C.wpe _ _ K_spec_IncludesAutomaton_1.eq_1
def K_spec_IncludesAutomaton_2 : C := .pl <| .st (.ext 12 2) <|
    .st (.act none (.px (some 12) (.mv (.v 9)))) <|
    .st (.act none (.px (some 13) (.bin .add (.v 12) (.c (.int .i64 1))))) <|
    .st (.act none (.px (some 9) (.mv (.v 13)))) .done
@[simp] def W_spec_IncludesAutomaton_2 := @C.wpe _ _ K_spec_IncludesAutomaton_2.eq_1
def K_spec_IncludesAutomaton_3 : C := .seq (.pl <| .st (.ext 12 0) <|
    .st (.act none (.px (some 4) (.mv (.c (.bool false))))) .done) (.ret)
@[simp] def W_spec_IncludesAutomaton_3 := @C.wpe _ _ K_spec_IncludesAutomaton_3.eq_1
def K_spec_IncludesAutomaton_4 : C := .cond 12 (.v 13) K_spec_IncludesAutomaton_3 (.skip)
@[simp] def W_spec_IncludesAutomaton_4 := @C.wpe _ _ K_spec_IncludesAutomaton_4.eq_1
def K_spec_IncludesAutomaton_5 : C := .seq (.pl <| .st (.ext 12 2) <|
    .st (.act none (.px (some 12) (.mv (.v 10)))) <|
    .st (.act none (.px (some 13) (.un .not (.v 12)))) .done) K_spec_IncludesAutomaton_4
@[simp] def W_spec_IncludesAutomaton_5 := @C.wpe _ _ K_spec_IncludesAutomaton_5.eq_1
def K_spec_IncludesAutomaton_6 : C := .pl <| .st (.ext 12 2) <|
    .st (.act none (.px (some 12) (.mv (.v 11)))) <|
    .st (.act none (.px (some 13) (.bin .add (.v 12) (.c (.int .i64 1))))) <|
    .st (.act none (.px (some 11) (.mv (.v 13)))) .done
@[simp] def W_spec_IncludesAutomaton_6 := @C.wpe _ _ K_spec_IncludesAutomaton_6.eq_1
def K_spec_IncludesAutomaton_7 : C := .seq (.block 3 (.pl <| .st (.ext 12 20) <|
    .st (.act none (.px (some 12) (.mv (.v 10)))) <|
    .st (.act none (.px (some 13) (.mv (.v 12)))) <|
    .st (.act (some (.v 13, false)) (.px (some 14) (.mv (.v 7)))) <|
    .st (.act (some (.v 13, false)) (.als 15 none 2)) <|
    .st (.act (some (.v 13, false)) (.pget (some 16) (some 15) 2 0 none)) <|
    .st (.act (some (.v 13, false)) (.px (some 17) (.mv (.v 9)))) <|
    .st (.act (some (.v 13, false)) (.px (some 18) (.ia 1 (.v 16) (.v 17)))) <|
    .st (.act (some (.v 13, false)) (.ld (some 19) (.v 18) none)) <|
    .st (.act (some (.v 13, false)) (.px (some 20) (.ia 1 (.v 14) (.v 19)))) <|
    .st (.act (some (.v 13, false)) (.ld (some 21) (.v 20) none)) <|
    .st (.act (some (.v 13, false)) (.px (some 22) (.mv (.v 8)))) <|
    .st (.act (some (.v 13, false)) (.als 23 none 3)) <|
    .st (.act (some (.v 13, false)) (.pget (some 24) (some 23) 3 0 none)) <|
    .st (.act (some (.v 13, false)) (.px (some 25) (.mv (.v 11)))) <|
    .st (.act (some (.v 13, false)) (.px (some 26) (.ia 1 (.v 24) (.v 25)))) <|
    .st (.act (some (.v 13, false)) (.ld (some 27) (.v 26) none)) <|
    .st (.act (some (.v 13, false)) (.px (some 28) (.bin .add (.v 22) (.v 27)))) <|
    .st (.act (some (.v 13, false)) (.px (some 29) (.ia 1 (.v 21) (.v 28)))) <|
    .st (.act (some (.v 13, false)) (.ld (some 30) (.v 29) none)) <|
    .st (.act none (.px (some 31) (.pick (.v 13) (.c (.bool true)) (.v 30)))) <|
    .st (.act none (.px (some 10) (.mv (.v 31)))) .done)) K_spec_IncludesAutomaton_6
@[simp] def W_spec_IncludesAutomaton_7 := @C.wpe _ _ K_spec_IncludesAutomaton_7.eq_1
def K_spec_IncludesAutomaton_8 : C := .cond 12 (.v 16) (.skip) (.exit 2)
@[simp] def W_spec_IncludesAutomaton_8 := @C.wpe _ _ K_spec_IncludesAutomaton_8.eq_1
def K_spec_IncludesAutomaton_9 : C := .seq (.seq (.pl <| .st (.ext 12 5) <|
    .st (.act none (.px (some 12) (.mv (.v 11)))) <|
    .st (.act none (.als 13 none 3)) <|
    .st (.act none (.pget (some 14) (some 13) 3 0 none)) <|
    .st (.act none (.px (some 15) (.lenV (.v 14)))) <|
    .st (.act none (.px (some 16) (.bin .lss (.v 12) (.v 15)))) .done) K_spec_IncludesAutomaton_8) K_spec_IncludesAutomaton_7
@[simp] def W_spec_IncludesAutomaton_9 := @C.wpe _ _ K_spec_IncludesAutomaton_9.eq_1
def K_spec_IncludesAutomaton_10 : C := .block 2 (.loop 12 [0, 1, 4, 5, 6] K_spec_IncludesAutomaton_9)
@[simp] def W_spec_IncludesAutomaton_10 := @C.wpe _ _ K_spec_IncludesAutomaton_10.eq_1
def K_spec_IncludesAutomaton_11 : C := .seq (.seq (.pl <| .st (.ext 12 0) <|
    .st (.act none (.px (some 11) (.mv (.c (.int .i64 0))))) .done) K_spec_IncludesAutomaton_10) K_spec_IncludesAutomaton_5
@[simp] def W_spec_IncludesAutomaton_11 := @C.wpe _ _ K_spec_IncludesAutomaton_11.eq_1
def K_spec_IncludesAutomaton_12 : C := .seq (.block 1 (.seq (.pl <| .st (.ext 12 0) <|
    .st (.act none (.px (some 10) (.mv (.c (.bool false))))) .done) K_spec_IncludesAutomaton_11)) K_spec_IncludesAutomaton_2
@[simp] def W_spec_IncludesAutomaton_12 := @C.wpe _ _ K_spec_IncludesAutomaton_12.eq_1
def K_spec_IncludesAutomaton_13 : C := .cond 12 (.v 16) (.skip) (.exit 0)
@[simp] def W_spec_IncludesAutomaton_13 := @C.wpe _ _ K_spec_IncludesAutomaton_13.eq_1
def K_spec_IncludesAutomaton_14 : C := .seq (.seq (.pl <| .st (.ext 12 5) <|
    .st (.act none (.px (some 12) (.mv (.v 9)))) <|
    .st (.act none (.als 13 none 2)) <|
    .st (.act none (.pget (some 14) (some 13) 2 0 none)) <|
    .st (.act none (.px (some 15) (.lenV (.v 14)))) <|
    .st (.act none (.px (some 16) (.bin .lss (.v 12) (.v 15)))) .done) K_spec_IncludesAutomaton_13) K_spec_IncludesAutomaton_12
@[simp] def W_spec_IncludesAutomaton_14 := @C.wpe _ _ K_spec_IncludesAutomaton_14.eq_1
def K_spec_IncludesAutomaton_15 : C := .block 0 (.loop 12 [0, 1, 4, 5, 6, 10, 11] K_spec_IncludesAutomaton_14)
@[simp] def W_spec_IncludesAutomaton_15 := @C.wpe _ _ K_spec_IncludesAutomaton_15.eq_1
def K_spec_IncludesAutomaton_16 : C := .seq (.seq (.pl <| .st (.ext 12 0) <|
    .st (.act none (.px (some 9) (.mv (.c (.int .i64 0))))) .done) K_spec_IncludesAutomaton_15) K_spec_IncludesAutomaton_1
@[simp] def W_spec_IncludesAutomaton_16 := @C.wpe _ _ K_spec_IncludesAutomaton_16.eq_1
def K_spec_IncludesAutomaton_17 : C := .seq (.pl <| .st (.ext 12 3) <|
    .st (.act none (.als 12 none 2)) <|
    .st (.act none (.pget (some 13) (some 12) 2 1 none)) <|
    .st (.act none (.px (some 14) (.lenV (.v 13)))) <|
    .st (.act none (.px (some 8) (.mv (.v 14)))) .done) K_spec_IncludesAutomaton_16
@[simp] def W_spec_IncludesAutomaton_17 := @C.wpe _ _ K_spec_IncludesAutomaton_17.eq_1
def K_spec_IncludesAutomaton_18 : Pl := .st (.act none (.px (some 7) (.mv (.v 13)))) .done
@[simp] def W_spec_IncludesAutomaton_18 := @Pl.wpe _ _ K_spec_IncludesAutomaton_18.eq_1
def K_spec_IncludesAutomaton_19 : C := .seq (.pl <| .st (.ext 12 2) <|
    .st (.act none (.pget (some 12) none 5 0 (some 3))) <|
    .st (.act none (.ex (some 13) (.call fn_spec_l13Relation [.v 12]))) K_spec_IncludesAutomaton_18) K_spec_IncludesAutomaton_17
@[simp] def W_spec_IncludesAutomaton_19 := @C.wpe _ _ K_spec_IncludesAutomaton_19.eq_1
def K_spec_IncludesAutomaton_20 : C := .seq (.pl <| .st (.ext 12 0) <|
    .st (.act none (.px (some 4) (.mv (.c (.bool false))))) .done) (.ret)
@[simp] def W_spec_IncludesAutomaton_20 := @C.wpe _ _ K_spec_IncludesAutomaton_20.eq_1
def K_spec_IncludesAutomaton_21 : C := .cond 12 (.v 13) K_spec_IncludesAutomaton_20 (.skip)
@[simp] def W_spec_IncludesAutomaton_21 := @C.wpe _ _ K_spec_IncludesAutomaton_21.eq_1
def K_spec_IncludesAutomaton_22 : C := .seq (.seq (.pl <| .st (.ext 12 2) <|
    .st (.act none (.px (some 12) (.mv (.v 6)))) <|
    .st (.act none (.px (some 13) (.un .not (.v 12)))) .done) K_spec_IncludesAutomaton_21) K_spec_IncludesAutomaton_19
@[simp] def W_spec_IncludesAutomaton_22 := @C.wpe _ _ K_spec_IncludesAutomaton_22.eq_1
def K_spec_IncludesAutomaton_23 : Pl := .st (.act none (.px (some 15) (.mv (.v 14)))) <|
    .st (.act none (.px (some 16) (.extract 0 (.v 15)))) <|
    .st (.act none (.px (some 17) (.extract 1 (.v 15)))) <|
    .st (.act none (.pnew 5 (.c (.agg #[.slice none 0 0, .slice none 0 0, .slice none 0 0])) [])) <|
    .st (.act none (.pset none 5 0 3 (.v 16))) <|
    .st (.act none (.px (some 6) (.mv (.v 17)))) .done
@[simp] def W_spec_IncludesAutomaton_23 := @Pl.wpe _ _ K_spec_IncludesAutomaton_23.eq_1
def K_spec_IncludesAutomaton_24 : C := .seq (.pl <| .st (.ext 12 6) <|
    .st (.act none (.pget (some 12) none 2 0 (some 3))) <|
    .st (.act none (.pget (some 13) none 3 0 (some 3))) <|
    .st (.act none (.ex (some 14) (.call fn_spec_UniteAutomata [.v 12, .v 13]))) K_spec_IncludesAutomaton_23) K_spec_IncludesAutomaton_22
@[simp] def W_spec_IncludesAutomaton_24 := @C.wpe _ _ K_spec_IncludesAutomaton_24.eq_1
def B_spec_IncludesAutomaton : C := .seq (.pl <| .st (.ext 12 0) <|
    .st (.act none (.pnew 2 (.v 0) [])) <|
    .st (.act none (.pnew 3 (.v 1) [])) <|
    .st (.act none (.px (some 4) (.mv (.c (.bool false))))) .done) K_spec_IncludesAutomaton_24
@[simp] def WB_spec_IncludesAutomaton := @C.wpe _ _ B_spec_IncludesAutomaton.eq_1
def R_spec_IncludesAutomaton : FIR := ⟨B_spec_IncludesAutomaton, 12, [(4, none)]⟩
theorem IR_spec_IncludesAutomaton : cfun Try.prog H_spec_IncludesAutomaton Try.f6 = some R_spec_IncludesAutomaton := by kernel_rfl
theorem EN_spec_IncludesAutomaton {args : List Value} {h : Heap} {k : Value → Heap → Prop} (hargs : args.length = 2) (hw : B_spec_IncludesAutomaton.wp Try.prog (retQ [(4, none)] k) (env0 args 12) h) : CallE Try.prog fn_spec_IncludesAutomaton args h k := enter Try.func6 rfl IR_spec_IncludesAutomaton hargs hw

def H_spec_SimulationRelation : Hint := ⟨[(0, false), (1, true), (2, false), (3, false)], []⟩
def K_spec_SimulationRelation_1 : Pl := .st (.act none (.px (some 2) (.mv (.v 5)))) <|
    .st (.act none (.px (some 3) (.mv (.c (.bool true))))) .done
@[simp] def W_spec_SimulationRelation_1 := @Pl.wpe _ _ K_spec_SimulationRelation_1.eq_1
def K_spec_SimulationRelation_2 : C := .seq (.pl <| .st (.ext 4 2) <|
    .st (.act none (.pget (some 4) none 1 0 (some 3))) <|
    .st (.act none (.ex (some 5) (.call fn_spec_l13Relation [.v 4]))) K_spec_SimulationRelation_1) (.ret)
@[simp] def W_spec_SimulationRelation_2 := @C.wpe _ _ K_spec_SimulationRelation_2.eq_1
def K_spec_SimulationRelation_3 : Pl := .st (.act none (.px (some 2) (.mv (.v 4)))) <|
    .st (.act none (.px (some 3) (.mv (.c (.bool false))))) .done
@[simp] def W_spec_SimulationRelation_3 := @Pl.wpe _ _ K_spec_SimulationRelation_3.eq_1
def K_spec_SimulationRelation_4 : C := .seq (.pl <| .st (.ext 4 1) <|
    .st (.act none (.ex (some 4) (.bls 1 0 [.slice none 0 0] []))) K_spec_SimulationRelation_3) (.ret)
@[simp] def W_spec_SimulationRelation_4 := @C.wpe _ _ K_spec_SimulationRelation_4.eq_1
def K_spec_SimulationRelation_5 : C := .cond 4 (.v 6) K_spec_SimulationRelation_4 (.skip)
@[simp] def W_spec_SimulationRelation_5 := @C.wpe _ _ K_spec_SimulationRelation_5.eq_1
def K_spec_SimulationRelation_6 : Pl := .st (.act none (.px (some 6) (.un .not (.v 5)))) .done
@[simp] def W_spec_SimulationRelation_6 := @Pl.wpe _ _ K_spec_SimulationRelation_6.eq_1
def K_spec_SimulationRelation_7 : C := .seq (.seq (.pl <| .st (.ext 4 3) <|
    .st (.act none (.pget (some 4) none 1 0 (some 3))) <|
    .st (.act none (.ex (some 5) (.call fn_spec_AutomatonValid [.v 4]))) K_spec_SimulationRelation_6) K_spec_SimulationRelation_5) K_spec_SimulationRelation_2
@[simp] def W_spec_SimulationRelation_7 := @C.wpe _ _ K_spec_SimulationRelation_7.eq_1
def B_spec_SimulationRelation : C := .seq (.pl <| .st (.ext 4 0) <|
    .st (.act none (.pnew 1 (.v 0) [])) <|
    .st (.act none (.px (some 2) (.mv (.c (.slice none 0 0))))) <|
    .st (.act none (.px (some 3) (.mv (.c (.bool false))))) .done) K_spec_SimulationRelation_7
@[simp] def WB_spec_SimulationRelation := @C.wpe _ _ B_spec_SimulationRelation.eq_1
def R_spec_SimulationRelation : FIR := ⟨B_spec_SimulationRelation, 4, [(2, none), (3, none)]⟩
theorem IR_spec_SimulationRelation : cfun Try.prog H_spec_SimulationRelation Try.f10 = some R_spec_SimulationRelation := by kernel_rfl
theorem EN_spec_SimulationRelation {args : List Value} {h : Heap} {k : Value → Heap → Prop} (hargs : args.length = 1) (hw : B_spec_SimulationRelation.wp Try.prog (retQ [(2, none), (3, none)] k) (env0 args 4) h) : CallE Try.prog fn_spec_SimulationRelation args h k := enter Try.func10 rfl IR_spec_SimulationRelation hargs hw

def H_spec_UniteAutomata : Hint := ⟨[(0, false), (1, false), (2, true), (3, true), (4, true), (5, false), (6, false), (7, true), (8, false), (9, false), (10, true)], [[0, 1, 2, 5, 9, 10], [0, 1, 2, 5, 8, 10]]⟩
def K_spec_UniteAutomata_1 : C := .seq (.pl <| .st (.ext 11 1) <|
    .st (.act none (.pget (some 11) none 7 0 (some 3))) <|
    .st (.act none (.pset none 4 0 3 (.v 11))) <|
    .st (.act none (.px (some 5) (.mv (.c (.bool true))))) .done) (.ret)
@[simp] def W_spec_UniteAutomata_1 := @C.wpe _ _ K_spec_UniteAutomata_1.eq_1
def K_spec_UniteAutomata_2 : C := .seq (.pl <| .st (.ext 11 1) <|
    .st (.act none (.px (some 11) (.build [.slice none 0 0, .slice none 0 0, .slice none 0 0] []))) <|
    .st (.act none (.pset none 4 0 3 (.v 11))) <|
    .st (.act none (.px (some 5) (.mv (.c (.bool false))))) .done) (.ret)
@[simp] def W_spec_UniteAutomata_2 := @C.wpe _ _ K_spec_UniteAutomata_2.eq_1
def K_spec_UniteAutomata_3 : C := .cond 11 (.v 13) K_spec_UniteAutomata_2 (.skip)
@[simp] def W_spec_UniteAutomata_3 := @C.wpe _ _ K_spec_UniteAutomata_3.eq_1
def K_spec_UniteAutomata_4 : Pl := .st (.act none (.px (some 13) (.un .not (.v 12)))) .done
@[simp] def W_spec_UniteAutomata_4 := @Pl.wpe _ _ K_spec_UniteAutomata_4.eq_1
def K_spec_UniteAutomata_5 : C := .seq (.seq (.pl <| .st (.ext 11 3) <|
    .st (.act none (.pget (some 11) none 7 0 (some 3))) <|
    .st (.act none (.ex (some 12) (.call fn_spec_AutomatonValid [.v 11]))) K_spec_UniteAutomata_4) K_spec_UniteAutomata_3) K_spec_UniteAutomata_1
@[simp] def W_spec_UniteAutomata_5 := @C.wpe _ _ K_spec_UniteAutomata_5.eq_1
def K_spec_UniteAutomata_6 : C := .pl <| .st (.ext 11 2) <|
    .st (.act none (.px (some 11) (.mv (.v 9)))) <|
    .st (.act none (.px (some 12) (.bin .add (.v 11) (.c (.int .i64 1))))) <|
    .st (.act none (.px (some 9) (.mv (.v 12)))) .done
@[simp] def W_spec_UniteAutomata_6 := @C.wpe _ _ K_spec_UniteAutomata_6.eq_1
def K_spec_UniteAutomata_7 : Pl := .st (.act none (.als 28 none 7)) <|
    .st (.act none (.pset (some 28) 7 2 1 (.v 27))) .done
@[simp] def W_spec_UniteAutomata_7 := @Pl.wpe _ _ K_spec_UniteAutomata_7.eq_1
def K_spec_UniteAutomata_8 : C := .pl <| .st (.ext 11 18) <|
    .st (.act none (.als 11 none 7)) <|
    .st (.act none (.pget (some 12) (some 11) 7 2 none)) <|
    .st (.act none (.als 13 none 10)) <|
    .st (.act none (.pget (some 14) (some 13) 10 0 none)) <|
    .st (.act none (.px (some 15) (.mv (.v 6)))) <|
    .st (.act none (.px (some 16) (.bin .add (.v 14) (.v 15)))) <|
    .st (.act none (.als 17 none 10)) <|
    .st (.act none (.pget (some 18) (some 17) 10 1 none)) <|
    .st (.act none (.als 19 none 10)) <|
    .st (.act none (.pget (some 20) (some 19) 10 2 none)) <|
    .st (.act none (.als 21 none 10)) <|
    .st (.act none (.pget (some 22) (some 21) 10 3 none)) <|
    .st (.act none (.px (some 23) (.mv (.v 6)))) <|
    .st (.act none (.px (some 24) (.bin .add (.v 22) (.v 23)))) <|
    .st (.act none (.px (some 25) (.build [.int .i64 0, .int .i64 0, .int .i64 0, .int .i64 0] [(0, 1, .v 16), (1, 1, .v 18), (2, 1, .v 20), (3, 1, .v 24)]))) <|
    .st (.act none (.psl 26 [.int .i64 0, .int .i64 0, .int .i64 0, .int .i64 0] [(0, 4, .v 25)])) <|
    .st (.act none (.ex (some 27) (.app 32 4 [.int .i64 0, .int .i64 0, .int .i64 0, .int .i64 0] (.o (.v 12)) (.p 1 26)))) K_spec_UniteAutomata_7
@[simp] def W_spec_UniteAutomata_8 := @C.wpe _ _ K_spec_UniteAutomata_8.eq_1
def K_spec_UniteAutomata_9 : C := .seq (.block 3 (.seq (.pl <| .st (.ext 11 5) <|
    .st (.act none (.als 11 none 3)) <|
    .st (.act none (.pget (some 12) (some 11) 3 2 none)) <|
    .st (.act none (.px (some 13) (.mv (.v 9)))) <|
    .st (.act none (.px (some 14) (.ia 4 (.v 12) (.v 13)))) <|
    .st (.act none (.ld (some 15) (.v 14) (some 4))) <|
    .st (.act none (.pnew 10 (.c (.agg #[.int .i64 0, .int .i64 0, .int .i64 0, .int .i64 0])) [])) <|
    .st (.act none (.pset none 10 0 4 (.v 15))) .done) K_spec_UniteAutomata_8)) K_spec_UniteAutomata_6
@[simp] def W_spec_UniteAutomata_9 := @C.wpe _ _ K_spec_UniteAutomata_9.eq_1
def K_spec_UniteAutomata_10 : C := .cond 11 (.v 15) (.skip) (.exit 2)
@[simp] def W_spec_UniteAutomata_10 := @C.wpe _ _ K_spec_UniteAutomata_10.eq_1
def K_spec_UniteAutomata_11 : C := .seq (.seq (.pl <| .st (.ext 11 5) <|
    .st (.act none (.px (some 11) (.mv (.v 9)))) <|
    .st (.act none (.als 12 none 3)) <|
    .st (.act none (.pget (some 13) (some 12) 3 2 none)) <|
    .st (.act none (.px (some 14) (.lenV (.v 13)))) <|
    .st (.act none (.px (some 15) (.bin .lss (.v 11) (.v 14)))) .done) K_spec_UniteAutomata_10) K_spec_UniteAutomata_9
@[simp] def W_spec_UniteAutomata_11 := @C.wpe _ _ K_spec_UniteAutomata_11.eq_1
def K_spec_UniteAutomata_12 : C := .block 2 (.loop 11 [0, 1, 2, 5, 8, 10] K_spec_UniteAutomata_11)
@[simp] def W_spec_UniteAutomata_12 := @C.wpe _ _ K_spec_UniteAutomata_12.eq_1
def K_spec_UniteAutomata_13 : C := .seq (.seq (.pl <| .st (.ext 11 0) <|
    .st (.act none (.px (some 9) (.mv (.c (.int .i64 0))))) .done) K_spec_UniteAutomata_12) K_spec_UniteAutomata_5
@[simp] def W_spec_UniteAutomata_13 := @C.wpe _ _ K_spec_UniteAutomata_13.eq_1
def K_spec_UniteAutomata_14 : Pl := .st (.act none (.als 16 none 7)) <|
    .st (.act none (.pset (some 16) 7 1 1 (.v 15))) .done
@[simp] def W_spec_UniteAutomata_14 := @Pl.wpe _ _ K_spec_UniteAutomata_14.eq_1
def K_spec_UniteAutomata_15 : C := .seq (.pl <| .st (.ext 11 6) <|
    .st (.act none (.als 11 none 7)) <|
    .st (.act none (.pget (some 12) (some 11) 7 1 none)) <|
    .st (.act none (.als 13 none 3)) <|
    .st (.act none (.pget (some 14) (some 13) 3 1 none)) <|
    .st (.act none (.ex (some 15) (.app 1 1 [.bool false] (.o (.v 12)) (.o (.v 14))))) K_spec_UniteAutomata_14) K_spec_UniteAutomata_13
@[simp] def W_spec_UniteAutomata_15 := @C.wpe _ _ K_spec_UniteAutomata_15.eq_1
def K_spec_UniteAutomata_16 : C := .pl <| .st (.ext 11 2) <|
    .st (.act none (.px (some 11) (.mv (.v 8)))) <|
    .st (.act none (.px (some 12) (.bin .add (.v 11) (.c (.int .i64 1))))) <|
    .st (.act none (.px (some 8) (.mv (.v 12)))) .done
@[simp] def W_spec_UniteAutomata_16 := @C.wpe _ _ K_spec_UniteAutomata_16.eq_1
def K_spec_UniteAutomata_17 : Pl := .st (.act none (.als 22 none 7)) <|
    .st (.act none (.pset (some 22) 7 0 1 (.v 21))) .done
@[simp] def W_spec_UniteAutomata_17 := @Pl.wpe _ _ K_spec_UniteAutomata_17.eq_1
def K_spec_UniteAutomata_18 : C := .seq (.block 1 (.pl <| .st (.ext 11 12) <|
    .st (.act none (.als 11 none 7)) <|
    .st (.act none (.pget (some 12) (some 11) 7 0 none)) <|
    .st (.act none (.als 13 none 3)) <|
    .st (.act none (.pget (some 14) (some 13) 3 0 none)) <|
    .st (.act none (.px (some 15) (.mv (.v 8)))) <|
    .st (.act none (.px (some 16) (.ia 1 (.v 14) (.v 15)))) <|
    .st (.act none (.ld (some 17) (.v 16) none)) <|
    .st (.act none (.px (some 18) (.mv (.v 6)))) <|
    .st (.act none (.px (some 19) (.bin .add (.v 17) (.v 18)))) <|
    .st (.act none (.psl 20 [.int .i64 0] [(0, 1, .v 19)])) <|
    .st (.act none (.ex (some 21) (.app 8 1 [.int .i64 0] (.o (.v 12)) (.p 1 20)))) K_spec_UniteAutomata_17)) K_spec_UniteAutomata_16
@[simp] def W_spec_UniteAutomata_18 := @C.wpe _ _ K_spec_UniteAutomata_18.eq_1
def K_spec_UniteAutomata_19 : C := .cond 11 (.v 15) (.skip) (.exit 0)
@[simp] def W_spec_UniteAutomata_19 := @C.wpe _ _ K_spec_UniteAutomata_19.eq_1
def K_spec_UniteAutomata_20 : C := .seq (.seq (.pl <| .st (.ext 11 5) <|
    .st (.act none (.px (some 11) (.mv (.v 8)))) <|
    .st (.act none (.als 12 none 3)) <|
    .st (.act none (.pget (some 13) (some 12) 3 0 none)) <|
    .st (.act none (.px (some 14) (.lenV (.v 13)))) <|
    .st (.act none (.px (some 15) (.bin .lss (.v 11) (.v 14)))) .done) K_spec_UniteAutomata_19) K_spec_UniteAutomata_18
@[simp] def W_spec_UniteAutomata_20 := @C.wpe _ _ K_spec_UniteAutomata_20.eq_1
def K_spec_UniteAutomata_21 : C := .block 0 (.loop 11 [0, 1, 2, 5, 9, 10] K_spec_UniteAutomata_20)
@[simp] def W_spec_UniteAutomata_21 := @C.wpe _ _ K_spec_UniteAutomata_21.eq_1
def K_spec_UniteAutomata_22 : C := .seq (.seq (.pl <| .st (.ext 11 0) <|
    .st (.act none (.px (some 8) (.mv (.c (.int .i64 0))))) .done) K_spec_UniteAutomata_21) K_spec_UniteAutomata_15
@[simp] def W_spec_UniteAutomata_22 := @C.wpe _ _ K_spec_UniteAutomata_22.eq_1
def K_spec_UniteAutomata_23 : Pl := .st (.act none (.px (some 23) (.build [.slice none 0 0, .slice none 0 0, .slice none 0 0] [(0, 1, .v 14), (1, 1, .v 18), (2, 1, .v 22)]))) <|
    .st (.act none (.pset none 7 0 3 (.v 23))) .done
@[simp] def W_spec_UniteAutomata_23 := @Pl.wpe _ _ K_spec_UniteAutomata_23.eq_1
def K_spec_UniteAutomata_24 : Pl := .st (.act none (.ex (some 22) (.app 32 4 [.int .i64 0, .int .i64 0, .int .i64 0, .int .i64 0] (.p 0 19) (.o (.v 21))))) K_spec_UniteAutomata_23
@[simp] def W_spec_UniteAutomata_24 := @Pl.wpe _ _ K_spec_UniteAutomata_24.eq_1
def K_spec_UniteAutomata_25 : Pl := .st (.act none (.ex (some 18) (.app 1 1 [.bool false] (.p 0 15) (.o (.v 17))))) K_spec_UniteAutomata_24
@[simp] def W_spec_UniteAutomata_25 := @Pl.wpe _ _ K_spec_UniteAutomata_25.eq_1
def K_spec_UniteAutomata_26 : C := .seq (.pl <| .st (.ext 11 13) <|
    .st (.act none (.psl 11 [] [])) <|
    .st (.act none (.als 12 none 2)) <|
    .st (.act none (.pget (some 13) (some 12) 2 0 none)) <|
    .st (.act none (.psl 15 [] [])) <|
    .st (.act none (.als 16 none 2)) <|
    .st (.act none (.pget (some 17) (some 16) 2 1 none)) <|
    .st (.act none (.psl 19 [] [])) <|
    .st (.act none (.als 20 none 2)) <|
    .st (.act none (.pget (some 21) (some 20) 2 2 none)) <|
    .st (.act none (.pnew 7 (.c (.agg #[.slice none 0 0, .slice none 0 0, .slice none 0 0])) [])) <|
    .st (.act none (.ex (some 14) (.app 8 1 [.int .i64 0] (.p 0 11) (.o (.v 13))))) K_spec_UniteAutomata_25) K_spec_UniteAutomata_22
@[simp] def W_spec_UniteAutomata_26 := @C.wpe _ _ K_spec_UniteAutomata_26.eq_1
def K_spec_UniteAutomata_27 : C := .seq (.pl <| .st (.ext 11 3) <|
    .st (.act none (.als 11 none 2)) <|
    .st (.act none (.pget (some 12) (some 11) 2 1 none)) <|
    .st (.act none (.px (some 13) (.lenV (.v 12)))) <|
    .st (.act none (.px (some 6) (.mv (.v 13)))) .done) K_spec_UniteAutomata_26
@[simp] def W_spec_UniteAutomata_27 := @C.wpe _ _ K_spec_UniteAutomata_27.eq_1
def K_spec_UniteAutomata_28 : C := .seq (.pl <| .st (.ext 11 1) <|
    .st (.act none (.px (some 11) (.build [.slice none 0 0, .slice none 0 0, .slice none 0 0] []))) <|
    .st (.act none (.pset none 4 0 3 (.v 11))) <|
    .st (.act none (.px (some 5) (.mv (.c (.bool false))))) .done) (.ret)
@[simp] def W_spec_UniteAutomata_28 := @C.wpe _ _ K_spec_UniteAutomata_28.eq_1
def K_spec_UniteAutomata_29 : C := .cond 11 (.v 18) K_spec_UniteAutomata_28 (.skip)
@[simp] def W_spec_UniteAutomata_29 := @C.wpe _ _ K_spec_UniteAutomata_29.eq_1
def K_spec_UniteAutomata_30 : Pl := .st (.act (some (.v 14, false)) (.px (some 17) (.un .not (.v 16)))) <|
    .st (.act none (.px (some 18) (.pick (.v 14) (.c (.bool true)) (.v 17)))) .done
@[simp] def W_spec_UniteAutomata_30 := @Pl.wpe _ _ K_spec_UniteAutomata_30.eq_1
def K_spec_UniteAutomata_31 : Pl := .st (.act none (.px (some 13) (.un .not (.v 12)))) <|
    .st (.act none (.px (some 14) (.mv (.v 13)))) <|
    .st (.act (some (.v 14, false)) (.pget (some 15) none 3 0 (some 3))) <|
    .st (.act (some (.v 14, false)) (.ex (some 16) (.call fn_spec_AutomatonValid [.v 15]))) K_spec_UniteAutomata_30
@[simp] def W_spec_UniteAutomata_31 := @Pl.wpe _ _ K_spec_UniteAutomata_31.eq_1
def K_spec_UniteAutomata_32 : C := .seq (.seq (.pl <| .st (.ext 11 8) <|
    .st (.act none (.pget (some 11) none 2 0 (some 3))) <|
    .st (.act none (.ex (some 12) (.call fn_spec_AutomatonValid [.v 11]))) K_spec_UniteAutomata_31) K_spec_UniteAutomata_29) K_spec_UniteAutomata_27
@[simp] def W_spec_UniteAutomata_32 := @C.wpe _ _ K_spec_UniteAutomata_32.eq_1
def B_spec_UniteAutomata : C := .seq (.pl <| .st (.ext 11 0) <|
    .st (.act none (.pnew 2 (.v 0) [])) <|
    .st (.act none (.pnew 3 (.v 1) [])) <|
    .st (.act none (.pnew 4 (.c (.agg #[.slice none 0 0, .slice none 0 0, .slice none 0 0])) [])) <|
    .st (.act none (.px (some 5) (.mv (.c (.bool false))))) .done) K_spec_UniteAutomata_32
@[simp] def WB_spec_UniteAutomata := @C.wpe _ _ B_spec_UniteAutomata.eq_1
def R_spec_UniteAutomata : FIR := ⟨B_spec_UniteAutomata, 11, [(4, some (some 3)), (5, none)]⟩
theorem IR_spec_UniteAutomata : cfun Try.prog H_spec_UniteAutomata Try.f19 = some R_spec_UniteAutomata := by kernel_rfl
theorem EN_spec_UniteAutomata {args : List Value} {h : Heap} {k : Value → Heap → Prop} (hargs : args.length = 2) (hw : B_spec_UniteAutomata.wp Try.prog (retQ [(4, some (some 3)), (5, none)] k) (env0 args 11) h) : CallE Try.prog fn_spec_UniteAutomata args h k := enter Try.func19 rfl IR_spec_UniteAutomata hargs hw

def H_spec_l13Answers : Hint := ⟨[(0, false), (1, false), (2, false), (6, false), (7, false), (8, false), (9, false), (10, false)], [[3, 5, 6, 7], [3, 6, 7], [3]]⟩
def K_spec_l13Answers_1 : C := .seq (.pl <| .st (.ext 8 0) <|
    .st (.act none (.px (some 3) (.mv (.c (.bool true))))) .done) (.ret)
@[simp] def W_spec_l13Answers_1 := @C.wpe _ _ K_spec_l13Answers_1.eq_1
def K_spec_l13Answers_2 : C := .pl <| .st (.ext 8 2) <|
    .st (.act none (.px (some 8) (.mv (.v 4)))) <|
    .st (.act none (.px (some 9) (.bin .add (.v 8) (.c (.int .i64 1))))) <|
    .st (.act none (.px (some 4) (.mv (.v 9)))) .done
@[simp] def W_spec_l13Answers_2 := @C.wpe _ _ K_spec_l13Answers_2.eq_1
def K_spec_l13Answers_3 : C := .pl <| .st (.ext 8 2) <|
    .st (.act none (.px (some 8) (.mv (.v 5)))) <|
    .st (.act none (.px (some 9) (.bin .add (.v 8) (.c (.int .i64 1))))) <|
    .st (.act none (.px (some 5) (.mv (.v 9)))) .done
@[simp] def W_spec_l13Answers_3 := @C.wpe _ _ K_spec_l13Answers_3.eq_1
def K_spec_l13Answers_4 : C := .seq (.pl <| .st (.ext 8 0) <|
    .st (.act none (.px (some 3) (.mv (.c (.bool false))))) .done) (.ret)
@[simp] def W_spec_l13Answers_4 := @C.wpe _ _ K_spec_l13Answers_4.eq_1
def K_spec_l13Answers_5 : C := .cond 8 (.v 9) K_spec_l13Answers_4 (.skip)
@[simp] def W_spec_l13Answers_5 := @C.wpe _ _ K_spec_l13Answers_5.eq_1
def K_spec_l13Answers_6 : C := .seq (.pl <| .st (.ext 8 2) <|
    .st (.act none (.px (some 8) (.mv (.v 6)))) <|
    .st (.act none (.px (some 9) (.un .not (.v 8)))) .done) K_spec_l13Answers_5
@[simp] def W_spec_l13Answers_6 := @C.wpe _ _ K_spec_l13Answers_6.eq_1
def K_spec_l13Answers_7 : C := .pl <| .st (.ext 8 2) <|
    .st (.act none (.px (some 8) (.mv (.v 7)))) <|
    .st (.act none (.px (some 9) (.bin .add (.v 8) (.c (.int .i64 1))))) <|
    .st (.act none (.px (some 7) (.mv (.v 9)))) .done
@[simp] def W_spec_l13Answers_7 := @C.wpe _ _ K_spec_l13Answers_7.eq_1
def K_spec_l13Answers_8 : Pl := .st (.act none (.px (some 14) (.mv (.v 13)))) <|
    .st (.act (some (.v 14, true)) (.px (some 15) (.mv (.v 2)))) <|
    .st (.act (some (.v 14, true)) (.px (some 16) (.mv (.v 0)))) <|
    .st (.act (some (.v 14, true)) (.px (some 17) (.mv (.v 5)))) <|
    .st (.act (some (.v 14, true)) (.px (some 18) (.ia 4 (.v 16) (.v 17)))) <|
    .st (.act (some (.v 14, true)) (.px (some 19) (.fa 3 (.v 18)))) <|
    .st (.act (some (.v 14, true)) (.ld (some 20) (.v 19) none)) <|
    .st (.act (some (.v 14, true)) (.px (some 21) (.ia 1 (.v 15) (.v 20)))) <|
    .st (.act (some (.v 14, true)) (.ld (some 22) (.v 21) none)) <|
    .st (.act (some (.v 14, true)) (.px (some 23) (.mv (.v 1)))) <|
    .st (.act (some (.v 14, true)) (.px (some 24) (.mv (.v 7)))) <|
    .st (.act (some (.v 14, true)) (.px (some 25) (.ia 4 (.v 23) (.v 24)))) <|
    .st (.act (some (.v 14, true)) (.px (some 26) (.fa 3 (.v 25)))) <|
    .st (.act (some (.v 14, true)) (.ld (some 27) (.v 26) none)) <|
    .st (.act (some (.v 14, true)) (.px (some 28) (.ia 1 (.v 22) (.v 27)))) <|
    .st (.act (some (.v 14, true)) (.ld (some 29) (.v 28) none)) <|
    .st (.act none (.px (some 30) (.pick (.v 14) (.v 29) (.c (.bool false))))) <|
    .st (.act none (.px (some 6) (.mv (.v 30)))) .done
@[simp] def W_spec_l13Answers_8 := @Pl.wpe _ _ K_spec_l13Answers_8.eq_1
def K_spec_l13Answers_9 : C := .seq (.block 5 (.pl <| .st (.ext 8 23) <|
    .st (.act none (.px (some 8) (.mv (.v 1)))) <|
    .st (.act none (.px (some 9) (.mv (.v 7)))) <|
    .st (.act none (.px (some 10) (.ia 4 (.v 8) (.v 9)))) <|
    .st (.act none (.ld (some 11) (.v 10) (some 4))) <|
    .st (.act none (.px (some 12) (.mv (.v 4)))) <|
    .st (.act none (.ex (some 13) (.call fn_spec_l7On [.v 11, .v 12]))) K_spec_l13Answers_8)) K_spec_l13Answers_7
@[simp] def W_spec_l13Answers_9 := @C.wpe _ _ K_spec_l13Answers_9.eq_1
def K_spec_l13Answers_10 : C := .cond 8 (.v 15) (.skip) (.exit 4)
@[simp] def W_spec_l13Answers_10 := @C.wpe _ _ K_spec_l13Answers_10.eq_1
def K_spec_l13Answers_11 : C := .seq (.seq (.pl <| .st (.ext 8 8) <|
    .st (.act none (.px (some 8) (.mv (.v 7)))) <|
    .st (.act none (.px (some 9) (.mv (.v 1)))) <|
    .st (.act none (.px (some 10) (.lenV (.v 9)))) <|
    .st (.act none (.px (some 11) (.bin .lss (.v 8) (.v 10)))) <|
    .st (.act none (.px (some 12) (.mv (.v 11)))) <|
    .st (.act (some (.v 12, true)) (.px (some 13) (.mv (.v 6)))) <|
    .st (.act (some (.v 12, true)) (.px (some 14) (.un .not (.v 13)))) <|
    .st (.act none (.px (some 15) (.pick (.v 12) (.v 14) (.c (.bool false))))) .done) K_spec_l13Answers_10) K_spec_l13Answers_9
@[simp] def W_spec_l13Answers_11 := @C.wpe _ _ K_spec_l13Answers_11.eq_1
def K_spec_l13Answers_12 : C := .block 4 (.loop 8 [3] K_spec_l13Answers_11)
@[simp] def W_spec_l13Answers_12 := @C.wpe _ _ K_spec_l13Answers_12.eq_1
def K_spec_l13Answers_13 : C := .seq (.seq (.pl <| .st (.ext 8 0) <|
    .st (.act none (.px (some 7) (.mv (.c (.int .i64 0))))) .done) K_spec_l13Answers_12) K_spec_l13Answers_6
@[simp] def W_spec_l13Answers_13 := @C.wpe _ _ K_spec_l13Answers_13.eq_1
def K_spec_l13Answers_14 : C := .seq (.pl <| .st (.ext 8 0) <|
    .st (.act none (.px (some 6) (.mv (.c (.bool false))))) .done) K_spec_l13Answers_13
@[simp] def W_spec_l13Answers_14 := @C.wpe _ _ K_spec_l13Answers_14.eq_1
def K_spec_l13Answers_15 : C := .cond 8 (.v 14) (.exit 3) (.skip)
@[simp] def W_spec_l13Answers_15 := @C.wpe _ _ K_spec_l13Answers_15.eq_1
def K_spec_l13Answers_16 : Pl := .st (.act none (.px (some 14) (.un .not (.v 13)))) .done
@[simp] def W_spec_l13Answers_16 := @Pl.wpe _ _ K_spec_l13Answers_16.eq_1
def K_spec_l13Answers_17 : C := .seq (.block 3 (.seq (.seq (.pl <| .st (.ext 8 7) <|
    .st (.act none (.px (some 8) (.mv (.v 0)))) <|
    .st (.act none (.px (some 9) (.mv (.v 5)))) <|
    .st (.act none (.px (some 10) (.ia 4 (.v 8) (.v 9)))) <|
    .st (.act none (.ld (some 11) (.v 10) (some 4))) <|
    .st (.act none (.px (some 12) (.mv (.v 4)))) <|
    .st (.act none (.ex (some 13) (.call fn_spec_l7On [.v 11, .v 12]))) K_spec_l13Answers_16) K_spec_l13Answers_15) K_spec_l13Answers_14)) K_spec_l13Answers_3
@[simp] def W_spec_l13Answers_17 := @C.wpe _ _ K_spec_l13Answers_17.eq_1
def K_spec_l13Answers_18 : C := .cond 8 (.v 11) (.skip) (.exit 2)
@[simp] def W_spec_l13Answers_18 := @C.wpe _ _ K_spec_l13Answers_18.eq_1
def K_spec_l13Answers_19 : C := .seq (.seq (.pl <| .st (.ext 8 4) <|
    .st (.act none (.px (some 8) (.mv (.v 5)))) <|
    .st (.act none (.px (some 9) (.mv (.v 0)))) <|
    .st (.act none (.px (some 10) (.lenV (.v 9)))) <|
    .st (.act none (.px (some 11) (.bin .lss (.v 8) (.v 10)))) .done) K_spec_l13Answers_18) K_spec_l13Answers_17
@[simp] def W_spec_l13Answers_19 := @C.wpe _ _ K_spec_l13Answers_19.eq_1
def K_spec_l13Answers_20 : C := .block 2 (.loop 8 [3, 6, 7] K_spec_l13Answers_19)
@[simp] def W_spec_l13Answers_20 := @C.wpe _ _ K_spec_l13Answers_20.eq_1
def K_spec_l13Answers_21 : C := .seq (.block 1 (.seq (.pl <| .st (.ext 8 0) <|
    .st (.act none (.px (some 5) (.mv (.c (.int .i64 0))))) .done) K_spec_l13Answers_20)) K_spec_l13Answers_2
@[simp] def W_spec_l13Answers_21 := @C.wpe _ _ K_spec_l13Answers_21.eq_1
def K_spec_l13Answers_22 : C := .cond 8 (.v 9) (.skip) (.exit 0)
@[simp] def W_spec_l13Answers_22 := @C.wpe _ _ K_spec_l13Answers_22.eq_1
def K_spec_l13Answers_23 : C := .seq (.seq (.pl <| .st (.ext 8 2) <|
    .st (.act none (.px (some 8) (.mv (.v 4)))) <|
    .st (.act none (.px (some 9) (.bin .leq (.v 8) (.c (.int .i64 7))))) .done) K_spec_l13Answers_22) K_spec_l13Answers_21
@[simp] def W_spec_l13Answers_23 := @C.wpe _ _ K_spec_l13Answers_23.eq_1
def K_spec_l13Answers_24 : C := .block 0 (.loop 8 [3, 5, 6, 7] K_spec_l13Answers_23)
@[simp] def W_spec_l13Answers_24 := @C.wpe _ _ K_spec_l13Answers_24.eq_1
def K_spec_l13Answers_25 : C := .seq (.seq (.pl <| .st (.ext 8 0) <|
    .st (.act none (.px (some 4) (.mv (.c (.int .i64 0))))) .done) K_spec_l13Answers_24) K_spec_l13Answers_1
@[simp] def W_spec_l13Answers_25 := @C.wpe _ _ K_spec_l13Answers_25.eq_1
def B_spec_l13Answers : C := .seq (.pl <| .st (.ext 8 0) <|
    .st (.act none (.px (some 3) (.mv (.c (.bool false))))) .done) K_spec_l13Answers_25
@[simp] def WB_spec_l13Answers := @C.wpe _ _ B_spec_l13Answers.eq_1
def R_spec_l13Answers : FIR := ⟨B_spec_l13Answers, 8, [(3, none)]⟩
theorem IR_spec_l13Answers : cfun Try.prog H_spec_l13Answers Try.f39 = some R_spec_l13Answers := by kernel_rfl
theorem EN_spec_l13Answers {args : List Value} {h : Heap} {k : Value → Heap → Prop} (hargs : args.length = 3) (hw : B_spec_l13Answers.wp Try.prog (retQ [(3, none)] k) (env0 args 8) h) : CallE Try.prog fn_spec_l13Answers args h k := enter Try.func39 rfl IR_spec_l13Answers hargs hw

def H_spec_l13Leaving : Hint := ⟨[(0, false), (1, true), (2, false), (3, false), (4, false)], [[0, 2]]⟩
def K_spec_l13Leaving_1 : C := .seq (.pl <| .st (.ext 5 1) <|
    .st (.act none (.px (some 5) (.mv (.v 3)))) <|
    .st (.act none (.px (some 2) (.mv (.v 5)))) .done) (.ret)
@[simp] def W_spec_l13Leaving_1 := @C.wpe _ _ K_spec_l13Leaving_1.eq_1
def K_spec_l13Leaving_2 : C := .pl <| .st (.ext 5 2) <|
    .st (.act none (.px (some 5) (.mv (.v 4)))) <|
    .st (.act none (.px (some 6) (.bin .add (.v 5) (.c (.int .i64 1))))) <|
    .st (.act none (.px (some 4) (.mv (.v 6)))) .done
@[simp] def W_spec_l13Leaving_2 := @C.wpe _ _ K_spec_l13Leaving_2.eq_1
def K_spec_l13Leaving_3 : Pl := .st (.re 11 (.v 10) none none) <|
    .st (.act none (.px (some 28) (.ia 1 (.v 5) (.v 11)))) <|
    .st (.act none (.ex none (.store 1 (.v 28) (.v 27)))) .done
@[simp] def W_spec_l13Leaving_3 := @Pl.wpe _ _ K_spec_l13Leaving_3.eq_1
def K_spec_l13Leaving_4 : C := .seq (.block 1 (.pl <| .st (.ext 5 24) <|
    .st (.act none (.px (some 5) (.mv (.v 3)))) <|
    .st (.act none (.als 6 none 1)) <|
    .st (.act none (.pget (some 7) (some 6) 1 2 none)) <|
    .st (.act none (.px (some 8) (.mv (.v 4)))) <|
    .st (.act none (.px (some 9) (.ia 4 (.v 7) (.v 8)))) <|
    .st (.act none (.px (some 10) (.fa 0 (.v 9)))) <|
    .st (.act none (.ld (some 11) (.v 10) none)) <|
    .st (.act none (.px (some 12) (.mv (.v 3)))) <|
    .st (.act none (.als 13 none 1)) <|
    .st (.act none (.pget (some 14) (some 13) 1 2 none)) <|
    .st (.act none (.px (some 15) (.mv (.v 4)))) <|
    .st (.act none (.px (some 16) (.ia 4 (.v 14) (.v 15)))) <|
    .st (.act none (.px (some 17) (.fa 0 (.v 16)))) <|
    .st (.act none (.ld (some 18) (.v 17) none)) <|
    .st (.act none (.px (some 19) (.ia 1 (.v 12) (.v 18)))) <|
    .st (.act none (.ld (some 20) (.v 19) none)) <|
    .st (.act none (.als 21 none 1)) <|
    .st (.act none (.pget (some 22) (some 21) 1 2 none)) <|
    .st (.act none (.px (some 23) (.mv (.v 4)))) <|
    .st (.act none (.px (some 24) (.ia 4 (.v 22) (.v 23)))) <|
    .st (.act none (.ld (some 25) (.v 24) (some 4))) <|
    .st (.act none (.psl 26 [.int .i64 0, .int .i64 0, .int .i64 0, .int .i64 0] [(0, 4, .v 25)])) <|
    .st (.act none (.ex (some 27) (.app 32 4 [.int .i64 0, .int .i64 0, .int .i64 0, .int .i64 0] (.o (.v 20)) (.p 1 26)))) K_spec_l13Leaving_3)) K_spec_l13Leaving_2
@[simp] def W_spec_l13Leaving_4 := @C.wpe _ _ K_spec_l13Leaving_4.eq_1
def K_spec_l13Leaving_5 : C := .cond 5 (.v 9) (.skip) (.exit 0)
@[simp] def W_spec_l13Leaving_5 := @C.wpe _ _ K_spec_l13Leaving_5.eq_1
def K_spec_l13Leaving_6 : C := .seq (.seq (.pl <| .st (.ext 5 5) <|
    .st (.act none (.px (some 5) (.mv (.v 4)))) <|
    .st (.act none (.als 6 none 1)) <|
    .st (.act none (.pget (some 7) (some 6) 1 2 none)) <|
    .st (.act none (.px (some 8) (.lenV (.v 7)))) <|
    .st (.act none (.px (some 9) (.bin .lss (.v 5) (.v 8)))) .done) K_spec_l13Leaving_5) K_spec_l13Leaving_4
@[simp] def W_spec_l13Leaving_6 := @C.wpe _ _ K_spec_l13Leaving_6.eq_1
def K_spec_l13Leaving_7 : C := .block 0 (.loop 5 [0, 2] K_spec_l13Leaving_6)
@[simp] def W_spec_l13Leaving_7 := @C.wpe _ _ K_spec_l13Leaving_7.eq_1
def K_spec_l13Leaving_8 : C := .seq (.seq (.pl <| .st (.ext 5 0) <|
    .st (.act none (.px (some 4) (.mv (.c (.int .i64 0))))) .done) K_spec_l13Leaving_7) K_spec_l13Leaving_1
@[simp] def W_spec_l13Leaving_8 := @C.wpe _ _ K_spec_l13Leaving_8.eq_1
def K_spec_l13Leaving_9 : Pl := .st (.act none (.px (some 3) (.mv (.v 8)))) .done
@[simp] def W_spec_l13Leaving_9 := @Pl.wpe _ _ K_spec_l13Leaving_9.eq_1
def K_spec_l13Leaving_10 : C := .seq (.pl <| .st (.ext 5 4) <|
    .st (.act none (.als 5 none 1)) <|
    .st (.act none (.pget (some 6) (some 5) 1 1 none)) <|
    .st (.act none (.px (some 7) (.lenV (.v 6)))) <|
    .st (.act none (.ex (some 8) (.mks 24 1 [.slice none 0 0] (.v 7) (.v 7)))) K_spec_l13Leaving_9) K_spec_l13Leaving_8
@[simp] def W_spec_l13Leaving_10 := @C.wpe _ _ K_spec_l13Leaving_10.eq_1
def B_spec_l13Leaving : C := .seq (.pl <| .st (.ext 5 0) <|
    .st (.act none (.pnew 1 (.v 0) [])) <|
    .st (.act none (.px (some 2) (.mv (.c (.slice none 0 0))))) .done) K_spec_l13Leaving_10
@[simp] def WB_spec_l13Leaving := @C.wpe _ _ B_spec_l13Leaving.eq_1
def R_spec_l13Leaving : FIR := ⟨B_spec_l13Leaving, 5, [(2, none)]⟩
theorem IR_spec_l13Leaving : cfun Try.prog H_spec_l13Leaving Try.f38 = some R_spec_l13Leaving := by kernel_rfl
theorem EN_spec_l13Leaving {args : List Value} {h : Heap} {k : Value → Heap → Prop} (hargs : args.length = 1) (hw : B_spec_l13Leaving.wp Try.prog (retQ [(2, none)] k) (env0 args 5) h) : CallE Try.prog fn_spec_l13Leaving args h k := enter Try.func38 rfl IR_spec_l13Leaving hargs hw

def H_spec_l13Relation : Hint := ⟨[(0, false), (1, true), (2, false), (3, false), (4, false), (5, false), (6, false), (7, false), (8, false), (9, false), (10, false), (11, false)], [[0, 2, 6, 7, 8, 9, 10, 11], [0, 2, 8, 9, 10, 11], [0, 1, 2, 5, 6, 7, 10, 11], [0, 1, 2, 5, 6, 7, 11], [0, 1, 2, 5, 6, 7]]⟩
def K_spec_l13Relation_1 : C := .seq (.pl <| .st (.ext 12 1) <|
    .st (.act none (.px (some 12) (.mv (.v 4)))) <|
    .st (.act none (.px (some 2) (.mv (.v 12)))) .done) (.ret)
@[simp] def W_spec_l13Relation_1 := @C.wpe _ _ K_spec_l13Relation_1.eq_1
def K_spec_l13Relation_2 : C := .pl <| .st (.ext 12 2) <|
    .st (.act none (.px (some 12) (.mv (.v 10)))) <|
    .st (.act none (.px (some 13) (.bin .add (.v 12) (.c (.int .i64 1))))) <|
    .st (.act none (.px (some 10) (.mv (.v 13)))) .done
@[simp] def W_spec_l13Relation_2 := @C.wpe _ _ K_spec_l13Relation_2.eq_1
def K_spec_l13Relation_3 : C := .pl <| .st (.ext 12 2) <|
    .st (.act none (.px (some 12) (.mv (.v 11)))) <|
    .st (.act none (.px (some 13) (.bin .add (.v 12) (.c (.int .i64 1))))) <|
    .st (.act none (.px (some 11) (.mv (.v 13)))) .done
@[simp] def W_spec_l13Relation_3 := @C.wpe _ _ K_spec_l13Relation_3.eq_1
def K_spec_l13Relation_4 : C := .pl <| .st (.ext 12 0) <|
    .st (.act none (.px (some 9) (.mv (.c (.bool true))))) .done
@[simp] def W_spec_l13Relation_4 := @C.wpe _ _ K_spec_l13Relation_4.eq_1
def K_spec_l13Relation_5 : C := .seq (.pl <| .st (.ext 12 6) <|
    .st (.act none (.px (some 12) (.mv (.v 4)))) <|
    .st (.act none (.px (some 13) (.mv (.v 10)))) <|
    .st (.act none (.px (some 14) (.ia 1 (.v 12) (.v 13)))) <|
    .st (.act none (.ld (some 15) (.v 14) none)) <|
    .st (.act none (.px (some 16) (.mv (.v 11)))) <|
    .st (.act none (.px (some 17) (.ia 1 (.v 15) (.v 16)))) <|
    .st (.act none (.ex none (.store 1 (.v 17) (.c (.bool false))))) .done) K_spec_l13Relation_4
@[simp] def W_spec_l13Relation_5 := @C.wpe _ _ K_spec_l13Relation_5.eq_1
def K_spec_l13Relation_6 : C := .cond 12 (.v 31) K_spec_l13Relation_5 (.skip)
@[simp] def W_spec_l13Relation_6 := @C.wpe _ _ K_spec_l13Relation_6.eq_1
def K_spec_l13Relation_7 : Pl := .st (.act (some (.v 19, true)) (.px (some 30) (.un .not (.v 29)))) <|
    .st (.act none (.px (some 31) (.pick (.v 19) (.v 30) (.c (.bool false))))) .done
@[simp] def W_spec_l13Relation_7 := @Pl.wpe _ _ K_spec_l13Relation_7.eq_1
def K_spec_l13Relation_8 : C := .seq (.block 9 (.seq (.pl <| .st (.ext 12 20) <|
    .st (.act none (.px (some 12) (.mv (.v 4)))) <|
    .st (.act none (.px (some 13) (.mv (.v 10)))) <|
    .st (.act none (.px (some 14) (.ia 1 (.v 12) (.v 13)))) <|
    .st (.act none (.ld (some 15) (.v 14) none)) <|
    .st (.act none (.px (some 16) (.mv (.v 11)))) <|
    .st (.act none (.px (some 17) (.ia 1 (.v 15) (.v 16)))) <|
    .st (.act none (.ld (some 18) (.v 17) none)) <|
    .st (.act none (.px (some 19) (.mv (.v 18)))) <|
    .st (.act (some (.v 19, true)) (.px (some 20) (.mv (.v 8)))) <|
    .st (.act (some (.v 19, true)) (.px (some 21) (.mv (.v 10)))) <|
    .st (.act (some (.v 19, true)) (.px (some 22) (.ia 1 (.v 20) (.v 21)))) <|
    .st (.act (some (.v 19, true)) (.ld (some 23) (.v 22) none)) <|
    .st (.act (some (.v 19, true)) (.px (some 24) (.mv (.v 8)))) <|
    .st (.act (some (.v 19, true)) (.px (some 25) (.mv (.v 11)))) <|
    .st (.act (some (.v 19, true)) (.px (some 26) (.ia 1 (.v 24) (.v 25)))) <|
    .st (.act (some (.v 19, true)) (.ld (some 27) (.v 26) none)) <|
    .st (.act (some (.v 19, true)) (.px (some 28) (.mv (.v 4)))) <|
    .st (.act (some (.v 19, true)) (.ex (some 29) (.call fn_spec_l13Answers [.v 23, .v 27, .v 28]))) K_spec_l13Relation_7) K_spec_l13Relation_6)) K_spec_l13Relation_3
@[simp] def W_spec_l13Relation_8 := @C.wpe _ _ K_spec_l13Relation_8.eq_1
def K_spec_l13Relation_9 : C := .cond 12 (.v 14) (.skip) (.exit 8)
@[simp] def W_spec_l13Relation_9 := @C.wpe _ _ K_spec_l13Relation_9.eq_1
def K_spec_l13Relation_10 : C := .seq (.seq (.pl <| .st (.ext 12 3) <|
    .st (.act none (.px (some 12) (.mv (.v 11)))) <|
    .st (.act none (.px (some 13) (.mv (.v 3)))) <|
    .st (.act none (.px (some 14) (.bin .lss (.v 12) (.v 13)))) .done) K_spec_l13Relation_9) K_spec_l13Relation_8
@[simp] def W_spec_l13Relation_10 := @C.wpe _ _ K_spec_l13Relation_10.eq_1
def K_spec_l13Relation_11 : C := .block 8 (.loop 12 [0, 1, 2, 5, 6, 7] K_spec_l13Relation_10)
@[simp] def W_spec_l13Relation_11 := @C.wpe _ _ K_spec_l13Relation_11.eq_1
def K_spec_l13Relation_12 : C := .seq (.block 7 (.seq (.pl <| .st (.ext 12 0) <|
    .st (.act none (.px (some 11) (.mv (.c (.int .i64 0))))) .done) K_spec_l13Relation_11)) K_spec_l13Relation_2
@[simp] def W_spec_l13Relation_12 := @C.wpe _ _ K_spec_l13Relation_12.eq_1
def K_spec_l13Relation_13 : C := .cond 12 (.v 14) (.skip) (.exit 6)
@[simp] def W_spec_l13Relation_13 := @C.wpe _ _ K_spec_l13Relation_13.eq_1
def K_spec_l13Relation_14 : C := .seq (.seq (.pl <| .st (.ext 12 3) <|
    .st (.act none (.px (some 12) (.mv (.v 10)))) <|
    .st (.act none (.px (some 13) (.mv (.v 3)))) <|
    .st (.act none (.px (some 14) (.bin .lss (.v 12) (.v 13)))) .done) K_spec_l13Relation_13) K_spec_l13Relation_12
@[simp] def W_spec_l13Relation_14 := @C.wpe _ _ K_spec_l13Relation_14.eq_1
def K_spec_l13Relation_15 : C := .block 6 (.loop 12 [0, 1, 2, 5, 6, 7, 11] K_spec_l13Relation_14)
@[simp] def W_spec_l13Relation_15 := @C.wpe _ _ K_spec_l13Relation_15.eq_1
def K_spec_l13Relation_16 : C := .seq (.pl <| .st (.ext 12 0) <|
    .st (.act none (.px (some 10) (.mv (.c (.int .i64 0))))) .done) K_spec_l13Relation_15
@[simp] def W_spec_l13Relation_16 := @C.wpe _ _ K_spec_l13Relation_16.eq_1
def K_spec_l13Relation_17 : C := .block 5 (.seq (.pl <| .st (.ext 12 0) <|
    .st (.act none (.px (some 9) (.mv (.c (.bool false))))) .done) K_spec_l13Relation_16)
@[simp] def W_spec_l13Relation_17 := @C.wpe _ _ K_spec_l13Relation_17.eq_1
def K_spec_l13Relation_18 : C := .cond 12 (.v 12) (.skip) (.exit 4)
@[simp] def W_spec_l13Relation_18 := @C.wpe _ _ K_spec_l13Relation_18.eq_1
def K_spec_l13Relation_19 : C := .seq (.seq (.pl <| .st (.ext 12 1) <|
    .st (.act none (.px (some 12) (.mv (.v 9)))) .done) K_spec_l13Relation_18) K_spec_l13Relation_17
@[simp] def W_spec_l13Relation_19 := @C.wpe _ _ K_spec_l13Relation_19.eq_1
def K_spec_l13Relation_20 : C := .block 4 (.loop 12 [0, 1, 2, 5, 6, 7, 10, 11] K_spec_l13Relation_19)
@[simp] def W_spec_l13Relation_20 := @C.wpe _ _ K_spec_l13Relation_20.eq_1
def K_spec_l13Relation_21 : C := .seq (.seq (.pl <| .st (.ext 12 0) <|
    .st (.act none (.px (some 9) (.mv (.c (.bool true))))) .done) K_spec_l13Relation_20) K_spec_l13Relation_1
@[simp] def W_spec_l13Relation_21 := @C.wpe _ _ K_spec_l13Relation_21.eq_1
def K_spec_l13Relation_22 : Pl := .st (.act none (.px (some 8) (.mv (.v 13)))) .done
@[simp] def W_spec_l13Relation_22 := @Pl.wpe _ _ K_spec_l13Relation_22.eq_1
def K_spec_l13Relation_23 : C := .seq (.pl <| .st (.ext 12 2) <|
    .st (.act none (.pget (some 12) none 1 0 (some 3))) <|
    .st (.act none (.ex (some 13) (.call fn_spec_l13Leaving [.v 12]))) K_spec_l13Relation_22) K_spec_l13Relation_21
@[simp] def W_spec_l13Relation_23 := @C.wpe _ _ K_spec_l13Relation_23.eq_1
def K_spec_l13Relation_24 : C := .pl <| .st (.ext 12 2) <|
    .st (.act none (.px (some 12) (.mv (.v 5)))) <|
    .st (.act none (.px (some 13) (.bin .add (.v 12) (.c (.int .i64 1))))) <|
    .st (.act none (.px (some 5) (.mv (.v 13)))) .done
@[simp] def W_spec_l13Relation_24 := @C.wpe _ _ K_spec_l13Relation_24.eq_1
def K_spec_l13Relation_25 : Pl := .st (.act none (.px (some 4) (.mv (.v 15)))) .done
@[simp] def W_spec_l13Relation_25 := @Pl.wpe _ _ K_spec_l13Relation_25.eq_1
def K_spec_l13Relation_26 : C := .pl <| .st (.ext 12 4) <|
    .st (.act none (.px (some 12) (.mv (.v 4)))) <|
    .st (.act none (.px (some 13) (.mv (.v 6)))) <|
    .st (.act none (.psl 14 [.slice none 0 0] [(0, 1, .v 13)])) <|
    .st (.act none (.ex (some 15) (.app 24 1 [.slice none 0 0] (.o (.v 12)) (.p 1 14)))) K_spec_l13Relation_25
@[simp] def W_spec_l13Relation_26 := @C.wpe _ _ K_spec_l13Relation_26.eq_1
def K_spec_l13Relation_27 : C := .pl <| .st (.ext 12 2) <|
    .st (.act none (.px (some 12) (.mv (.v 7)))) <|
    .st (.act none (.px (some 13) (.bin .add (.v 12) (.c (.int .i64 1))))) <|
    .st (.act none (.px (some 7) (.mv (.v 13)))) .done
@[simp] def W_spec_l13Relation_27 := @C.wpe _ _ K_spec_l13Relation_27.eq_1
def K_spec_l13Relation_28 : Pl := .st (.act none (.px (some 6) (.mv (.v 27)))) .done
@[simp] def W_spec_l13Relation_28 := @Pl.wpe _ _ K_spec_l13Relation_28.eq_1
def K_spec_l13Relation_29 : C := .seq (.block 3 (.pl <| .st (.ext 12 16) <|
    .st (.act none (.px (some 12) (.mv (.v 6)))) <|
    .st (.act none (.als 13 none 1)) <|
    .st (.act none (.pget (some 14) (some 13) 1 1 none)) <|
    .st (.act none (.px (some 15) (.mv (.v 5)))) <|
    .st (.act none (.px (some 16) (.ia 1 (.v 14) (.v 15)))) <|
    .st (.act none (.ld (some 17) (.v 16) none)) <|
    .st (.act none (.px (some 18) (.un .not (.v 17)))) <|
    .st (.act none (.px (some 19) (.mv (.v 18)))) <|
    .st (.act (some (.v 19, false)) (.als 20 none 1)) <|
    .st (.act (some (.v 19, false)) (.pget (some 21) (some 20) 1 1 none)) <|
    .st (.act (some (.v 19, false)) (.px (some 22) (.mv (.v 7)))) <|
    .st (.act (some (.v 19, false)) (.px (some 23) (.ia 1 (.v 21) (.v 22)))) <|
    .st (.act (some (.v 19, false)) (.ld (some 24) (.v 23) none)) <|
    .st (.act none (.px (some 25) (.pick (.v 19) (.c (.bool true)) (.v 24)))) <|
    .st (.act none (.psl 26 [.bool false] [(0, 1, .v 25)])) <|
    .st (.act none (.ex (some 27) (.app 1 1 [.bool false] (.o (.v 12)) (.p 1 26)))) K_spec_l13Relation_28)) K_spec_l13Relation_27
@[simp] def W_spec_l13Relation_29 := @C.wpe _ _ K_spec_l13Relation_29.eq_1
def K_spec_l13Relation_30 : C := .cond 12 (.v 14) (.skip) (.exit 2)
@[simp] def W_spec_l13Relation_30 := @C.wpe _ _ K_spec_l13Relation_30.eq_1
def K_spec_l13Relation_31 : C := .seq (.seq (.pl <| .st (.ext 12 3) <|
    .st (.act none (.px (some 12) (.mv (.v 7)))) <|
    .st (.act none (.px (some 13) (.mv (.v 3)))) <|
    .st (.act none (.px (some 14) (.bin .lss (.v 12) (.v 13)))) .done) K_spec_l13Relation_30) K_spec_l13Relation_29
@[simp] def W_spec_l13Relation_31 := @C.wpe _ _ K_spec_l13Relation_31.eq_1
def K_spec_l13Relation_32 : C := .block 2 (.loop 12 [0, 2, 8, 9, 10, 11] K_spec_l13Relation_31)
@[simp] def W_spec_l13Relation_32 := @C.wpe _ _ K_spec_l13Relation_32.eq_1
def K_spec_l13Relation_33 : C := .seq (.seq (.pl <| .st (.ext 12 0) <|
    .st (.act none (.px (some 7) (.mv (.c (.int .i64 0))))) .done) K_spec_l13Relation_32) K_spec_l13Relation_26
@[simp] def W_spec_l13Relation_33 := @C.wpe _ _ K_spec_l13Relation_33.eq_1
def K_spec_l13Relation_34 : Pl := .st (.act none (.px (some 6) (.mv (.v 12)))) .done
@[simp] def W_spec_l13Relation_34 := @Pl.wpe _ _ K_spec_l13Relation_34.eq_1
def K_spec_l13Relation_35 : C := .seq (.block 1 (.seq (.pl <| .st (.ext 12 1) <|
    .st (.act none (.ex (some 12) (.bls 1 0 [.bool false] []))) K_spec_l13Relation_34) K_spec_l13Relation_33)) K_spec_l13Relation_24
@[simp] def W_spec_l13Relation_35 := @C.wpe _ _ K_spec_l13Relation_35.eq_1
def K_spec_l13Relation_36 : C := .cond 12 (.v 14) (.skip) (.exit 0)
@[simp] def W_spec_l13Relation_36 := @C.wpe _ _ K_spec_l13Relation_36.eq_1
def K_spec_l13Relation_37 : C := .seq (.seq (.pl <| .st (.ext 12 3) <|
    .st (.act none (.px (some 12) (.mv (.v 5)))) <|
    .st (.act none (.px (some 13) (.mv (.v 3)))) <|
    .st (.act none (.px (some 14) (.bin .lss (.v 12) (.v 13)))) .done) K_spec_l13Relation_36) K_spec_l13Relation_35
@[simp] def W_spec_l13Relation_37 := @C.wpe _ _ K_spec_l13Relation_37.eq_1
def K_spec_l13Relation_38 : C := .block 0 (.loop 12 [0, 2, 6, 7, 8, 9, 10, 11] K_spec_l13Relation_37)
@[simp] def W_spec_l13Relation_38 := @C.wpe _ _ K_spec_l13Relation_38.eq_1
def K_spec_l13Relation_39 : C := .seq (.seq (.pl <| .st (.ext 12 0) <|
    .st (.act none (.px (some 5) (.mv (.c (.int .i64 0))))) .done) K_spec_l13Relation_38) K_spec_l13Relation_23
@[simp] def W_spec_l13Relation_39 := @C.wpe _ _ K_spec_l13Relation_39.eq_1
def K_spec_l13Relation_40 : Pl := .st (.act none (.px (some 4) (.mv (.v 12)))) .done
@[simp] def W_spec_l13Relation_40 := @Pl.wpe _ _ K_spec_l13Relation_40.eq_1
def K_spec_l13Relation_41 : C := .seq (.pl <| .st (.ext 12 1) <|
    .st (.act none (.ex (some 12) (.bls 1 0 [.slice none 0 0] []))) K_spec_l13Relation_40) K_spec_l13Relation_39
@[simp] def W_spec_l13Relation_41 := @C.wpe _ _ K_spec_l13Relation_41.eq_1
def K_spec_l13Relation_42 : C := .seq (.pl <| .st (.ext 12 3) <|
    .st (.act none (.als 12 none 1)) <|
    .st (.act none (.pget (some 13) (some 12) 1 1 none)) <|
    .st (.act none (.px (some 14) (.lenV (.v 13)))) <|
    .st (.act none (.px (some 3) (.mv (.v 14)))) .done) K_spec_l13Relation_41
@[simp] def W_spec_l13Relation_42 := @C.wpe _ _ K_spec_l13Relation_42.eq_1
def B_spec_l13Relation : C := .seq (.pl <| .st (.ext 12 0) <|
    .st (.act none (.pnew 1 (.v 0) [])) <|
    .st (.act none (.px (some 2) (.mv (.c (.slice none 0 0))))) .done) K_spec_l13Relation_42
@[simp] def WB_spec_l13Relation := @C.wpe _ _ B_spec_l13Relation.eq_1
def R_spec_l13Relation : FIR := ⟨B_spec_l13Relation, 12, [(2, none)]⟩
theorem IR_spec_l13Relation : cfun Try.prog H_spec_l13Relation Try.f20 = some R_spec_l13Relation := by kernel_rfl
theorem EN_spec_l13Relation {args : List Value} {h : Heap} {k : Value → Heap → Prop} (hargs : args.length = 1) (hw : B_spec_l13Relation.wp Try.prog (retQ [(2, none)] k) (env0 args 12) h) : CallE Try.prog fn_spec_l13Relation args h k := enter Try.func20 rfl IR_spec_l13Relation hargs hw

def H_spec_l7Edge : Hint := ⟨[(0, false), (1, false), (2, true), (4, false)], []⟩
def K_spec_l7Edge_1 : C := .seq (.pl <| .st (.ext 4 45) <|
    .st (.act none (.als 4 none 2)) <|
    .st (.act none (.pget (some 5) (some 4) 2 0 none)) <|
    .st (.act none (.px (some 6) (.bin .geq (.v 5) (.c (.int .i64 0))))) <|
    .st (.act none (.px (some 7) (.mv (.v 6)))) <|
    .st (.act (some (.v 7, true)) (.als 8 none 2)) <|
    .st (.act (some (.v 7, true)) (.pget (some 9) (some 8) 2 0 none)) <|
    .st (.act (some (.v 7, true)) (.px (some 10) (.mv (.v 1)))) <|
    .st (.act (some (.v 7, true)) (.px (some 11) (.bin .lss (.v 9) (.v 10)))) <|
    .st (.act none (.px (some 12) (.pick (.v 7) (.v 11) (.c (.bool false))))) <|
    .st (.act none (.px (some 13) (.mv (.v 12)))) <|
    .st (.act (some (.v 13, true)) (.als 14 none 2)) <|
    .st (.act (some (.v 13, true)) (.pget (some 15) (some 14) 2 3 none)) <|
    .st (.act (some (.v 13, true)) (.px (some 16) (.bin .geq (.v 15) (.c (.int .i64 0))))) <|
    .st (.act none (.px (some 17) (.pick (.v 13) (.v 16) (.c (.bool false))))) <|
    .st (.act none (.px (some 18) (.mv (.v 17)))) <|
    .st (.act (some (.v 18, true)) (.als 19 none 2)) <|
    .st (.act (some (.v 18, true)) (.pget (some 20) (some 19) 2 3 none)) <|
    .st (.act (some (.v 18, true)) (.px (some 21) (.mv (.v 1)))) <|
    .st (.act (some (.v 18, true)) (.px (some 22) (.bin .lss (.v 20) (.v 21)))) <|
    .st (.act none (.px (some 23) (.pick (.v 18) (.v 22) (.c (.bool false))))) <|
    .st (.act none (.px (some 24) (.mv (.v 23)))) <|
    .st (.act (some (.v 24, true)) (.als 25 none 2)) <|
    .st (.act (some (.v 24, true)) (.pget (some 26) (some 25) 2 1 none)) <|
    .st (.act (some (.v 24, true)) (.px (some 27) (.bin .geq (.v 26) (.c (.int .i64 0))))) <|
    .st (.act none (.px (some 28) (.pick (.v 24) (.v 27) (.c (.bool false))))) <|
    .st (.act none (.px (some 29) (.mv (.v 28)))) <|
    .st (.act (some (.v 29, true)) (.als 30 none 2)) <|
    .st (.act (some (.v 29, true)) (.pget (some 31) (some 30) 2 1 none)) <|
    .st (.act (some (.v 29, true)) (.px (some 32) (.bin .leq (.v 31) (.c (.int .i64 7))))) <|
    .st (.act none (.px (some 33) (.pick (.v 29) (.v 32) (.c (.bool false))))) <|
    .st (.act none (.px (some 34) (.mv (.v 33)))) <|
    .st (.act (some (.v 34, true)) (.als 35 none 2)) <|
    .st (.act (some (.v 34, true)) (.pget (some 36) (some 35) 2 2 none)) <|
    .st (.act (some (.v 34, true)) (.px (some 37) (.bin .geq (.v 36) (.c (.int .i64 0))))) <|
    .st (.act none (.px (some 38) (.pick (.v 34) (.v 37) (.c (.bool false))))) <|
    .st (.act none (.px (some 39) (.mv (.v 38)))) <|
    .st (.act (some (.v 39, true)) (.als 40 none 2)) <|
    .st (.act (some (.v 39, true)) (.pget (some 41) (some 40) 2 2 none)) <|
    .st (.act (some (.v 39, true)) (.als 42 none 2)) <|
    .st (.act (some (.v 39, true)) (.pget (some 43) (some 42) 2 1 none)) <|
    .st (.act (some (.v 39, true)) (.px (some 44) (.bin .and (.v 41) (.v 43)))) <|
    .st (.act (some (.v 39, true)) (.als 45 none 2)) <|
    .st (.act (some (.v 39, true)) (.pget (some 46) (some 45) 2 2 none)) <|
    .st (.act (some (.v 39, true)) (.px (some 47) (.bin .eql (.v 44) (.v 46)))) <|
    .st (.act none (.px (some 48) (.pick (.v 39) (.v 47) (.c (.bool false))))) <|
    .st (.act none (.px (some 3) (.mv (.v 48)))) .done) (.ret)
@[simp] def W_spec_l7Edge_1 := @C.wpe _ _ K_spec_l7Edge_1.eq_1
def B_spec_l7Edge : C := .seq (.pl <| .st (.ext 4 0) <|
    .st (.act none (.pnew 2 (.v 0) [])) <|
    .st (.act none (.px (some 3) (.mv (.c (.bool false))))) .done) K_spec_l7Edge_1
@[simp] def WB_spec_l7Edge := @C.wpe _ _ B_spec_l7Edge.eq_1
def R_spec_l7Edge : FIR := ⟨B_spec_l7Edge, 4, [(3, none)]⟩
theorem IR_spec_l7Edge : cfun Try.prog H_spec_l7Edge Try.f46 = some R_spec_l7Edge := by kernel_rfl
theorem EN_spec_l7Edge {args : List Value} {h : Heap} {k : Value → Heap → Prop} (hargs : args.length = 2) (hw : B_spec_l7Edge.wp Try.prog (retQ [(3, none)] k) (env0 args 4) h) : CallE Try.prog fn_spec_l7Edge args h k := enter Try.func46 rfl IR_spec_l7Edge hargs hw


end Go.Proofs.Ytfhjclhchbagnaa
