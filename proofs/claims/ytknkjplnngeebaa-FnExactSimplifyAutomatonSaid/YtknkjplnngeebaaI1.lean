/-
  The bodies of the functions in the small language, as a program printed them, and that each is what the translation gives.
-/
import Derived.Test.YtknkjplnngeebaaRows
import Derived.Test.YtknkjplnngeebaaGC
namespace Go.Proofs.Ytknkjplnngeebaa
open Go
set_option linter.all false
set_option linter.defProp false
set_option maxRecDepth 1000000

abbrev fn_main_main : Nat := 0
abbrev fn_gosem_cut : Nat := 1
abbrev fn_gosem_cut_init : Nat := 2
abbrev fn_laws_FnExactTrimAutomaton : Nat := 3
abbrev fn_laws_FnExactPrefixStates : Nat := 4
abbrev fn_laws_FnExactMergeStates : Nat := 5
abbrev fn_laws_FnExactSimplifyAutomaton : Nat := 6
abbrev fn_laws_FnExactExtendWord : Nat := 7
abbrev fn_laws_szAutomaton : Nat := 8
abbrev fn_spec_TrimAutomaton : Nat := 9
abbrev fn_laws_toAutomaton : Nat := 10
abbrev fn_impl_TrimAutomaton : Nat := 11
abbrev fn_laws_eqAutomaton : Nat := 12
abbrev fn_laws_markAutomaton : Nat := 13
abbrev fn_laws_heldAutomaton : Nat := 14
abbrev fn_spec_PrefixStates : Nat := 15
abbrev fn_laws_toIntS : Nat := 16
abbrev fn_impl_PrefixStates : Nat := 17
abbrev fn_laws_eqIntS : Nat := 18
abbrev fn_laws_markIntS : Nat := 19
abbrev fn_laws_heldIntS : Nat := 20
abbrev fn_spec_MergeStates : Nat := 21
abbrev fn_impl_MergeStates : Nat := 22
abbrev fn_spec_SimplifyAutomaton : Nat := 23
abbrev fn_impl_SimplifyAutomaton : Nat := 24
abbrev fn_spec_ExtendWord : Nat := 25
abbrev fn_impl_ExtendWord : Nat := 26
abbrev fn_laws_eqLasso : Nat := 27
abbrev fn_laws_markLasso : Nat := 28
abbrev fn_laws_heldLasso : Nat := 29
abbrev fn_laws_szIntS : Nat := 30
abbrev fn_laws_szBoolS : Nat := 31
abbrev fn_laws_szTransitionS : Nat := 32
abbrev fn_spec_AutomatonValid : Nat := 33
abbrev fn_spec_l13Trim : Nat := 34
abbrev fn_laws_toBoolS : Nat := 35
abbrev fn_laws_toTransitionS : Nat := 36
abbrev fn_impl_AutomatonValid : Nat := 37
abbrev fn_impl_Automaton_trim : Nat := 38
abbrev fn_laws_eqBoolS : Nat := 39
abbrev fn_laws_eqTransitionS : Nat := 40
abbrev fn_laws_markBoolS : Nat := 41
abbrev fn_laws_markTransitionS : Nat := 42
abbrev fn_laws_heldBoolS : Nat := 43
abbrev fn_laws_heldTransitionS : Nat := 44
abbrev fn_spec_l12Word : Nat := 45
abbrev fn_spec_l12States : Nat := 46
abbrev fn_impl_wordOk : Nat := 47
abbrev fn_impl_Automaton_prefix : Nat := 48
abbrev fn_spec_l13Merge : Nat := 49
abbrev fn_impl_Automaton_merge : Nat := 50
abbrev fn_spec_AutomatonSame : Nat := 51
abbrev fn_impl_Automaton_simplify : Nat := 52
abbrev fn_spec_FindWord : Nat := 53
abbrev fn_spec_LassoValid : Nat := 54
abbrev fn_impl_FindWord : Nat := 55
abbrev fn_slices_Clip_S_int_int : Nat := 56
abbrev fn_slices_Concat_S_int_int : Nat := 57
abbrev fn_impl_LassoValid : Nat := 58
abbrev fn_spec_l7Edge : Nat := 59
abbrev fn_spec_LiveStates : Nat := 60
abbrev fn_spec_l7Reach : Nat := 61
abbrev fn_spec_l7Next : Nat := 62
abbrev fn_spec_l13Keep : Nat := 63
abbrev fn_laws_toTransition : Nat := 64
abbrev fn_impl_in : Nat := 65
abbrev fn_slices_ContainsFunc_S_impl_Transition_impl_Transition : Nat := 66
abbrev fn_impl_AutomatonValid_1 : Nat := 67
abbrev fn_impl_reachable : Nat := 68
abbrev fn_impl_Automaton_next : Nat := 69
abbrev fn_impl_Automaton_live : Nat := 70
abbrev fn_impl_Automaton_copyOf : Nat := 71
abbrev fn_laws_eqTransition : Nat := 72
abbrev fn_spec_l6Letters : Nat := 73
abbrev fn_spec_l12Only : Nat := 74
abbrev fn_spec_l12Step : Nat := 75
abbrev fn_impl_letters : Nat := 76
abbrev fn_impl_Automaton_begin : Nat := 77
abbrev fn_impl_Automaton_after : Nat := 78
abbrev fn_impl_members : Nat := 79
abbrev fn_spec_l13Relation : Nat := 80
abbrev fn_spec_l10Sorted : Nat := 81
abbrev fn_impl_Automaton_simulation : Nat := 82
abbrev fn_impl_grouped : Nat := 83
abbrev fn_impl_Automaton_merge_1 : Nat := 84
abbrev fn_impl_picked : Nat := 85
abbrev fn_slices_Sort_S_int_int : Nat := 86
abbrev fn_slices_Compact_S_int_int : Nat := 87
abbrev fn_spec_l2Ints : Nat := 88
abbrev fn_impl_AutomatonSame : Nat := 89
abbrev fn_spec_l7Tree : Nat := 90
abbrev fn_spec_l7Cycle : Nat := 91
abbrev fn_spec_l7Letters : Nat := 92
abbrev fn_impl_lasso : Nat := 93
abbrev fn_impl_FindWord_1 : Nat := 94
abbrev fn_impl_Automaton_values : Nat := 95
abbrev fn_impl_clone_int : Nat := 96
abbrev fn_slices_Grow_S_int_int : Nat := 97
abbrev fn_spec_l7Loop : Nat := 98
abbrev fn_spec_l4In : Nat := 99
abbrev fn_slices_IndexFunc_S_impl_Transition_impl_Transition : Nat := 100
abbrev fn_impl_cyclic : Nat := 101
abbrev fn_impl_clone_bool : Nat := 102
abbrev fn_impl_clone_impl_Transition : Nat := 103
abbrev fn_spec_l7On : Nat := 104
abbrev fn_slices_ContainsFunc_S_int_int : Nat := 105
abbrev fn_impl_letters_1 : Nat := 106
abbrev fn_impl_Transition_takes : Nat := 107
abbrev fn_spec_l13Leaving : Nat := 108
abbrev fn_spec_l13Answers : Nat := 109
abbrev fn_impl_Automaton_simulation_1 : Nat := 110
abbrev fn_slices_pdqsortOrdered_int : Nat := 111
abbrev fn_math_bits_Len : Nat := 112
abbrev fn_slices_Equal_S_int_int : Nat := 113
abbrev fn_slices_Equal_S_bool_bool : Nat := 114
abbrev fn_slices_Equal_S_impl_Transition_impl_Transition : Nat := 115
abbrev fn_impl_order : Nat := 116
abbrev fn_impl_shortest : Nat := 117
abbrev fn_impl_lasso_1 : Nat := 118
abbrev fn_impl_around : Nat := 119
abbrev fn_impl_Automaton_values_1 : Nat := 120
abbrev fn_slices_Clone_S_int_int : Nat := 121
abbrev fn_impl_components : Nat := 122
abbrev fn_slices_Contains_S_int_int : Nat := 123
abbrev fn_slices_Clip_S_bool_bool : Nat := 124
abbrev fn_slices_Clone_S_bool_bool : Nat := 125
abbrev fn_slices_Clip_S_impl_Transition_impl_Transition : Nat := 126
abbrev fn_slices_Clone_S_impl_Transition_impl_Transition : Nat := 127
abbrev fn_slices_IndexFunc_S_int_int : Nat := 128
abbrev fn_slices_insertionSortOrdered_int : Nat := 129
abbrev fn_slices_heapSortOrdered_int : Nat := 130
abbrev fn_slices_breakPatternsOrdered_int : Nat := 131
abbrev fn_slices_choosePivotOrdered_int : Nat := 132
abbrev fn_slices_reverseRangeOrdered_int : Nat := 133
abbrev fn_slices_partialInsertionSortOrdered_int : Nat := 134
abbrev fn_cmp_Less_int : Nat := 135
abbrev fn_slices_partitionEqualOrdered_int : Nat := 136
abbrev fn_slices_partitionOrdered_int : Nat := 137
abbrev fn_math_bits_Len32 : Nat := 138
abbrev fn_math_bits_Len64 : Nat := 139
abbrev fn_impl_order_1 : Nat := 140
abbrev fn_slices_Reverse_S_int_int : Nat := 141
abbrev fn_impl_around_1 : Nat := 142
abbrev fn_impl_components_1 : Nat := 143
abbrev fn_slices_Index_S_int_int : Nat := 144
abbrev fn_slices_siftDownOrdered_int : Nat := 145
abbrev fn_slices_nextPowerOfTwo : Nat := 146
abbrev fn_slices_xorshift_Next : Nat := 147
abbrev fn_slices_medianAdjacentOrdered_int : Nat := 148
abbrev fn_slices_medianOrdered_int : Nat := 149
abbrev fn_cmp_isNaN_int : Nat := 150
abbrev fn_slices_order2Ordered_int : Nat := 151
abbrev fn_runtime_boundsError_Error : Nat := 152
abbrev fn_runtime_boundsError_RuntimeError : Nat := 153
abbrev fn_runtime_errorString_Error : Nat := 154
abbrev fn_runtime_errorString_RuntimeError : Nat := 155
abbrev fn_runtime_plainError_Error : Nat := 156
abbrev fn_runtime_plainError_RuntimeError : Nat := 157
abbrev fn_runtime_errorAddressString_Error : Nat := 158
abbrev fn_runtime_errorAddressString_RuntimeError : Nat := 159
abbrev fn_runtime_TypeAssertionError_Error : Nat := 160
abbrev fn_runtime_TypeAssertionError_RuntimeError : Nat := 161
abbrev fn_runtime_PanicNilError_Error : Nat := 162
abbrev fn_runtime_PanicNilError_RuntimeError : Nat := 163
abbrev fn_internal_abi_Type_Align : Nat := 164
abbrev fn_internal_runtime_maps_unhashableTypeError_Error : Nat := 165
abbrev fn_internal_runtime_maps_unhashableTypeError_RuntimeError : Nat := 166
abbrev fn_impl_Automaton_accepting : Nat := 167
abbrev fn_impl_Lasso_next : Nat := 168
abbrev fn_internal_abi_Kind_String : Nat := 169
def H_impl_AutomatonValid : Hint := ⟨[(0, false), (1, true), (2, false), (3, false), (4, false), (6, false), (11, false), (12, false), (13, false)], [[0, 2, 5]]⟩
def K37_1 : Pl := .st (.act (some (.v 17, true)) (.px (some 22) (.un .not (.v 21)))) <|
    .st (.act none (.px (some 23) (.pick (.v 17) (.v 22) (.c (.bool false))))) <|
    .st (.act none (.px (some 2) (.mv (.v 23)))) .done
@[simp] def W37_1 := @Pl.wpe _ _ K37_1.eq_1
def K37_2 : Pl := .st (.act none (.px (some 11) (.mv (.v 10)))) <|
    .st (.act (some (.v 11, true)) (.als 12 none 1)) <|
    .st (.act (some (.v 11, true)) (.pget (some 13) (some 12) 1 2 none)) <|
    .st (.act (some (.v 11, true)) (.px (some 14) (.lenV (.v 13)))) <|
    .st (.act (some (.v 11, true)) (.px (some 15) (.bin .leq (.v 14) (.c (.int .i64 2048))))) <|
    .st (.act none (.px (some 16) (.pick (.v 11) (.v 15) (.c (.bool false))))) <|
    .st (.act none (.px (some 17) (.mv (.v 16)))) <|
    .st (.act (some (.v 17, true)) (.als 18 none 1)) <|
    .st (.act (some (.v 17, true)) (.pget (some 19) (some 18) 1 2 none)) <|
    .st (.act (some (.v 17, true)) (.px (some 20) (.mkf (.func fn_impl_AutomatonValid_1) [] [.v 3]))) <|
    .st (.act (some (.v 17, true)) (.ex (some 21) (.call fn_slices_ContainsFunc_S_impl_Transition_impl_Transition [.v 19, .v 20]))) K37_1
@[simp] def W37_2 := @Pl.wpe _ _ K37_2.eq_1
def K37_3 : C := .seq (.pl <| .st (.ext 9 15) <|
    .st (.act none (.ld (some 9) (.v 3) none)) <|
    .st (.act none (.ex (some 10) (.call fn_impl_in [.v 9, .c (.int .i64 1), .c (.int .i64 64)]))) K37_2) (.ret)
@[simp] def W37_3 := @C.wpe _ _ K37_3.eq_1
def K37_4 : C := .pl <| .st (.ext 9 1) <|
    .st (.act none (.px (some 9) (.bin .add (.v 8) (.c (.int .i64 1))))) <|
    .st (.act none (.px (some 8) (.mv (.v 9)))) .done
@[simp] def W37_4 := @C.wpe _ _ K37_4.eq_1
def K37_5 : C := .pl <| .st (.ext 9 1) <|
    .st (.act none (.px (some 9) (.mv (.v 5)))) <|
    .st (.act none (.px (some 4) (.mv (.v 9)))) .done
@[simp] def W37_5 := @C.wpe _ _ K37_5.eq_1
def K37_6 : C := .seq (.pl <| .st (.ext 9 0) <|
    .st (.act none (.px (some 2) (.mv (.c (.bool false))))) .done) (.ret)
@[simp] def W37_6 := @C.wpe _ _ K37_6.eq_1
def K37_7 : C := .cond 9 (.v 15) K37_6 (.skip)
@[simp] def W37_7 := @C.wpe _ _ K37_7.eq_1
def K37_8 : Pl := .st (.act none (.px (some 15) (.un .not (.v 14)))) .done
@[simp] def W37_8 := @Pl.wpe _ _ K37_8.eq_1
def K37_9 : C := .seq (.seq (.pl <| .st (.ext 9 7) <|
    .st (.act none (.px (some 9) (.mv (.v 5)))) <|
    .st (.act none (.px (some 10) (.mv (.v 4)))) <|
    .st (.act none (.px (some 11) (.bin .add (.v 10) (.c (.int .i64 1))))) <|
    .st (.act none (.ld (some 12) (.v 3) none)) <|
    .st (.act none (.px (some 13) (.bin .sub (.v 12) (.c (.int .i64 1))))) <|
    .st (.act none (.ex (some 14) (.call fn_impl_in [.v 9, .v 11, .v 13]))) K37_8) K37_7) K37_5
@[simp] def W37_9 := @C.wpe _ _ K37_9.eq_1
def K37_10 : C := .seq (.block 1 (.seq (.pl <| .st (.ext 9 2) <|
    .st (.act none (.px (some 9) (.ia 1 (.v 6) (.v 8)))) <|
    .st (.act none (.ld (some 10) (.v 9) none)) <|
    .st (.act none (.px (some 5) (.mv (.v 10)))) .done) K37_9)) K37_4
@[simp] def W37_10 := @C.wpe _ _ K37_10.eq_1
def K37_11 : C := .seq (.cond 9 (.v 9) (.skip) (.exit 0)) K37_10
@[simp] def W37_11 := @C.wpe _ _ K37_11.eq_1
def K37_12 : C := .seq (.pl <| .st (.ext 9 1) <|
    .st (.act none (.px (some 9) (.bin .lss (.v 8) (.v 7)))) .done) K37_11
@[simp] def W37_12 := @C.wpe _ _ K37_12.eq_1
def K37_13 : C := .block 0 (.loop 9 [0, 2, 5] K37_12)
@[simp] def W37_13 := @C.wpe _ _ K37_13.eq_1
def K37_14 : C := .seq (.seq (.pl <| .st (.ext 9 1) <|
    .st (.act none (.als 9 none 1)) <|
    .st (.act none (.pget (some 6) (some 9) 1 0 none)) <|
    .st (.act none (.px (some 7) (.lenV (.v 6)))) <|
    .st (.act none (.px (some 8) (.mv (.c (.int .i64 0))))) .done) K37_13) K37_3
@[simp] def W37_14 := @C.wpe _ _ K37_14.eq_1
def K37_15 : C := .seq (.pl <| .st (.ext 9 0) <|
    .st (.act none (.px (some 4) (.mv (.c (.int .i64 (-1)))))) .done) K37_14
@[simp] def W37_15 := @C.wpe _ _ K37_15.eq_1
def K37_16 : Pl := .st (.act none (.ex none (.store 1 (.v 3) (.v 11)))) .done
@[simp] def W37_16 := @Pl.wpe _ _ K37_16.eq_1
def K37_17 : C := .seq (.pl <| .st (.ext 9 3) <|
    .st (.act none (.als 9 none 1)) <|
    .st (.act none (.pget (some 10) (some 9) 1 1 none)) <|
    .st (.act none (.px (some 11) (.lenV (.v 10)))) <|
    .st (.act none (.ex (some 3) (.alloc (.c (.int .i64 0))))) K37_16) K37_15
@[simp] def W37_17 := @C.wpe _ _ K37_17.eq_1
def B_impl_AutomatonValid : C := .seq (.pl <| .st (.ext 9 0) <|
    .st (.act none (.pnew 1 (.v 0) [])) <|
    .st (.act none (.px (some 2) (.mv (.c (.bool false))))) .done) K37_17
@[simp] def WB_impl_AutomatonValid := @C.wpe _ _ B_impl_AutomatonValid.eq_1
def R_impl_AutomatonValid : FIR := ⟨B_impl_AutomatonValid, 9, [(2, none)]⟩
theorem IR_impl_AutomatonValid : cfun Try.prog H_impl_AutomatonValid Try.f37 = some R_impl_AutomatonValid := by kernel_rfl
theorem EN_impl_AutomatonValid {args : List Value} {h : Heap} {k : Value → Heap → Prop} (hargs : args.length = 1) (hw : B_impl_AutomatonValid.wp Try.prog (retQ [(2, none)] k) (env0 args 9) h) : CallE Try.prog fn_impl_AutomatonValid args h k := enter Try.func37 rfl IR_impl_AutomatonValid hargs hw

def H_impl_AutomatonValid_1 : Hint := ⟨[(0, false), (1, false), (2, true), (3, false)], []⟩
def K67_1 : Pl := .st (.act (some (.v 18, false)) (.px (some 22) (.un .not (.v 21)))) <|
    .st (.act none (.px (some 23) (.pick (.v 18) (.c (.bool true)) (.v 22)))) <|
    .st (.act none (.px (some 24) (.mv (.v 23)))) <|
    .st (.act (some (.v 24, false)) (.als 25 none 2)) <|
    .st (.act (some (.v 24, false)) (.pget (some 26) (some 25) 2 2 none)) <|
    .st (.act (some (.v 24, false)) (.px (some 27) (.bin .lss (.v 26) (.c (.int .i64 0))))) <|
    .st (.act none (.px (some 28) (.pick (.v 24) (.c (.bool true)) (.v 27)))) <|
    .st (.act none (.px (some 29) (.mv (.v 28)))) <|
    .st (.act (some (.v 29, false)) (.als 30 none 2)) <|
    .st (.act (some (.v 29, false)) (.pget (some 31) (some 30) 2 2 none)) <|
    .st (.act (some (.v 29, false)) (.als 32 none 2)) <|
    .st (.act (some (.v 29, false)) (.pget (some 33) (some 32) 2 1 none)) <|
    .st (.act (some (.v 29, false)) (.px (some 34) (.bin .andNot (.v 31) (.v 33)))) <|
    .st (.act (some (.v 29, false)) (.px (some 35) (.bin .neq (.v 34) (.c (.int .i64 0))))) <|
    .st (.act none (.px (some 36) (.pick (.v 29) (.c (.bool true)) (.v 35)))) <|
    .st (.act none (.px (some 3) (.mv (.v 36)))) .done
@[simp] def W67_1 := @Pl.wpe _ _ K67_1.eq_1
def K67_2 : Pl := .st (.act (some (.v 10, false)) (.px (some 16) (.un .not (.v 15)))) <|
    .st (.act none (.px (some 17) (.pick (.v 10) (.c (.bool true)) (.v 16)))) <|
    .st (.act none (.px (some 18) (.mv (.v 17)))) <|
    .st (.act (some (.v 18, false)) (.als 19 none 2)) <|
    .st (.act (some (.v 18, false)) (.pget (some 20) (some 19) 2 1 none)) <|
    .st (.act (some (.v 18, false)) (.ex (some 21) (.call fn_impl_in [.v 20, .c (.int .i64 0), .c (.int .i64 7)]))) K67_1
@[simp] def W67_2 := @Pl.wpe _ _ K67_2.eq_1
def K67_3 : Pl := .st (.act none (.px (some 9) (.un .not (.v 8)))) <|
    .st (.act none (.px (some 10) (.mv (.v 9)))) <|
    .st (.act (some (.v 10, false)) (.als 11 none 2)) <|
    .st (.act (some (.v 10, false)) (.pget (some 12) (some 11) 2 3 none)) <|
    .st (.act (some (.v 10, false)) (.ld (some 13) (.v 1) none)) <|
    .st (.act (some (.v 10, false)) (.px (some 14) (.bin .sub (.v 13) (.c (.int .i64 1))))) <|
    .st (.act (some (.v 10, false)) (.ex (some 15) (.call fn_impl_in [.v 12, .c (.int .i64 0), .v 14]))) K67_2
@[simp] def W67_3 := @Pl.wpe _ _ K67_3.eq_1
def K67_4 : C := .seq (.pl <| .st (.ext 4 33) <|
    .st (.act none (.als 4 none 2)) <|
    .st (.act none (.pget (some 5) (some 4) 2 0 none)) <|
    .st (.act none (.ld (some 6) (.v 1) none)) <|
    .st (.act none (.px (some 7) (.bin .sub (.v 6) (.c (.int .i64 1))))) <|
    .st (.act none (.ex (some 8) (.call fn_impl_in [.v 5, .c (.int .i64 0), .v 7]))) K67_3) (.ret)
@[simp] def W67_4 := @C.wpe _ _ K67_4.eq_1
def B_impl_AutomatonValid_1 : C := .seq (.pl <| .st (.ext 4 0) <|
    .st (.act none (.pnew 2 (.v 0) [])) <|
    .st (.act none (.px (some 3) (.mv (.c (.bool false))))) .done) K67_4
@[simp] def WB_impl_AutomatonValid_1 := @C.wpe _ _ B_impl_AutomatonValid_1.eq_1
def R_impl_AutomatonValid_1 : FIR := ⟨B_impl_AutomatonValid_1, 4, [(3, none)]⟩
theorem IR_impl_AutomatonValid_1 : cfun Try.prog H_impl_AutomatonValid_1 Try.f67 = some R_impl_AutomatonValid_1 := by kernel_rfl
theorem EN_impl_AutomatonValid_1 {args : List Value} {h : Heap} {k : Value → Heap → Prop} (hargs : args.length = 2) (hw : B_impl_AutomatonValid_1.wp Try.prog (retQ [(3, none)] k) (env0 args 4) h) : CallE Try.prog fn_impl_AutomatonValid_1 args h k := enter Try.func67 rfl IR_impl_AutomatonValid_1 hargs hw

def H_impl_Automaton_copyOf : Hint := ⟨[(0, false), (1, true), (2, true)], []⟩
def K71_1 : Pl := .st (.act none (.px (some 12) (.build [.slice none 0 0, .slice none 0 0, .slice none 0 0] [(0, 1, .v 5), (1, 1, .v 8), (2, 1, .v 11)]))) <|
    .st (.act none (.pset none 2 0 3 (.v 12))) .done
@[simp] def W71_1 := @Pl.wpe _ _ K71_1.eq_1
def K71_2 : Pl := .st (.act none (.ex (some 11) (.call fn_impl_clone_impl_Transition [.v 10]))) K71_1
@[simp] def W71_2 := @Pl.wpe _ _ K71_2.eq_1
def K71_3 : Pl := .st (.act none (.ex (some 8) (.call fn_impl_clone_bool [.v 7]))) K71_2
@[simp] def W71_3 := @Pl.wpe _ _ K71_3.eq_1
def K71_4 : C := .seq (.pl <| .st (.ext 3 10) <|
    .st (.act none (.als 3 none 1)) <|
    .st (.act none (.pget (some 4) (some 3) 1 0 none)) <|
    .st (.act none (.als 6 none 1)) <|
    .st (.act none (.pget (some 7) (some 6) 1 1 none)) <|
    .st (.act none (.als 9 none 1)) <|
    .st (.act none (.pget (some 10) (some 9) 1 2 none)) <|
    .st (.act none (.ex (some 5) (.call fn_impl_clone_int [.v 4]))) K71_3) (.ret)
@[simp] def W71_4 := @C.wpe _ _ K71_4.eq_1
def B_impl_Automaton_copyOf : C := .seq (.pl <| .st (.ext 3 0) <|
    .st (.act none (.pnew 1 (.v 0) [])) <|
    .st (.act none (.pnew 2 (.c (.agg #[.slice none 0 0, .slice none 0 0, .slice none 0 0])) [])) .done) K71_4
@[simp] def WB_impl_Automaton_copyOf := @C.wpe _ _ B_impl_Automaton_copyOf.eq_1
def R_impl_Automaton_copyOf : FIR := ⟨B_impl_Automaton_copyOf, 3, [(2, some (some 3))]⟩
theorem IR_impl_Automaton_copyOf : cfun Try.prog H_impl_Automaton_copyOf Try.f71 = some R_impl_Automaton_copyOf := by kernel_rfl
theorem EN_impl_Automaton_copyOf {args : List Value} {h : Heap} {k : Value → Heap → Prop} (hargs : args.length = 1) (hw : B_impl_Automaton_copyOf.wp Try.prog (retQ [(2, some (some 3))] k) (env0 args 3) h) : CallE Try.prog fn_impl_Automaton_copyOf args h k := enter Try.func71 rfl IR_impl_Automaton_copyOf hargs hw

def H_impl_Automaton_live : Hint := ⟨[(0, false), (1, true), (2, false), (3, false), (4, false), (5, false), (6, false), (7, false), (8, false), (17, false), (18, false), (24, false), (25, false), (26, false)], [[0, 2, 6, 7, 8, 11, 12, 13], [0, 2, 7, 8]]⟩
def K70_1 : C := .seq (.pl <| .st (.ext 14 1) <|
    .st (.act none (.px (some 14) (.mv (.v 5)))) <|
    .st (.act none (.px (some 2) (.mv (.v 14)))) .done) (.ret)
@[simp] def W70_1 := @C.wpe _ _ K70_1.eq_1
def K70_2 : C := .pl <| .st (.ext 14 1) <|
    .st (.act none (.px (some 14) (.bin .add (.v 10) (.c (.int .i64 1))))) <|
    .st (.act none (.px (some 10) (.mv (.v 14)))) .done
@[simp] def W70_2 := @C.wpe _ _ K70_2.eq_1
def K70_3 : C := .pl <| .st (.ext 14 1) <|
    .st (.act none (.px (some 14) (.bin .add (.v 13) (.c (.int .i64 1))))) <|
    .st (.act none (.px (some 13) (.mv (.v 14)))) .done
@[simp] def W70_3 := @C.wpe _ _ K70_3.eq_1
def K70_4 : C := .pl <| .st (.ext 14 23) <|
    .st (.act none (.px (some 14) (.mv (.v 5)))) <|
    .st (.act none (.px (some 15) (.mv (.v 6)))) <|
    .st (.act none (.px (some 16) (.mv (.v 5)))) <|
    .st (.act none (.px (some 17) (.mv (.v 6)))) <|
    .st (.act none (.px (some 18) (.ia 1 (.v 16) (.v 17)))) <|
    .st (.act none (.ld (some 19) (.v 18) none)) <|
    .st (.act none (.px (some 20) (.mv (.v 19)))) <|
    .st (.act (some (.v 20, false)) (.px (some 21) (.mv (.v 8)))) <|
    .st (.act (some (.v 20, false)) (.px (some 22) (.mv (.v 21)))) <|
    .st (.act (some (.v 22, true)) (.px (some 23) (.mv (.v 4)))) <|
    .st (.act (some (.v 22, true)) (.px (some 24) (.mv (.v 7)))) <|
    .st (.act (some (.v 22, true)) (.px (some 25) (.ia 1 (.v 23) (.v 24)))) <|
    .st (.act (some (.v 22, true)) (.ld (some 26) (.v 25) none)) <|
    .st (.act (some (.v 20, false)) (.px (some 27) (.pick (.v 22) (.v 26) (.c (.bool false))))) <|
    .st (.act (some (.v 20, false)) (.px (some 28) (.mv (.v 27)))) <|
    .st (.act (some (.v 28, true)) (.als 29 none 1)) <|
    .st (.act (some (.v 28, true)) (.pget (some 30) (some 29) 1 1 none)) <|
    .st (.act (some (.v 28, true)) (.px (some 31) (.mv (.v 7)))) <|
    .st (.act (some (.v 28, true)) (.px (some 32) (.ia 1 (.v 30) (.v 31)))) <|
    .st (.act (some (.v 28, true)) (.ld (some 33) (.v 32) none)) <|
    .st (.act (some (.v 20, false)) (.px (some 34) (.pick (.v 28) (.v 33) (.c (.bool false))))) <|
    .st (.act none (.px (some 35) (.pick (.v 20) (.c (.bool true)) (.v 34)))) <|
    .st (.act none (.px (some 36) (.ia 1 (.v 14) (.v 15)))) <|
    .st (.act none (.ex none (.store 1 (.v 36) (.v 35)))) .done
@[simp] def W70_4 := @C.wpe _ _ K70_4.eq_1
def K70_5 : C := .seq (.block 3 (.seq (.pl <| .st (.ext 14 3) <|
    .st (.act none (.px (some 14) (.mv (.v 13)))) <|
    .st (.act none (.px (some 15) (.ia 1 (.v 11) (.v 13)))) <|
    .st (.act none (.ld (some 16) (.v 15) none)) <|
    .st (.act none (.px (some 7) (.mv (.v 14)))) <|
    .st (.act none (.px (some 8) (.mv (.v 16)))) .done) K70_4)) K70_3
@[simp] def W70_5 := @C.wpe _ _ K70_5.eq_1
def K70_6 : C := .seq (.cond 14 (.v 14) (.skip) (.exit 2)) K70_5
@[simp] def W70_6 := @C.wpe _ _ K70_6.eq_1
def K70_7 : C := .seq (.pl <| .st (.ext 14 1) <|
    .st (.act none (.px (some 14) (.bin .lss (.v 13) (.v 12)))) .done) K70_6
@[simp] def W70_7 := @C.wpe _ _ K70_7.eq_1
def K70_8 : C := .block 2 (.loop 14 [0, 2, 7, 8] K70_7)
@[simp] def W70_8 := @C.wpe _ _ K70_8.eq_1
def K70_9 : Pl := .st (.act none (.px (some 12) (.lenV (.v 11)))) <|
    .st (.act none (.px (some 13) (.mv (.c (.int .i64 0))))) .done
@[simp] def W70_9 := @Pl.wpe _ _ K70_9.eq_1
def K70_10 : Pl := .st (.act none (.ex (some 11) (.call fn_impl_reachable [.v 14, .v 16]))) K70_9
@[simp] def W70_10 := @Pl.wpe _ _ K70_10.eq_1
def K70_11 : C := .seq (.pl <| .st (.ext 14 3) <|
    .st (.act none (.px (some 14) (.mv (.v 3)))) <|
    .st (.act none (.px (some 15) (.mv (.v 6)))) <|
    .st (.act none (.ex (some 16) (.bls 1 1 [.int .i64 0] [(0, 1, .v 15)]))) K70_10) K70_8
@[simp] def W70_11 := @C.wpe _ _ K70_11.eq_1
def K70_12 : C := .seq (.block 1 (.seq (.pl <| .st (.ext 14 1) <|
    .st (.act none (.px (some 14) (.mv (.v 10)))) <|
    .st (.act none (.px (some 6) (.mv (.v 14)))) .done) K70_11)) K70_2
@[simp] def W70_12 := @C.wpe _ _ K70_12.eq_1
def K70_13 : C := .seq (.cond 14 (.v 14) (.skip) (.exit 0)) K70_12
@[simp] def W70_13 := @C.wpe _ _ K70_13.eq_1
def K70_14 : C := .seq (.pl <| .st (.ext 14 1) <|
    .st (.act none (.px (some 14) (.bin .lss (.v 10) (.v 9)))) .done) K70_13
@[simp] def W70_14 := @C.wpe _ _ K70_14.eq_1
def K70_15 : C := .block 0 (.loop 14 [0, 2, 6, 7, 8, 11, 12, 13] K70_14)
@[simp] def W70_15 := @C.wpe _ _ K70_15.eq_1
def K70_16 : C := .seq (.seq (.pl <| .st (.ext 14 1) <|
    .st (.act none (.px (some 14) (.mv (.v 3)))) <|
    .st (.act none (.px (some 9) (.lenV (.v 14)))) <|
    .st (.act none (.px (some 10) (.mv (.c (.int .i64 0))))) .done) K70_15) K70_1
@[simp] def W70_16 := @C.wpe _ _ K70_16.eq_1
def K70_17 : Pl := .st (.act none (.px (some 5) (.mv (.v 16)))) .done
@[simp] def W70_17 := @Pl.wpe _ _ K70_17.eq_1
def K70_18 : C := .seq (.pl <| .st (.ext 14 3) <|
    .st (.act none (.px (some 14) (.mv (.v 3)))) <|
    .st (.act none (.px (some 15) (.lenV (.v 14)))) <|
    .st (.act none (.ex (some 16) (.mks 1 1 [.bool false] (.v 15) (.v 15)))) K70_17) K70_16
@[simp] def W70_18 := @C.wpe _ _ K70_18.eq_1
def K70_19 : Pl := .st (.act none (.px (some 4) (.mv (.v 15)))) .done
@[simp] def W70_19 := @Pl.wpe _ _ K70_19.eq_1
def K70_20 : C := .seq (.pl <| .st (.ext 14 2) <|
    .st (.act none (.px (some 14) (.mv (.v 3)))) <|
    .st (.act none (.ex (some 15) (.call fn_impl_cyclic [.v 14]))) K70_19) K70_18
@[simp] def W70_20 := @C.wpe _ _ K70_20.eq_1
def K70_21 : Pl := .st (.act none (.px (some 3) (.mv (.v 15)))) .done
@[simp] def W70_21 := @Pl.wpe _ _ K70_21.eq_1
def K70_22 : C := .seq (.pl <| .st (.ext 14 2) <|
    .st (.act none (.pget (some 14) none 1 0 (some 3))) <|
    .st (.act none (.ex (some 15) (.call fn_impl_Automaton_next [.v 14]))) K70_21) K70_20
@[simp] def W70_22 := @C.wpe _ _ K70_22.eq_1
def B_impl_Automaton_live : C := .seq (.pl <| .st (.ext 14 0) <|
    .st (.act none (.pnew 1 (.v 0) [])) <|
    .st (.act none (.px (some 2) (.mv (.c (.slice none 0 0))))) .done) K70_22
@[simp] def WB_impl_Automaton_live := @C.wpe _ _ B_impl_Automaton_live.eq_1
def R_impl_Automaton_live : FIR := ⟨B_impl_Automaton_live, 14, [(2, none)]⟩
theorem IR_impl_Automaton_live : cfun Try.prog H_impl_Automaton_live Try.f70 = some R_impl_Automaton_live := by kernel_rfl
theorem EN_impl_Automaton_live {args : List Value} {h : Heap} {k : Value → Heap → Prop} (hargs : args.length = 1) (hw : B_impl_Automaton_live.wp Try.prog (retQ [(2, none)] k) (env0 args 14) h) : CallE Try.prog fn_impl_Automaton_live args h k := enter Try.func70 rfl IR_impl_Automaton_live hargs hw

def H_impl_Automaton_next : Hint := ⟨[(0, false), (1, true), (2, false), (3, false), (5, true), (11, false), (12, false), (13, false)], [[0, 1, 2, 4]]⟩
def K69_1 : C := .seq (.pl <| .st (.ext 8 1) <|
    .st (.act none (.px (some 8) (.mv (.v 3)))) <|
    .st (.act none (.px (some 2) (.mv (.v 8)))) .done) (.ret)
@[simp] def W69_1 := @C.wpe _ _ K69_1.eq_1
def K69_2 : C := .pl <| .st (.ext 8 1) <|
    .st (.act none (.px (some 8) (.bin .add (.v 7) (.c (.int .i64 1))))) <|
    .st (.act none (.px (some 7) (.mv (.v 8)))) .done
@[simp] def W69_2 := @C.wpe _ _ K69_2.eq_1
def K69_3 : Pl := .st (.act none (.px (some 20) (.ia 1 (.v 8) (.v 10)))) <|
    .st (.act none (.ex none (.store 1 (.v 20) (.v 19)))) .done
@[simp] def W69_3 := @Pl.wpe _ _ K69_3.eq_1
def K69_4 : C := .pl <| .st (.ext 8 13) <|
    .st (.act none (.px (some 8) (.mv (.v 3)))) <|
    .st (.act none (.als 9 none 4)) <|
    .st (.act none (.pget (some 10) (some 9) 4 0 none)) <|
    .st (.act none (.px (some 11) (.mv (.v 3)))) <|
    .st (.act none (.als 12 none 4)) <|
    .st (.act none (.pget (some 13) (some 12) 4 0 none)) <|
    .st (.act none (.px (some 14) (.ia 1 (.v 11) (.v 13)))) <|
    .st (.act none (.ld (some 15) (.v 14) none)) <|
    .st (.act none (.als 16 none 4)) <|
    .st (.act none (.pget (some 17) (some 16) 4 3 none)) <|
    .st (.act none (.psl 18 [.int .i64 0] [(0, 1, .v 17)])) <|
    .st (.act none (.ex (some 19) (.app 8 1 [.int .i64 0] (.o (.v 15)) (.p 1 18)))) K69_3
@[simp] def W69_4 := @C.wpe _ _ K69_4.eq_1
def K69_5 : C := .seq (.block 1 (.seq (.pl <| .st (.ext 8 2) <|
    .st (.act none (.px (some 8) (.ia 4 (.v 5) (.v 7)))) <|
    .st (.act none (.ld (some 9) (.v 8) (some 4))) <|
    .st (.act none (.pnew 4 (.c (.agg #[.int .i64 0, .int .i64 0, .int .i64 0, .int .i64 0])) [])) <|
    .st (.act none (.pset none 4 0 4 (.v 9))) .done) K69_4)) K69_2
@[simp] def W69_5 := @C.wpe _ _ K69_5.eq_1
def K69_6 : C := .seq (.cond 8 (.v 8) (.skip) (.exit 0)) K69_5
@[simp] def W69_6 := @C.wpe _ _ K69_6.eq_1
def K69_7 : C := .seq (.pl <| .st (.ext 8 1) <|
    .st (.act none (.px (some 8) (.bin .lss (.v 7) (.v 6)))) .done) K69_6
@[simp] def W69_7 := @C.wpe _ _ K69_7.eq_1
def K69_8 : C := .block 0 (.loop 8 [0, 1, 2, 4] K69_7)
@[simp] def W69_8 := @C.wpe _ _ K69_8.eq_1
def K69_9 : C := .seq (.seq (.pl <| .st (.ext 8 1) <|
    .st (.act none (.als 8 none 1)) <|
    .st (.act none (.pget (some 5) (some 8) 1 2 none)) <|
    .st (.act none (.px (some 6) (.lenV (.v 5)))) <|
    .st (.act none (.px (some 7) (.mv (.c (.int .i64 0))))) .done) K69_8) K69_1
@[simp] def W69_9 := @C.wpe _ _ K69_9.eq_1
def K69_10 : Pl := .st (.act none (.px (some 3) (.mv (.v 11)))) .done
@[simp] def W69_10 := @Pl.wpe _ _ K69_10.eq_1
def K69_11 : C := .seq (.pl <| .st (.ext 8 4) <|
    .st (.act none (.als 8 none 1)) <|
    .st (.act none (.pget (some 9) (some 8) 1 1 none)) <|
    .st (.act none (.px (some 10) (.lenV (.v 9)))) <|
    .st (.act none (.ex (some 11) (.mks 24 1 [.slice none 0 0] (.v 10) (.v 10)))) K69_10) K69_9
@[simp] def W69_11 := @C.wpe _ _ K69_11.eq_1
def B_impl_Automaton_next : C := .seq (.pl <| .st (.ext 8 0) <|
    .st (.act none (.pnew 1 (.v 0) [])) <|
    .st (.act none (.px (some 2) (.mv (.c (.slice none 0 0))))) .done) K69_11
@[simp] def WB_impl_Automaton_next := @C.wpe _ _ B_impl_Automaton_next.eq_1
def R_impl_Automaton_next : FIR := ⟨B_impl_Automaton_next, 8, [(2, none)]⟩
theorem IR_impl_Automaton_next : cfun Try.prog H_impl_Automaton_next Try.f69 = some R_impl_Automaton_next := by kernel_rfl
theorem EN_impl_Automaton_next {args : List Value} {h : Heap} {k : Value → Heap → Prop} (hargs : args.length = 1) (hw : B_impl_Automaton_next.wp Try.prog (retQ [(2, none)] k) (env0 args 8) h) : CallE Try.prog fn_impl_Automaton_next args h k := enter Try.func69 rfl IR_impl_Automaton_next hargs hw

def H_impl_Automaton_trim : Hint := ⟨[(0, false), (1, true), (2, true), (3, false), (4, false), (5, false), (6, true), (7, false), (9, false), (11, true), (23, false), (24, false), (64, false), (65, false), (66, false), (86, false), (87, false), (88, false)], [[0, 7, 8, 9, 12, 13, 14, 15, 16, 17], [0, 3, 4, 7, 8, 9, 10, 11, 15, 16, 17], [0, 1, 3, 4, 7, 8, 9, 10, 11, 12, 13, 14]]⟩
def K38_1 : Pl := .st (.act none (.pset none 2 0 3 (.v 19))) .done
@[simp] def W38_1 := @Pl.wpe _ _ K38_1.eq_1
def K38_2 : C := .seq (.pl <| .st (.ext 18 2) <|
    .st (.act none (.pget (some 18) none 6 0 (some 3))) <|
    .st (.act none (.ex (some 19) (.call fn_impl_Automaton_copyOf [.v 18]))) K38_1) (.ret)
@[simp] def W38_2 := @C.wpe _ _ K38_2.eq_1
def K38_3 : C := .pl <| .st (.ext 18 1) <|
    .st (.act none (.px (some 18) (.bin .add (.v 17) (.c (.int .i64 1))))) <|
    .st (.act none (.px (some 17) (.mv (.v 18)))) .done
@[simp] def W38_3 := @C.wpe _ _ K38_3.eq_1
def K38_4 : Pl := .st (.act none (.als 37 none 6)) <|
    .st (.act none (.pset (some 37) 6 2 1 (.v 36))) .done
@[simp] def W38_4 := @Pl.wpe _ _ K38_4.eq_1
def K38_5 : C := .pl <| .st (.ext 18 20) <|
    .st (.act none (.als 18 none 6)) <|
    .st (.act none (.pget (some 19) (some 18) 6 2 none)) <|
    .st (.act none (.px (some 20) (.mv (.v 5)))) <|
    .st (.act none (.als 21 none 9)) <|
    .st (.act none (.pget (some 22) (some 21) 9 0 none)) <|
    .st (.act none (.px (some 23) (.ia 1 (.v 20) (.v 22)))) <|
    .st (.act none (.ld (some 24) (.v 23) none)) <|
    .st (.act none (.als 25 none 9)) <|
    .st (.act none (.pget (some 26) (some 25) 9 1 none)) <|
    .st (.act none (.als 27 none 9)) <|
    .st (.act none (.pget (some 28) (some 27) 9 2 none)) <|
    .st (.act none (.px (some 29) (.mv (.v 5)))) <|
    .st (.act none (.als 30 none 9)) <|
    .st (.act none (.pget (some 31) (some 30) 9 3 none)) <|
    .st (.act none (.px (some 32) (.ia 1 (.v 29) (.v 31)))) <|
    .st (.act none (.ld (some 33) (.v 32) none)) <|
    .st (.act none (.px (some 34) (.build [.int .i64 0, .int .i64 0, .int .i64 0, .int .i64 0] [(0, 1, .v 24), (1, 1, .v 26), (2, 1, .v 28), (3, 1, .v 33)]))) <|
    .st (.act none (.psl 35 [.int .i64 0, .int .i64 0, .int .i64 0, .int .i64 0] [(0, 4, .v 34)])) <|
    .st (.act none (.ex (some 36) (.app 32 4 [.int .i64 0, .int .i64 0, .int .i64 0, .int .i64 0] (.o (.v 19)) (.p 1 35)))) K38_4
@[simp] def W38_5 := @C.wpe _ _ K38_5.eq_1
def K38_6 : C := .cond 18 (.v 31) K38_5 (.skip)
@[simp] def W38_6 := @C.wpe _ _ K38_6.eq_1
def K38_7 : C := .seq (.pl <| .st (.ext 18 14) <|
    .st (.act none (.px (some 18) (.mv (.v 5)))) <|
    .st (.act none (.als 19 none 9)) <|
    .st (.act none (.pget (some 20) (some 19) 9 0 none)) <|
    .st (.act none (.px (some 21) (.ia 1 (.v 18) (.v 20)))) <|
    .st (.act none (.ld (some 22) (.v 21) none)) <|
    .st (.act none (.px (some 23) (.bin .geq (.v 22) (.c (.int .i64 0))))) <|
    .st (.act none (.px (some 24) (.mv (.v 23)))) <|
    .st (.act (some (.v 24, true)) (.px (some 25) (.mv (.v 5)))) <|
    .st (.act (some (.v 24, true)) (.als 26 none 9)) <|
    .st (.act (some (.v 24, true)) (.pget (some 27) (some 26) 9 3 none)) <|
    .st (.act (some (.v 24, true)) (.px (some 28) (.ia 1 (.v 25) (.v 27)))) <|
    .st (.act (some (.v 24, true)) (.ld (some 29) (.v 28) none)) <|
    .st (.act (some (.v 24, true)) (.px (some 30) (.bin .geq (.v 29) (.c (.int .i64 0))))) <|
    .st (.act none (.px (some 31) (.pick (.v 24) (.v 30) (.c (.bool false))))) .done) K38_6
@[simp] def W38_7 := @C.wpe _ _ K38_7.eq_1
def K38_8 : C := .seq (.block 5 (.seq (.pl <| .st (.ext 18 2) <|
    .st (.act none (.px (some 18) (.ia 4 (.v 15) (.v 17)))) <|
    .st (.act none (.ld (some 19) (.v 18) (some 4))) <|
    .st (.act none (.pnew 9 (.c (.agg #[.int .i64 0, .int .i64 0, .int .i64 0, .int .i64 0])) [])) <|
    .st (.act none (.pset none 9 0 4 (.v 19))) .done) K38_7)) K38_3
@[simp] def W38_8 := @C.wpe _ _ K38_8.eq_1
def K38_9 : C := .seq (.cond 18 (.v 18) (.skip) (.exit 4)) K38_8
@[simp] def W38_9 := @C.wpe _ _ K38_9.eq_1
def K38_10 : C := .seq (.pl <| .st (.ext 18 1) <|
    .st (.act none (.px (some 18) (.bin .lss (.v 17) (.v 16)))) .done) K38_9
@[simp] def W38_10 := @C.wpe _ _ K38_10.eq_1
def K38_11 : C := .block 4 (.loop 18 [0, 1, 3, 4, 7, 8, 9, 10, 11, 12, 13, 14] K38_10)
@[simp] def W38_11 := @C.wpe _ _ K38_11.eq_1
def K38_12 : C := .seq (.seq (.pl <| .st (.ext 18 1) <|
    .st (.act none (.als 18 none 1)) <|
    .st (.act none (.pget (some 15) (some 18) 1 2 none)) <|
    .st (.act none (.px (some 16) (.lenV (.v 15)))) <|
    .st (.act none (.px (some 17) (.mv (.c (.int .i64 0))))) .done) K38_11) K38_2
@[simp] def W38_12 := @C.wpe _ _ K38_12.eq_1
def K38_13 : C := .pl <| .st (.ext 18 1) <|
    .st (.act none (.px (some 18) (.bin .add (.v 14) (.c (.int .i64 1))))) <|
    .st (.act none (.px (some 14) (.mv (.v 18)))) .done
@[simp] def W38_13 := @C.wpe _ _ K38_13.eq_1
def K38_14 : Pl := .st (.act none (.als 26 none 6)) <|
    .st (.act none (.pset (some 26) 6 0 1 (.v 25))) .done
@[simp] def W38_14 := @Pl.wpe _ _ K38_14.eq_1
def K38_15 : C := .pl <| .st (.ext 18 9) <|
    .st (.act none (.als 18 none 6)) <|
    .st (.act none (.pget (some 19) (some 18) 6 0 none)) <|
    .st (.act none (.px (some 20) (.mv (.v 5)))) <|
    .st (.act none (.px (some 21) (.mv (.v 8)))) <|
    .st (.act none (.px (some 22) (.ia 1 (.v 20) (.v 21)))) <|
    .st (.act none (.ld (some 23) (.v 22) none)) <|
    .st (.act none (.psl 24 [.int .i64 0] [(0, 1, .v 23)])) <|
    .st (.act none (.ex (some 25) (.app 8 1 [.int .i64 0] (.o (.v 19)) (.p 1 24)))) K38_14
@[simp] def W38_15 := @C.wpe _ _ K38_15.eq_1
def K38_16 : C := .cond 18 (.v 22) K38_15 (.skip)
@[simp] def W38_16 := @C.wpe _ _ K38_16.eq_1
def K38_17 : C := .seq (.pl <| .st (.ext 18 5) <|
    .st (.act none (.px (some 18) (.mv (.v 5)))) <|
    .st (.act none (.px (some 19) (.mv (.v 8)))) <|
    .st (.act none (.px (some 20) (.ia 1 (.v 18) (.v 19)))) <|
    .st (.act none (.ld (some 21) (.v 20) none)) <|
    .st (.act none (.px (some 22) (.bin .geq (.v 21) (.c (.int .i64 0))))) .done) K38_16
@[simp] def W38_17 := @C.wpe _ _ K38_17.eq_1
def K38_18 : C := .seq (.block 3 (.seq (.pl <| .st (.ext 18 2) <|
    .st (.act none (.px (some 18) (.ia 1 (.v 12) (.v 14)))) <|
    .st (.act none (.ld (some 19) (.v 18) none)) <|
    .st (.act none (.px (some 8) (.mv (.v 19)))) .done) K38_17)) K38_13
@[simp] def W38_18 := @C.wpe _ _ K38_18.eq_1
def K38_19 : C := .seq (.cond 18 (.v 18) (.skip) (.exit 2)) K38_18
@[simp] def W38_19 := @C.wpe _ _ K38_19.eq_1
def K38_20 : C := .seq (.pl <| .st (.ext 18 1) <|
    .st (.act none (.px (some 18) (.bin .lss (.v 14) (.v 13)))) .done) K38_19
@[simp] def W38_20 := @C.wpe _ _ K38_20.eq_1
def K38_21 : C := .block 2 (.loop 18 [0, 3, 4, 7, 8, 9, 10, 11, 15, 16, 17] K38_20)
@[simp] def W38_21 := @C.wpe _ _ K38_21.eq_1
def K38_22 : C := .seq (.seq (.pl <| .st (.ext 18 1) <|
    .st (.act none (.als 18 none 1)) <|
    .st (.act none (.pget (some 12) (some 18) 1 0 none)) <|
    .st (.act none (.px (some 13) (.lenV (.v 12)))) <|
    .st (.act none (.px (some 14) (.mv (.c (.int .i64 0))))) .done) K38_21) K38_12
@[simp] def W38_22 := @C.wpe _ _ K38_22.eq_1
def K38_23 : Pl := .st (.act none (.px (some 19) (.build [.slice none 0 0, .slice none 0 0, .slice none 0 0] [(1, 1, .v 18)]))) <|
    .st (.act none (.pset none 2 0 3 (.v 19))) .done
@[simp] def W38_23 := @Pl.wpe _ _ K38_23.eq_1
def K38_24 : C := .seq (.pl <| .st (.ext 18 2) <|
    .st (.act none (.ex (some 18) (.mks 1 1 [.bool false] (.c (.int .i64 1)) (.c (.int .i64 1))))) K38_23) (.ret)
@[simp] def W38_24 := @C.wpe _ _ K38_24.eq_1
def K38_25 : C := .cond 18 (.v 21) K38_24 (.skip)
@[simp] def W38_25 := @C.wpe _ _ K38_25.eq_1
def K38_26 : C := .seq (.seq (.pl <| .st (.ext 18 4) <|
    .st (.act none (.als 18 none 6)) <|
    .st (.act none (.pget (some 19) (some 18) 6 1 none)) <|
    .st (.act none (.px (some 20) (.lenV (.v 19)))) <|
    .st (.act none (.px (some 21) (.bin .eql (.v 20) (.c (.int .i64 0))))) .done) K38_25) K38_22
@[simp] def W38_26 := @C.wpe _ _ K38_26.eq_1
def K38_27 : C := .pl <| .st (.ext 18 1) <|
    .st (.act none (.px (some 18) (.bin .add (.v 11) (.c (.int .i64 1))))) <|
    .st (.act none (.px (some 11) (.mv (.v 18)))) .done
@[simp] def W38_27 := @C.wpe _ _ K38_27.eq_1
def K38_28 : Pl := .st (.act none (.als 27 none 6)) <|
    .st (.act none (.pset (some 27) 6 1 1 (.v 26))) .done
@[simp] def W38_28 := @Pl.wpe _ _ K38_28.eq_1
def K38_29 : C := .pl <| .st (.ext 18 10) <|
    .st (.act none (.als 18 none 6)) <|
    .st (.act none (.pget (some 19) (some 18) 6 1 none)) <|
    .st (.act none (.als 20 none 1)) <|
    .st (.act none (.pget (some 21) (some 20) 1 1 none)) <|
    .st (.act none (.px (some 22) (.mv (.v 7)))) <|
    .st (.act none (.px (some 23) (.ia 1 (.v 21) (.v 22)))) <|
    .st (.act none (.ld (some 24) (.v 23) none)) <|
    .st (.act none (.psl 25 [.bool false] [(0, 1, .v 24)])) <|
    .st (.act none (.ex (some 26) (.app 1 1 [.bool false] (.o (.v 19)) (.p 1 25)))) K38_28
@[simp] def W38_29 := @C.wpe _ _ K38_29.eq_1
def K38_30 : C := .seq (.pl <| .st (.ext 18 6) <|
    .st (.act none (.px (some 18) (.mv (.v 5)))) <|
    .st (.act none (.px (some 19) (.mv (.v 7)))) <|
    .st (.act none (.als 20 none 6)) <|
    .st (.act none (.pget (some 21) (some 20) 6 1 none)) <|
    .st (.act none (.px (some 22) (.lenV (.v 21)))) <|
    .st (.act none (.px (some 23) (.ia 1 (.v 18) (.v 19)))) <|
    .st (.act none (.ex none (.store 1 (.v 23) (.v 22)))) .done) K38_29
@[simp] def W38_30 := @C.wpe _ _ K38_30.eq_1
def K38_31 : C := .cond 18 (.v 27) K38_30 (.skip)
@[simp] def W38_31 := @C.wpe _ _ K38_31.eq_1
def K38_32 : C := .seq (.pl <| .st (.ext 18 10) <|
    .st (.act none (.px (some 18) (.mv (.v 3)))) <|
    .st (.act none (.px (some 19) (.mv (.v 7)))) <|
    .st (.act none (.px (some 20) (.ia 1 (.v 18) (.v 19)))) <|
    .st (.act none (.ld (some 21) (.v 20) none)) <|
    .st (.act none (.px (some 22) (.mv (.v 21)))) <|
    .st (.act (some (.v 22, true)) (.px (some 23) (.mv (.v 4)))) <|
    .st (.act (some (.v 22, true)) (.px (some 24) (.mv (.v 7)))) <|
    .st (.act (some (.v 22, true)) (.px (some 25) (.ia 1 (.v 23) (.v 24)))) <|
    .st (.act (some (.v 22, true)) (.ld (some 26) (.v 25) none)) <|
    .st (.act none (.px (some 27) (.pick (.v 22) (.v 26) (.c (.bool false))))) .done) K38_31
@[simp] def W38_32 := @C.wpe _ _ K38_32.eq_1
def K38_33 : C := .seq (.pl <| .st (.ext 18 3) <|
    .st (.act none (.px (some 18) (.mv (.v 5)))) <|
    .st (.act none (.px (some 19) (.mv (.v 7)))) <|
    .st (.act none (.px (some 20) (.ia 1 (.v 18) (.v 19)))) <|
    .st (.act none (.ex none (.store 1 (.v 20) (.c (.int .i64 (-1)))))) .done) K38_32
@[simp] def W38_33 := @C.wpe _ _ K38_33.eq_1
def K38_34 : C := .seq (.block 1 (.seq (.pl <| .st (.ext 18 1) <|
    .st (.act none (.px (some 18) (.mv (.v 11)))) <|
    .st (.act none (.px (some 7) (.mv (.v 18)))) .done) K38_33)) K38_27
@[simp] def W38_34 := @C.wpe _ _ K38_34.eq_1
def K38_35 : C := .seq (.cond 18 (.v 18) (.skip) (.exit 0)) K38_34
@[simp] def W38_35 := @C.wpe _ _ K38_35.eq_1
def K38_36 : C := .seq (.pl <| .st (.ext 18 1) <|
    .st (.act none (.px (some 18) (.bin .lss (.v 11) (.v 10)))) .done) K38_35
@[simp] def W38_36 := @C.wpe _ _ K38_36.eq_1
def K38_37 : C := .block 0 (.loop 18 [0, 7, 8, 9, 12, 13, 14, 15, 16, 17] K38_36)
@[simp] def W38_37 := @C.wpe _ _ K38_37.eq_1
def K38_38 : C := .seq (.seq (.pl <| .st (.ext 18 1) <|
    .st (.act none (.px (some 18) (.mv (.v 3)))) <|
    .st (.act none (.px (some 10) (.lenV (.v 18)))) <|
    .st (.act none (.px (some 11) (.mv (.c (.int .i64 0))))) .done) K38_37) K38_26
@[simp] def W38_38 := @C.wpe _ _ K38_38.eq_1
def K38_39 : C := .seq (.pl <| .st (.ext 18 0) <|
    .st (.act none (.pnew 6 (.c (.agg #[.slice none 0 0, .slice none 0 0, .slice none 0 0])) [])) .done) K38_38
@[simp] def W38_39 := @C.wpe _ _ K38_39.eq_1
def K38_40 : Pl := .st (.act none (.px (some 5) (.mv (.v 20)))) .done
@[simp] def W38_40 := @Pl.wpe _ _ K38_40.eq_1
def K38_41 : C := .seq (.pl <| .st (.ext 18 3) <|
    .st (.act none (.px (some 18) (.mv (.v 3)))) <|
    .st (.act none (.px (some 19) (.lenV (.v 18)))) <|
    .st (.act none (.ex (some 20) (.mks 8 1 [.int .i64 0] (.v 19) (.v 19)))) K38_40) K38_39
@[simp] def W38_41 := @C.wpe _ _ K38_41.eq_1
def K38_42 : Pl := .st (.act none (.px (some 3) (.mv (.v 22)))) <|
    .st (.act none (.px (some 4) (.mv (.v 24)))) .done
@[simp] def W38_42 := @Pl.wpe _ _ K38_42.eq_1
def K38_43 : Pl := .st (.act none (.ex (some 24) (.call fn_impl_Automaton_live [.v 23]))) K38_42
@[simp] def W38_43 := @Pl.wpe _ _ K38_43.eq_1
def K38_44 : Pl := .st (.act none (.ex (some 22) (.call fn_impl_reachable [.v 19, .v 21]))) K38_43
@[simp] def W38_44 := @Pl.wpe _ _ K38_44.eq_1
def K38_45 : C := .seq (.pl <| .st (.ext 18 7) <|
    .st (.act none (.pget (some 18) none 1 0 (some 3))) <|
    .st (.act none (.als 20 none 1)) <|
    .st (.act none (.pget (some 21) (some 20) 1 0 none)) <|
    .st (.act none (.pget (some 23) none 1 0 (some 3))) <|
    .st (.act none (.ex (some 19) (.call fn_impl_Automaton_next [.v 18]))) K38_44) K38_41
@[simp] def W38_45 := @C.wpe _ _ K38_45.eq_1
def B_impl_Automaton_trim : C := .seq (.pl <| .st (.ext 18 0) <|
    .st (.act none (.pnew 1 (.v 0) [])) <|
    .st (.act none (.pnew 2 (.c (.agg #[.slice none 0 0, .slice none 0 0, .slice none 0 0])) [])) .done) K38_45
@[simp] def WB_impl_Automaton_trim := @C.wpe _ _ B_impl_Automaton_trim.eq_1
def R_impl_Automaton_trim : FIR := ⟨B_impl_Automaton_trim, 18, [(2, some (some 3))]⟩
theorem IR_impl_Automaton_trim : cfun Try.prog H_impl_Automaton_trim Try.f38 = some R_impl_Automaton_trim := by kernel_rfl
theorem EN_impl_Automaton_trim {args : List Value} {h : Heap} {k : Value → Heap → Prop} (hargs : args.length = 1) (hw : B_impl_Automaton_trim.wp Try.prog (retQ [(2, some (some 3))] k) (env0 args 18) h) : CallE Try.prog fn_impl_Automaton_trim args h k := enter Try.func38 rfl IR_impl_Automaton_trim hargs hw

def H_impl_TrimAutomaton : Hint := ⟨[(0, false), (1, true), (2, true), (3, false)], []⟩
def K11_1 : Pl := .st (.act none (.pset none 2 0 3 (.v 5))) <|
    .st (.act none (.px (some 3) (.mv (.c (.bool true))))) .done
@[simp] def W11_1 := @Pl.wpe _ _ K11_1.eq_1
def K11_2 : C := .seq (.pl <| .st (.ext 4 2) <|
    .st (.act none (.pget (some 4) none 1 0 (some 3))) <|
    .st (.act none (.ex (some 5) (.call fn_impl_Automaton_trim [.v 4]))) K11_1) (.ret)
@[simp] def W11_2 := @C.wpe _ _ K11_2.eq_1
def K11_3 : C := .seq (.pl <| .st (.ext 4 1) <|
    .st (.act none (.px (some 4) (.build [.slice none 0 0, .slice none 0 0, .slice none 0 0] []))) <|
    .st (.act none (.pset none 2 0 3 (.v 4))) <|
    .st (.act none (.px (some 3) (.mv (.c (.bool false))))) .done) (.ret)
@[simp] def W11_3 := @C.wpe _ _ K11_3.eq_1
def K11_4 : C := .cond 4 (.v 6) K11_3 (.skip)
@[simp] def W11_4 := @C.wpe _ _ K11_4.eq_1
def K11_5 : Pl := .st (.act none (.px (some 6) (.un .not (.v 5)))) .done
@[simp] def W11_5 := @Pl.wpe _ _ K11_5.eq_1
def K11_6 : C := .seq (.seq (.pl <| .st (.ext 4 3) <|
    .st (.act none (.pget (some 4) none 1 0 (some 3))) <|
    .st (.act none (.ex (some 5) (.call fn_impl_AutomatonValid [.v 4]))) K11_5) K11_4) K11_2
@[simp] def W11_6 := @C.wpe _ _ K11_6.eq_1
def B_impl_TrimAutomaton : C := .seq (.pl <| .st (.ext 4 0) <|
    .st (.act none (.pnew 1 (.v 0) [])) <|
    .st (.act none (.pnew 2 (.c (.agg #[.slice none 0 0, .slice none 0 0, .slice none 0 0])) [])) <|
    .st (.act none (.px (some 3) (.mv (.c (.bool false))))) .done) K11_6
@[simp] def WB_impl_TrimAutomaton := @C.wpe _ _ B_impl_TrimAutomaton.eq_1
def R_impl_TrimAutomaton : FIR := ⟨B_impl_TrimAutomaton, 4, [(2, some (some 3)), (3, none)]⟩
theorem IR_impl_TrimAutomaton : cfun Try.prog H_impl_TrimAutomaton Try.f11 = some R_impl_TrimAutomaton := by kernel_rfl
theorem EN_impl_TrimAutomaton {args : List Value} {h : Heap} {k : Value → Heap → Prop} (hargs : args.length = 1) (hw : B_impl_TrimAutomaton.wp Try.prog (retQ [(2, some (some 3)), (3, none)] k) (env0 args 4) h) : CallE Try.prog fn_impl_TrimAutomaton args h k := enter Try.func11 rfl IR_impl_TrimAutomaton hargs hw

def H_impl_clone_bool : Hint := ⟨[(0, false), (2, false)], []⟩
def K102_1 : Pl := .st (.act none (.px (some 1) (.mv (.v 4)))) .done
@[simp] def W102_1 := @Pl.wpe _ _ K102_1.eq_1
def K102_2 : Pl := .st (.act none (.ex (some 4) (.call fn_slices_Clip_S_bool_bool [.v 3]))) K102_1
@[simp] def W102_2 := @Pl.wpe _ _ K102_2.eq_1
def K102_3 : C := .seq (.pl <| .st (.ext 2 3) <|
    .st (.act none (.px (some 2) (.mv (.v 0)))) <|
    .st (.act none (.ex (some 3) (.call fn_slices_Clone_S_bool_bool [.v 2]))) K102_2) (.ret)
@[simp] def W102_3 := @C.wpe _ _ K102_3.eq_1
def B_impl_clone_bool : C := .seq (.pl <| .st (.ext 2 0) <|
    .st (.act none (.px (some 1) (.mv (.c (.slice none 0 0))))) .done) K102_3
@[simp] def WB_impl_clone_bool := @C.wpe _ _ B_impl_clone_bool.eq_1
def R_impl_clone_bool : FIR := ⟨B_impl_clone_bool, 2, [(1, none)]⟩
theorem IR_impl_clone_bool : cfun Try.prog H_impl_clone_bool Try.f102 = some R_impl_clone_bool := by kernel_rfl
theorem EN_impl_clone_bool {args : List Value} {h : Heap} {k : Value → Heap → Prop} (hargs : args.length = 1) (hw : B_impl_clone_bool.wp Try.prog (retQ [(1, none)] k) (env0 args 2) h) : CallE Try.prog fn_impl_clone_bool args h k := enter Try.func102 rfl IR_impl_clone_bool hargs hw

def H_impl_clone_impl_Transition : Hint := ⟨[(0, false), (2, false)], []⟩
def K103_1 : Pl := .st (.act none (.px (some 1) (.mv (.v 4)))) .done
@[simp] def W103_1 := @Pl.wpe _ _ K103_1.eq_1
def K103_2 : Pl := .st (.act none (.ex (some 4) (.call fn_slices_Clip_S_impl_Transition_impl_Transition [.v 3]))) K103_1
@[simp] def W103_2 := @Pl.wpe _ _ K103_2.eq_1
def K103_3 : C := .seq (.pl <| .st (.ext 2 3) <|
    .st (.act none (.px (some 2) (.mv (.v 0)))) <|
    .st (.act none (.ex (some 3) (.call fn_slices_Clone_S_impl_Transition_impl_Transition [.v 2]))) K103_2) (.ret)
@[simp] def W103_3 := @C.wpe _ _ K103_3.eq_1
def B_impl_clone_impl_Transition : C := .seq (.pl <| .st (.ext 2 0) <|
    .st (.act none (.px (some 1) (.mv (.c (.slice none 0 0))))) .done) K103_3
@[simp] def WB_impl_clone_impl_Transition := @C.wpe _ _ B_impl_clone_impl_Transition.eq_1
def R_impl_clone_impl_Transition : FIR := ⟨B_impl_clone_impl_Transition, 2, [(1, none)]⟩
theorem IR_impl_clone_impl_Transition : cfun Try.prog H_impl_clone_impl_Transition Try.f103 = some R_impl_clone_impl_Transition := by kernel_rfl
theorem EN_impl_clone_impl_Transition {args : List Value} {h : Heap} {k : Value → Heap → Prop} (hargs : args.length = 1) (hw : B_impl_clone_impl_Transition.wp Try.prog (retQ [(1, none)] k) (env0 args 2) h) : CallE Try.prog fn_impl_clone_impl_Transition args h k := enter Try.func103 rfl IR_impl_clone_impl_Transition hargs hw

def H_impl_clone_int : Hint := ⟨[(0, false), (2, false)], []⟩
def K96_1 : Pl := .st (.act none (.px (some 1) (.mv (.v 4)))) .done
@[simp] def W96_1 := @Pl.wpe _ _ K96_1.eq_1
def K96_2 : Pl := .st (.act none (.ex (some 4) (.call fn_slices_Clip_S_int_int [.v 3]))) K96_1
@[simp] def W96_2 := @Pl.wpe _ _ K96_2.eq_1
def K96_3 : C := .seq (.pl <| .st (.ext 2 3) <|
    .st (.act none (.px (some 2) (.mv (.v 0)))) <|
    .st (.act none (.ex (some 3) (.call fn_slices_Clone_S_int_int [.v 2]))) K96_2) (.ret)
@[simp] def W96_3 := @C.wpe _ _ K96_3.eq_1
def B_impl_clone_int : C := .seq (.pl <| .st (.ext 2 0) <|
    .st (.act none (.px (some 1) (.mv (.c (.slice none 0 0))))) .done) K96_3
@[simp] def WB_impl_clone_int := @C.wpe _ _ B_impl_clone_int.eq_1
def R_impl_clone_int : FIR := ⟨B_impl_clone_int, 2, [(1, none)]⟩
theorem IR_impl_clone_int : cfun Try.prog H_impl_clone_int Try.f96 = some R_impl_clone_int := by kernel_rfl
theorem EN_impl_clone_int {args : List Value} {h : Heap} {k : Value → Heap → Prop} (hargs : args.length = 1) (hw : B_impl_clone_int.wp Try.prog (retQ [(1, none)] k) (env0 args 2) h) : CallE Try.prog fn_impl_clone_int args h k := enter Try.func96 rfl IR_impl_clone_int hargs hw

def H_impl_components : Hint := ⟨[(0, false), (1, false), (2, false), (3, false), (4, false), (5, false), (6, false), (7, false), (8, false), (9, false), (10, false), (11, false), (12, false), (13, false), (14, false), (15, false), (17, false), (27, false), (28, false), (36, false), (37, false), (50, false), (51, false), (52, false)], [[0, 2, 7, 8, 9, 10, 11, 12, 13, 14, 15, 16, 19, 20, 21, 22, 23], [0, 1, 2, 3, 5, 7, 8, 9, 10, 12, 13, 14, 15, 16, 17, 18, 21, 22, 23], [0, 1, 2, 3, 4, 5, 7, 8, 9, 10, 11, 12, 14, 15, 16, 17, 18, 19, 20]]⟩
def K122_1 : C := .seq (.pl <| .st (.ext 24 1) <|
    .st (.act none (.ld (some 24) (.v 6) none)) <|
    .st (.act none (.px (some 2) (.mv (.v 24)))) .done) (.ret)
@[simp] def W122_1 := @C.wpe _ _ K122_1.eq_1
def K122_2 : C := .pl <| .st (.ext 24 1) <|
    .st (.act none (.px (some 24) (.bin .add (.v 23) (.c (.int .i64 1))))) <|
    .st (.act none (.px (some 23) (.mv (.v 24)))) .done
@[simp] def W122_2 := @C.wpe _ _ K122_2.eq_1
def K122_3 : Pl := .st (.act none (.px (some 29) (.ia 1 (.v 24) (.v 25)))) <|
    .st (.act none (.ex none (.store 1 (.v 29) (.v 28)))) .done
@[simp] def W122_3 := @Pl.wpe _ _ K122_3.eq_1
def K122_4 : C := .pl <| .st (.ext 24 6) <|
    .st (.act none (.ld (some 24) (.v 6) none)) <|
    .st (.act none (.px (some 25) (.mv (.v 14)))) <|
    .st (.act none (.px (some 26) (.mv (.v 13)))) <|
    .st (.act none (.px (some 27) (.mv (.v 15)))) <|
    .st (.act none (.ex (some 28) (.mget (.one .i) (.int .i64 0) false (.v 26) (.v 27)))) K122_3
@[simp] def W122_4 := @C.wpe _ _ K122_4.eq_1
def K122_5 : Pl := .st (.act none (.ex none (.mput (.one .i) (.v 24) (.v 25) (.v 27)))) .done
@[simp] def W122_5 := @Pl.wpe _ _ K122_5.eq_1
def K122_6 : C := .pl <| .st (.ext 24 4) <|
    .st (.act none (.px (some 24) (.mv (.v 13)))) <|
    .st (.act none (.px (some 25) (.mv (.v 15)))) <|
    .st (.act none (.px (some 26) (.mv (.v 13)))) <|
    .st (.act none (.ex (some 27) (.mlen (.v 26)))) K122_5
@[simp] def W122_6 := @C.wpe _ _ K122_6.eq_1
def K122_7 : C := .cond 24 (.v 25) K122_6 (.skip)
@[simp] def W122_7 := @C.wpe _ _ K122_7.eq_1
def K122_8 : C := .seq (.pl <| .st (.ext 24 2) <|
    .st (.act none (.px (some 24) (.mv (.v 16)))) <|
    .st (.act none (.px (some 25) (.un .not (.v 24)))) .done) K122_7
@[simp] def W122_8 := @C.wpe _ _ K122_8.eq_1
def K122_9 : Pl := .st (.act none (.px (some 27) (.mv (.v 26)))) <|
    .st (.act none (.px (some 28) (.extract 0 (.v 27)))) <|
    .st (.act none (.px (some 29) (.extract 1 (.v 27)))) <|
    .st (.act none (.px (some 30) (.mv (.v 28)))) <|
    .st (.act none (.px (some 16) (.mv (.v 29)))) .done
@[simp] def W122_9 := @Pl.wpe _ _ K122_9.eq_1
def K122_10 : C := .seq (.seq (.pl <| .st (.ext 24 7) <|
    .st (.act none (.px (some 24) (.mv (.v 13)))) <|
    .st (.act none (.px (some 25) (.mv (.v 15)))) <|
    .st (.act none (.ex (some 26) (.mget (.one .i) (.int .i64 0) true (.v 24) (.v 25)))) K122_9) K122_8) K122_4
@[simp] def W122_10 := @C.wpe _ _ K122_10.eq_1
def K122_11 : C := .seq (.block 5 (.seq (.pl <| .st (.ext 24 3) <|
    .st (.act none (.px (some 24) (.mv (.v 23)))) <|
    .st (.act none (.px (some 25) (.ia 1 (.v 21) (.v 23)))) <|
    .st (.act none (.ld (some 26) (.v 25) none)) <|
    .st (.act none (.px (some 14) (.mv (.v 24)))) <|
    .st (.act none (.px (some 15) (.mv (.v 26)))) .done) K122_10)) K122_2
@[simp] def W122_11 := @C.wpe _ _ K122_11.eq_1
def K122_12 : C := .seq (.cond 24 (.v 24) (.skip) (.exit 4)) K122_11
@[simp] def W122_12 := @C.wpe _ _ K122_12.eq_1
def K122_13 : C := .seq (.pl <| .st (.ext 24 1) <|
    .st (.act none (.px (some 24) (.bin .lss (.v 23) (.v 22)))) .done) K122_12
@[simp] def W122_13 := @C.wpe _ _ K122_13.eq_1
def K122_14 : C := .block 4 (.loop 24 [0, 1, 2, 3, 4, 5, 7, 8, 9, 10, 11, 12, 14, 15, 16, 17, 18, 19, 20] K122_13)
@[simp] def W122_14 := @C.wpe _ _ K122_14.eq_1
def K122_15 : C := .seq (.seq (.pl <| .st (.ext 24 0) <|
    .st (.act none (.ld (some 21) (.v 6) none)) <|
    .st (.act none (.px (some 22) (.lenV (.v 21)))) <|
    .st (.act none (.px (some 23) (.mv (.c (.int .i64 0))))) .done) K122_14) K122_1
@[simp] def W122_15 := @C.wpe _ _ K122_15.eq_1
def K122_16 : Pl := .st (.act none (.px (some 13) (.mv (.v 24)))) .done
@[simp] def W122_16 := @Pl.wpe _ _ K122_16.eq_1
def K122_17 : C := .seq (.pl <| .st (.ext 24 1) <|
    .st (.act none (.ex (some 24) (.mkm))) K122_16) K122_15
@[simp] def W122_17 := @C.wpe _ _ K122_17.eq_1
def K122_18 : C := .pl <| .st (.ext 24 1) <|
    .st (.act none (.px (some 24) (.bin .add (.v 20) (.c (.int .i64 1))))) <|
    .st (.act none (.px (some 20) (.mv (.v 24)))) .done
@[simp] def W122_18 := @C.wpe _ _ K122_18.eq_1
def K122_19 : C := .pl <| .st (.ext 24 3) <|
    .st (.act none (.ld (some 24) (.v 11) none)) <|
    .st (.act none (.px (some 25) (.mv (.v 12)))) <|
    .st (.act none (.ex (some 26) (.callv (.v 24) [.v 25]))) .done
@[simp] def W122_19 := @C.wpe _ _ K122_19.eq_1
def K122_20 : C := .cond 24 (.v 28) K122_19 (.skip)
@[simp] def W122_20 := @C.wpe _ _ K122_20.eq_1
def K122_21 : C := .seq (.pl <| .st (.ext 24 5) <|
    .st (.act none (.ld (some 24) (.v 4) none)) <|
    .st (.act none (.px (some 25) (.mv (.v 12)))) <|
    .st (.act none (.px (some 26) (.ia 1 (.v 24) (.v 25)))) <|
    .st (.act none (.ld (some 27) (.v 26) none)) <|
    .st (.act none (.px (some 28) (.bin .eql (.v 27) (.c (.int .i64 0))))) .done) K122_20
@[simp] def W122_21 := @C.wpe _ _ K122_21.eq_1
def K122_22 : C := .seq (.block 3 (.seq (.pl <| .st (.ext 24 1) <|
    .st (.act none (.px (some 24) (.mv (.v 20)))) <|
    .st (.act none (.px (some 12) (.mv (.v 24)))) .done) K122_21)) K122_18
@[simp] def W122_22 := @C.wpe _ _ K122_22.eq_1
def K122_23 : C := .seq (.cond 24 (.v 24) (.skip) (.exit 2)) K122_22
@[simp] def W122_23 := @C.wpe _ _ K122_23.eq_1
def K122_24 : C := .seq (.pl <| .st (.ext 24 1) <|
    .st (.act none (.px (some 24) (.bin .lss (.v 20) (.v 19)))) .done) K122_23
@[simp] def W122_24 := @C.wpe _ _ K122_24.eq_1
def K122_25 : C := .block 2 (.loop 24 [0, 1, 2, 3, 5, 7, 8, 9, 10, 12, 13, 14, 15, 16, 17, 18, 21, 22, 23] K122_24)
@[simp] def W122_25 := @C.wpe _ _ K122_25.eq_1
def K122_26 : C := .seq (.seq (.pl <| .st (.ext 24 0) <|
    .st (.act none (.px (some 19) (.mv (.v 3)))) <|
    .st (.act none (.px (some 20) (.mv (.c (.int .i64 0))))) .done) K122_25) K122_17
@[simp] def W122_26 := @C.wpe _ _ K122_26.eq_1
def K122_27 : C := .seq (.pl <| .st (.ext 24 1) <|
    .st (.act none (.px (some 24) (.mkf (.func fn_impl_components_1) [] [.v 9, .v 4, .v 5, .v 8, .v 1, .v 11, .v 6, .v 10]))) <|
    .st (.act none (.ex none (.store 1 (.v 11) (.v 24)))) .done) K122_26
@[simp] def W122_27 := @C.wpe _ _ K122_27.eq_1
def K122_28 : C := .seq (.pl <| .st (.ext 24 0) <|
    .st (.act none (.ex (some 11) (.alloc (.c (.nilFunc))))) .done) K122_27
@[simp] def W122_28 := @C.wpe _ _ K122_28.eq_1
def K122_29 : Pl := .st (.act none (.ex none (.store 1 (.v 10) (.c (.int .i64 0))))) .done
@[simp] def W122_29 := @Pl.wpe _ _ K122_29.eq_1
def K122_30 : Pl := .st (.act none (.ex none (.store 1 (.v 9) (.c (.int .i64 0))))) K122_29
@[simp] def W122_30 := @Pl.wpe _ _ K122_30.eq_1
def K122_31 : Pl := .st (.act none (.ex (some 10) (.alloc (.c (.int .i64 0))))) K122_30
@[simp] def W122_31 := @Pl.wpe _ _ K122_31.eq_1
def K122_32 : C := .seq (.pl <| .st (.ext 24 0) <|
    .st (.act none (.ex (some 9) (.alloc (.c (.int .i64 0))))) K122_31) K122_28
@[simp] def W122_32 := @C.wpe _ _ K122_32.eq_1
def K122_33 : C := .seq (.pl <| .st (.ext 24 0) <|
    .st (.act none (.ex (some 8) (.alloc (.c (.slice none 0 0))))) .done) K122_32
@[simp] def W122_33 := @C.wpe _ _ K122_33.eq_1
def K122_34 : C := .pl <| .st (.ext 24 1) <|
    .st (.act none (.px (some 24) (.bin .add (.v 18) (.c (.int .i64 1))))) <|
    .st (.act none (.px (some 18) (.mv (.v 24)))) .done
@[simp] def W122_34 := @C.wpe _ _ K122_34.eq_1
def K122_35 : C := .pl <| .st (.ext 24 3) <|
    .st (.act none (.ld (some 24) (.v 6) none)) <|
    .st (.act none (.px (some 25) (.mv (.v 7)))) <|
    .st (.act none (.px (some 26) (.ia 1 (.v 24) (.v 25)))) <|
    .st (.act none (.ex none (.store 1 (.v 26) (.c (.int .i64 (-1)))))) .done
@[simp] def W122_35 := @C.wpe _ _ K122_35.eq_1
def K122_36 : C := .seq (.block 1 (.seq (.pl <| .st (.ext 24 1) <|
    .st (.act none (.px (some 24) (.mv (.v 18)))) <|
    .st (.act none (.px (some 7) (.mv (.v 24)))) .done) K122_35)) K122_34
@[simp] def W122_36 := @C.wpe _ _ K122_36.eq_1
def K122_37 : C := .seq (.cond 24 (.v 24) (.skip) (.exit 0)) K122_36
@[simp] def W122_37 := @C.wpe _ _ K122_37.eq_1
def K122_38 : C := .seq (.pl <| .st (.ext 24 1) <|
    .st (.act none (.px (some 24) (.bin .lss (.v 18) (.v 17)))) .done) K122_37
@[simp] def W122_38 := @C.wpe _ _ K122_38.eq_1
def K122_39 : C := .block 0 (.loop 24 [0, 2, 7, 8, 9, 10, 11, 12, 13, 14, 15, 16, 19, 20, 21, 22, 23] K122_38)
@[simp] def W122_39 := @C.wpe _ _ K122_39.eq_1
def K122_40 : C := .seq (.seq (.pl <| .st (.ext 24 1) <|
    .st (.act none (.ld (some 24) (.v 6) none)) <|
    .st (.act none (.px (some 17) (.lenV (.v 24)))) <|
    .st (.act none (.px (some 18) (.mv (.c (.int .i64 0))))) .done) K122_39) K122_33
@[simp] def W122_40 := @C.wpe _ _ K122_40.eq_1
def K122_41 : Pl := .st (.act none (.ex none (.store 1 (.v 6) (.v 29)))) .done
@[simp] def W122_41 := @Pl.wpe _ _ K122_41.eq_1
def K122_42 : Pl := .st (.act none (.ex none (.store 1 (.v 5) (.v 27)))) K122_41
@[simp] def W122_42 := @Pl.wpe _ _ K122_42.eq_1
def K122_43 : Pl := .st (.act none (.ex none (.store 1 (.v 4) (.v 25)))) K122_42
@[simp] def W122_43 := @Pl.wpe _ _ K122_43.eq_1
def K122_44 : Pl := .st (.act none (.ex (some 6) (.alloc (.c (.slice none 0 0))))) K122_43
@[simp] def W122_44 := @Pl.wpe _ _ K122_44.eq_1
def K122_45 : Pl := .st (.act none (.ex (some 5) (.alloc (.c (.slice none 0 0))))) K122_44
@[simp] def W122_45 := @Pl.wpe _ _ K122_45.eq_1
def K122_46 : Pl := .st (.act none (.ex (some 4) (.alloc (.c (.slice none 0 0))))) K122_45
@[simp] def W122_46 := @Pl.wpe _ _ K122_46.eq_1
def K122_47 : Pl := .st (.act none (.px (some 28) (.mv (.v 3)))) <|
    .st (.act none (.ex (some 29) (.mks 8 1 [.int .i64 0] (.v 28) (.v 28)))) K122_46
@[simp] def W122_47 := @Pl.wpe _ _ K122_47.eq_1
def K122_48 : Pl := .st (.act none (.px (some 26) (.mv (.v 3)))) <|
    .st (.act none (.ex (some 27) (.mks 8 1 [.int .i64 0] (.v 26) (.v 26)))) K122_47
@[simp] def W122_48 := @Pl.wpe _ _ K122_48.eq_1
def K122_49 : C := .seq (.pl <| .st (.ext 24 6) <|
    .st (.act none (.px (some 24) (.mv (.v 3)))) <|
    .st (.act none (.ex (some 25) (.mks 8 1 [.int .i64 0] (.v 24) (.v 24)))) K122_48) K122_40
@[simp] def W122_49 := @C.wpe _ _ K122_49.eq_1
def K122_50 : C := .seq (.pl <| .st (.ext 24 2) <|
    .st (.act none (.ld (some 24) (.v 1) none)) <|
    .st (.act none (.px (some 25) (.lenV (.v 24)))) <|
    .st (.act none (.px (some 3) (.mv (.v 25)))) .done) K122_49
@[simp] def W122_50 := @C.wpe _ _ K122_50.eq_1
def K122_51 : Pl := .st (.act none (.px (some 2) (.mv (.c (.slice none 0 0))))) .done
@[simp] def W122_51 := @Pl.wpe _ _ K122_51.eq_1
def B_impl_components : C := .seq (.pl <| .st (.ext 24 0) <|
    .st (.act none (.ex (some 1) (.alloc (.v 0)))) K122_51) K122_50
@[simp] def WB_impl_components := @C.wpe _ _ B_impl_components.eq_1
def R_impl_components : FIR := ⟨B_impl_components, 24, [(2, none)]⟩
theorem IR_impl_components : cfun Try.prog H_impl_components Try.f122 = some R_impl_components := by kernel_rfl
theorem EN_impl_components {args : List Value} {h : Heap} {k : Value → Heap → Prop} (hargs : args.length = 1) (hw : B_impl_components.wp Try.prog (retQ [(2, none)] k) (env0 args 24) h) : CallE Try.prog fn_impl_components args h k := enter Try.func122 rfl IR_impl_components hargs hw

def H_impl_components_1 : Hint := ⟨[(0, false), (1, false), (2, false), (3, false), (4, false), (5, false), (6, false), (7, false), (8, false), (11, false), (12, false), (30, false), (31, false), (32, false)], [[1, 5, 9, 10], [1, 2, 3, 5, 6, 9, 11, 12, 13]]⟩
def K143_1 : C := .pl <| .st (.ext 14 2) <|
    .st (.act none (.ld (some 14) (.v 8) none)) <|
    .st (.act none (.px (some 15) (.bin .add (.v 14) (.c (.int .i64 1))))) <|
    .st (.act none (.ex none (.store 1 (.v 8) (.v 15)))) .done
@[simp] def W143_1 := @C.wpe _ _ K143_1.eq_1
def K143_2 : C := .pl <| .st (.ext 14 4) <|
    .st (.act none (.ld (some 14) (.v 7) none)) <|
    .st (.act none (.px (some 15) (.mv (.v 10)))) <|
    .st (.act none (.ld (some 16) (.v 8) none)) <|
    .st (.act none (.px (some 17) (.ia 1 (.v 14) (.v 15)))) <|
    .st (.act none (.ex none (.store 1 (.v 17) (.v 16)))) .done
@[simp] def W143_2 := @C.wpe _ _ K143_2.eq_1
def K143_3 : C := .seq (.pl <| .st (.ext 14 5) <|
    .st (.act none (.ld (some 14) (.v 4) none)) <|
    .st (.act none (.ld (some 15) (.v 4) none)) <|
    .st (.act none (.px (some 16) (.lenV (.v 15)))) <|
    .st (.act none (.px (some 17) (.bin .sub (.v 16) (.c (.int .i64 1))))) <|
    .st (.act none (.px (some 18) (.sliceV 1 (.v 14) none (some (.v 17)) none))) <|
    .st (.act none (.ex none (.store 1 (.v 4) (.v 18)))) .done) K143_2
@[simp] def W143_3 := @C.wpe _ _ K143_3.eq_1
def K143_4 : C := .block 4 (.seq (.pl <| .st (.ext 14 6) <|
    .st (.act none (.ld (some 14) (.v 4) none)) <|
    .st (.act none (.ld (some 15) (.v 4) none)) <|
    .st (.act none (.px (some 16) (.lenV (.v 15)))) <|
    .st (.act none (.px (some 17) (.bin .sub (.v 16) (.c (.int .i64 1))))) <|
    .st (.act none (.px (some 18) (.ia 1 (.v 14) (.v 17)))) <|
    .st (.act none (.ld (some 19) (.v 18) none)) <|
    .st (.act none (.px (some 10) (.mv (.v 19)))) .done) K143_3)
@[simp] def W143_4 := @C.wpe _ _ K143_4.eq_1
def K143_5 : C := .cond 14 (.v 16) (.skip) (.exit 3)
@[simp] def W143_5 := @C.wpe _ _ K143_5.eq_1
def K143_6 : C := .seq (.seq (.pl <| .st (.ext 14 3) <|
    .st (.act none (.px (some 14) (.mv (.v 10)))) <|
    .st (.act none (.px (some 15) (.mv (.v 0)))) <|
    .st (.act none (.px (some 16) (.bin .neq (.v 14) (.v 15)))) .done) K143_5) K143_4
@[simp] def W143_6 := @C.wpe _ _ K143_6.eq_1
def K143_7 : C := .block 3 (.loop 14 [1, 2, 3, 5, 6, 9, 11, 12, 13] K143_6)
@[simp] def W143_7 := @C.wpe _ _ K143_7.eq_1
def K143_8 : C := .seq (.seq (.pl <| .st (.ext 14 0) <|
    .st (.act none (.px (some 10) (.mv (.c (.int .i64 (-1)))))) .done) K143_7) K143_1
@[simp] def W143_8 := @C.wpe _ _ K143_8.eq_1
def K143_9 : C := .cond 14 (.v 22) K143_8 (.skip)
@[simp] def W143_9 := @C.wpe _ _ K143_9.eq_1
def K143_10 : C := .seq (.pl <| .st (.ext 14 9) <|
    .st (.act none (.ld (some 14) (.v 3) none)) <|
    .st (.act none (.px (some 15) (.mv (.v 0)))) <|
    .st (.act none (.px (some 16) (.ia 1 (.v 14) (.v 15)))) <|
    .st (.act none (.ld (some 17) (.v 16) none)) <|
    .st (.act none (.ld (some 18) (.v 2) none)) <|
    .st (.act none (.px (some 19) (.mv (.v 0)))) <|
    .st (.act none (.px (some 20) (.ia 1 (.v 18) (.v 19)))) <|
    .st (.act none (.ld (some 21) (.v 20) none)) <|
    .st (.act none (.px (some 22) (.bin .eql (.v 17) (.v 21)))) .done) K143_9
@[simp] def W143_10 := @C.wpe _ _ K143_10.eq_1
def K143_11 : C := .pl <| .st (.ext 14 1) <|
    .st (.act none (.px (some 14) (.bin .add (.v 13) (.c (.int .i64 1))))) <|
    .st (.act none (.px (some 13) (.mv (.v 14)))) .done
@[simp] def W143_11 := @C.wpe _ _ K143_11.eq_1
def K143_12 : C := .pl <| .st (.ext 14 12) <|
    .st (.act none (.ld (some 14) (.v 3) none)) <|
    .st (.act none (.px (some 15) (.mv (.v 0)))) <|
    .st (.act none (.ld (some 16) (.v 3) none)) <|
    .st (.act none (.px (some 17) (.mv (.v 0)))) <|
    .st (.act none (.px (some 18) (.ia 1 (.v 16) (.v 17)))) <|
    .st (.act none (.ld (some 19) (.v 18) none)) <|
    .st (.act none (.ld (some 20) (.v 3) none)) <|
    .st (.act none (.px (some 21) (.mv (.v 9)))) <|
    .st (.act none (.px (some 22) (.ia 1 (.v 20) (.v 21)))) <|
    .st (.act none (.ld (some 23) (.v 22) none)) <|
    .st (.act none (.px (some 24) (.minI (.v 19) (.v 23)))) <|
    .st (.act none (.px (some 25) (.ia 1 (.v 14) (.v 15)))) <|
    .st (.act none (.ex none (.store 1 (.v 25) (.v 24)))) .done
@[simp] def W143_12 := @C.wpe _ _ K143_12.eq_1
def K143_13 : C := .seq (.pl <| .st (.ext 14 3) <|
    .st (.act none (.ld (some 14) (.v 6) none)) <|
    .st (.act none (.px (some 15) (.mv (.v 9)))) <|
    .st (.act none (.ex (some 16) (.callv (.v 14) [.v 15]))) .done) K143_12
@[simp] def W143_13 := @C.wpe _ _ K143_13.eq_1
def K143_14 : C := .pl <| .st (.ext 14 12) <|
    .st (.act none (.ld (some 14) (.v 3) none)) <|
    .st (.act none (.px (some 15) (.mv (.v 0)))) <|
    .st (.act none (.ld (some 16) (.v 3) none)) <|
    .st (.act none (.px (some 17) (.mv (.v 0)))) <|
    .st (.act none (.px (some 18) (.ia 1 (.v 16) (.v 17)))) <|
    .st (.act none (.ld (some 19) (.v 18) none)) <|
    .st (.act none (.ld (some 20) (.v 2) none)) <|
    .st (.act none (.px (some 21) (.mv (.v 9)))) <|
    .st (.act none (.px (some 22) (.ia 1 (.v 20) (.v 21)))) <|
    .st (.act none (.ld (some 23) (.v 22) none)) <|
    .st (.act none (.px (some 24) (.minI (.v 19) (.v 23)))) <|
    .st (.act none (.px (some 25) (.ia 1 (.v 14) (.v 15)))) <|
    .st (.act none (.ex none (.store 1 (.v 25) (.v 24)))) .done
@[simp] def W143_14 := @C.wpe _ _ K143_14.eq_1
def K143_15 : C := .cond 14 (.v 19) K143_14 (.skip)
@[simp] def W143_15 := @C.wpe _ _ K143_15.eq_1
def K143_16 : C := .seq (.pl <| .st (.ext 14 6) <|
    .st (.act none (.ld (some 14) (.v 7) none)) <|
    .st (.act none (.px (some 15) (.mv (.v 9)))) <|
    .st (.act none (.px (some 16) (.ia 1 (.v 14) (.v 15)))) <|
    .st (.act none (.ld (some 17) (.v 16) none)) <|
    .st (.act none (.px (some 18) (.bin .lss (.v 17) (.c (.int .i64 0))))) <|
    .st (.act none (.px (some 19) (.mv (.v 18)))) .done) K143_15
@[simp] def W143_16 := @C.wpe _ _ K143_16.eq_1
def K143_17 : C := .cond 14 (.v 19) K143_13 K143_16
@[simp] def W143_17 := @C.wpe _ _ K143_17.eq_1
def K143_18 : C := .block 2 (.seq (.pl <| .st (.ext 14 6) <|
    .st (.act none (.ld (some 14) (.v 2) none)) <|
    .st (.act none (.px (some 15) (.mv (.v 9)))) <|
    .st (.act none (.px (some 16) (.ia 1 (.v 14) (.v 15)))) <|
    .st (.act none (.ld (some 17) (.v 16) none)) <|
    .st (.act none (.px (some 18) (.bin .eql (.v 17) (.c (.int .i64 0))))) <|
    .st (.act none (.px (some 19) (.mv (.v 18)))) .done) K143_17)
@[simp] def W143_18 := @C.wpe _ _ K143_18.eq_1
def K143_19 : C := .seq (.block 1 (.seq (.pl <| .st (.ext 14 2) <|
    .st (.act none (.px (some 14) (.ia 1 (.v 11) (.v 13)))) <|
    .st (.act none (.ld (some 15) (.v 14) none)) <|
    .st (.act none (.px (some 9) (.mv (.v 15)))) .done) K143_18)) K143_11
@[simp] def W143_19 := @C.wpe _ _ K143_19.eq_1
def K143_20 : C := .seq (.cond 14 (.v 14) (.skip) (.exit 0)) K143_19
@[simp] def W143_20 := @C.wpe _ _ K143_20.eq_1
def K143_21 : C := .seq (.pl <| .st (.ext 14 1) <|
    .st (.act none (.px (some 14) (.bin .lss (.v 13) (.v 12)))) .done) K143_20
@[simp] def W143_21 := @C.wpe _ _ K143_21.eq_1
def K143_22 : C := .block 0 (.loop 14 [1, 5, 9, 10] K143_21)
@[simp] def W143_22 := @C.wpe _ _ K143_22.eq_1
def K143_23 : C := .seq (.seq (.pl <| .st (.ext 14 3) <|
    .st (.act none (.ld (some 14) (.v 5) none)) <|
    .st (.act none (.px (some 15) (.mv (.v 0)))) <|
    .st (.act none (.px (some 16) (.ia 1 (.v 14) (.v 15)))) <|
    .st (.act none (.ld (some 11) (.v 16) none)) <|
    .st (.act none (.px (some 12) (.lenV (.v 11)))) <|
    .st (.act none (.px (some 13) (.mv (.c (.int .i64 0))))) .done) K143_22) K143_10
@[simp] def W143_23 := @C.wpe _ _ K143_23.eq_1
def K143_24 : Pl := .st (.act none (.ex none (.store 1 (.v 4) (.v 17)))) .done
@[simp] def W143_24 := @Pl.wpe _ _ K143_24.eq_1
def K143_25 : C := .seq (.pl <| .st (.ext 14 4) <|
    .st (.act none (.ld (some 14) (.v 4) none)) <|
    .st (.act none (.px (some 15) (.mv (.v 0)))) <|
    .st (.act none (.psl 16 [.int .i64 0] [(0, 1, .v 15)])) <|
    .st (.act none (.ex (some 17) (.app 8 1 [.int .i64 0] (.o (.v 14)) (.p 1 16)))) K143_24) K143_23
@[simp] def W143_25 := @C.wpe _ _ K143_25.eq_1
def K143_26 : Pl := .st (.re 16 (.v 3) none none) <|
    .st (.re 19 (.v 1) none none) <|
    .st (.act none (.px (some 21) (.ia 1 (.v 16) (.v 17)))) <|
    .st (.act none (.ex none (.store 1 (.v 21) (.v 19)))) .done
@[simp] def W143_26 := @Pl.wpe _ _ K143_26.eq_1
def K143_27 : C := .seq (.pl <| .st (.ext 14 8) <|
    .st (.act none (.ld (some 14) (.v 2) none)) <|
    .st (.act none (.px (some 15) (.mv (.v 0)))) <|
    .st (.act none (.ld (some 16) (.v 3) none)) <|
    .st (.act none (.px (some 17) (.mv (.v 0)))) <|
    .st (.act none (.ld (some 18) (.v 1) none)) <|
    .st (.act none (.ld (some 19) (.v 1) none)) <|
    .st (.act none (.px (some 20) (.ia 1 (.v 14) (.v 15)))) <|
    .st (.act none (.ex none (.store 1 (.v 20) (.v 18)))) K143_26) K143_25
@[simp] def W143_27 := @C.wpe _ _ K143_27.eq_1
def B_impl_components_1 : C := .seq (.pl <| .st (.ext 14 2) <|
    .st (.act none (.ld (some 14) (.v 1) none)) <|
    .st (.act none (.px (some 15) (.bin .add (.v 14) (.c (.int .i64 1))))) <|
    .st (.act none (.ex none (.store 1 (.v 1) (.v 15)))) .done) K143_27
@[simp] def WB_impl_components_1 := @C.wpe _ _ B_impl_components_1.eq_1
def R_impl_components_1 : FIR := ⟨B_impl_components_1, 14, []⟩
theorem IR_impl_components_1 : cfun Try.prog H_impl_components_1 Try.f143 = some R_impl_components_1 := by kernel_rfl
theorem EN_impl_components_1 {args : List Value} {h : Heap} {k : Value → Heap → Prop} (hargs : args.length = 9) (hw : B_impl_components_1.wp Try.prog (retQ [] k) (env0 args 14) h) : CallE Try.prog fn_impl_components_1 args h k := enter Try.func143 rfl IR_impl_components_1 hargs hw

def H_impl_cyclic : Hint := ⟨[(0, false), (2, false), (3, false), (4, false), (6, false), (7, false), (8, false), (14, false), (15, false), (16, false), (31, false), (32, false)], [[1, 4, 5, 6, 10, 11], [1, 4, 6, 7, 8, 9]]⟩
def K101_1 : C := .seq (.pl <| .st (.ext 12 1) <|
    .st (.act none (.px (some 12) (.mv (.v 5)))) <|
    .st (.act none (.px (some 1) (.mv (.v 12)))) .done) (.ret)
@[simp] def W101_1 := @C.wpe _ _ K101_1.eq_1
def K101_2 : C := .pl <| .st (.ext 12 1) <|
    .st (.act none (.px (some 12) (.bin .add (.v 11) (.c (.int .i64 1))))) <|
    .st (.act none (.px (some 11) (.mv (.v 12)))) .done
@[simp] def W101_2 := @C.wpe _ _ K101_2.eq_1
def K101_3 : Pl := .st (.act none (.px (some 29) (.pick (.v 22) (.c (.bool true)) (.v 28)))) <|
    .st (.act none (.px (some 30) (.ia 1 (.v 12) (.v 13)))) <|
    .st (.act none (.ex none (.store 1 (.v 30) (.v 29)))) .done
@[simp] def W101_3 := @Pl.wpe _ _ K101_3.eq_1
def K101_4 : C := .pl <| .st (.ext 12 19) <|
    .st (.act none (.px (some 12) (.mv (.v 5)))) <|
    .st (.act none (.px (some 13) (.mv (.v 6)))) <|
    .st (.act none (.px (some 14) (.mv (.v 3)))) <|
    .st (.act none (.px (some 15) (.mv (.v 2)))) <|
    .st (.act none (.px (some 16) (.mv (.v 6)))) <|
    .st (.act none (.px (some 17) (.ia 1 (.v 15) (.v 16)))) <|
    .st (.act none (.ld (some 18) (.v 17) none)) <|
    .st (.act none (.px (some 19) (.ia 1 (.v 14) (.v 18)))) <|
    .st (.act none (.ld (some 20) (.v 19) none)) <|
    .st (.act none (.px (some 21) (.bin .gtr (.v 20) (.c (.int .i64 1))))) <|
    .st (.act none (.px (some 22) (.mv (.v 21)))) <|
    .st (.act (some (.v 22, false)) (.px (some 23) (.mv (.v 0)))) <|
    .st (.act (some (.v 22, false)) (.px (some 24) (.mv (.v 6)))) <|
    .st (.act (some (.v 22, false)) (.px (some 25) (.ia 1 (.v 23) (.v 24)))) <|
    .st (.act (some (.v 22, false)) (.ld (some 26) (.v 25) none)) <|
    .st (.act (some (.v 22, false)) (.px (some 27) (.mv (.v 6)))) <|
    .st (.act (some (.v 22, false)) (.ex (some 28) (.call fn_slices_Contains_S_int_int [.v 26, .v 27]))) K101_3
@[simp] def W101_4 := @C.wpe _ _ K101_4.eq_1
def K101_5 : C := .seq (.block 3 (.seq (.pl <| .st (.ext 12 1) <|
    .st (.act none (.px (some 12) (.mv (.v 11)))) <|
    .st (.act none (.px (some 6) (.mv (.v 12)))) .done) K101_4)) K101_2
@[simp] def W101_5 := @C.wpe _ _ K101_5.eq_1
def K101_6 : C := .seq (.cond 12 (.v 12) (.skip) (.exit 2)) K101_5
@[simp] def W101_6 := @C.wpe _ _ K101_6.eq_1
def K101_7 : C := .seq (.pl <| .st (.ext 12 1) <|
    .st (.act none (.px (some 12) (.bin .lss (.v 11) (.v 10)))) .done) K101_6
@[simp] def W101_7 := @C.wpe _ _ K101_7.eq_1
def K101_8 : C := .block 2 (.loop 12 [1, 4, 6, 7, 8, 9] K101_7)
@[simp] def W101_8 := @C.wpe _ _ K101_8.eq_1
def K101_9 : C := .seq (.seq (.pl <| .st (.ext 12 1) <|
    .st (.act none (.px (some 12) (.mv (.v 0)))) <|
    .st (.act none (.px (some 10) (.lenV (.v 12)))) <|
    .st (.act none (.px (some 11) (.mv (.c (.int .i64 0))))) .done) K101_8) K101_1
@[simp] def W101_9 := @C.wpe _ _ K101_9.eq_1
def K101_10 : Pl := .st (.act none (.px (some 5) (.mv (.v 14)))) .done
@[simp] def W101_10 := @Pl.wpe _ _ K101_10.eq_1
def K101_11 : C := .seq (.pl <| .st (.ext 12 3) <|
    .st (.act none (.px (some 12) (.mv (.v 0)))) <|
    .st (.act none (.px (some 13) (.lenV (.v 12)))) <|
    .st (.act none (.ex (some 14) (.mks 1 1 [.bool false] (.v 13) (.v 13)))) K101_10) K101_9
@[simp] def W101_11 := @C.wpe _ _ K101_11.eq_1
def K101_12 : C := .pl <| .st (.ext 12 1) <|
    .st (.act none (.px (some 12) (.bin .add (.v 9) (.c (.int .i64 1))))) <|
    .st (.act none (.px (some 9) (.mv (.v 12)))) .done
@[simp] def W101_12 := @C.wpe _ _ K101_12.eq_1
def K101_13 : C := .pl <| .st (.ext 12 6) <|
    .st (.act none (.px (some 12) (.mv (.v 3)))) <|
    .st (.act none (.px (some 13) (.mv (.v 4)))) <|
    .st (.act none (.px (some 14) (.ia 1 (.v 12) (.v 13)))) <|
    .st (.act none (.ld (some 15) (.v 14) none)) <|
    .st (.act none (.px (some 16) (.bin .add (.v 15) (.c (.int .i64 1))))) <|
    .st (.act none (.px (some 17) (.ia 1 (.v 12) (.v 13)))) <|
    .st (.act none (.ex none (.store 1 (.v 17) (.v 16)))) .done
@[simp] def W101_13 := @C.wpe _ _ K101_13.eq_1
def K101_14 : C := .seq (.block 1 (.seq (.pl <| .st (.ext 12 2) <|
    .st (.act none (.px (some 12) (.ia 1 (.v 7) (.v 9)))) <|
    .st (.act none (.ld (some 13) (.v 12) none)) <|
    .st (.act none (.px (some 4) (.mv (.v 13)))) .done) K101_13)) K101_12
@[simp] def W101_14 := @C.wpe _ _ K101_14.eq_1
def K101_15 : C := .seq (.cond 12 (.v 12) (.skip) (.exit 0)) K101_14
@[simp] def W101_15 := @C.wpe _ _ K101_15.eq_1
def K101_16 : C := .seq (.pl <| .st (.ext 12 1) <|
    .st (.act none (.px (some 12) (.bin .lss (.v 9) (.v 8)))) .done) K101_15
@[simp] def W101_16 := @C.wpe _ _ K101_16.eq_1
def K101_17 : C := .block 0 (.loop 12 [1, 4, 5, 6, 10, 11] K101_16)
@[simp] def W101_17 := @C.wpe _ _ K101_17.eq_1
def K101_18 : C := .seq (.seq (.pl <| .st (.ext 12 0) <|
    .st (.act none (.px (some 7) (.mv (.v 2)))) <|
    .st (.act none (.px (some 8) (.lenV (.v 7)))) <|
    .st (.act none (.px (some 9) (.mv (.c (.int .i64 0))))) .done) K101_17) K101_11
@[simp] def W101_18 := @C.wpe _ _ K101_18.eq_1
def K101_19 : Pl := .st (.act none (.px (some 3) (.mv (.v 14)))) .done
@[simp] def W101_19 := @Pl.wpe _ _ K101_19.eq_1
def K101_20 : C := .seq (.pl <| .st (.ext 12 3) <|
    .st (.act none (.px (some 12) (.mv (.v 0)))) <|
    .st (.act none (.px (some 13) (.lenV (.v 12)))) <|
    .st (.act none (.ex (some 14) (.mks 8 1 [.int .i64 0] (.v 13) (.v 13)))) K101_19) K101_18
@[simp] def W101_20 := @C.wpe _ _ K101_20.eq_1
def K101_21 : Pl := .st (.act none (.px (some 2) (.mv (.v 13)))) .done
@[simp] def W101_21 := @Pl.wpe _ _ K101_21.eq_1
def K101_22 : C := .seq (.pl <| .st (.ext 12 2) <|
    .st (.act none (.px (some 12) (.mv (.v 0)))) <|
    .st (.act none (.ex (some 13) (.call fn_impl_components [.v 12]))) K101_21) K101_20
@[simp] def W101_22 := @C.wpe _ _ K101_22.eq_1
def B_impl_cyclic : C := .seq (.pl <| .st (.ext 12 0) <|
    .st (.act none (.px (some 1) (.mv (.c (.slice none 0 0))))) .done) K101_22
@[simp] def WB_impl_cyclic := @C.wpe _ _ B_impl_cyclic.eq_1
def R_impl_cyclic : FIR := ⟨B_impl_cyclic, 12, [(1, none)]⟩
theorem IR_impl_cyclic : cfun Try.prog H_impl_cyclic Try.f101 = some R_impl_cyclic := by kernel_rfl
theorem EN_impl_cyclic {args : List Value} {h : Heap} {k : Value → Heap → Prop} (hargs : args.length = 1) (hw : B_impl_cyclic.wp Try.prog (retQ [(1, none)] k) (env0 args 12) h) : CallE Try.prog fn_impl_cyclic args h k := enter Try.func101 rfl IR_impl_cyclic hargs hw

def H_impl_in : Hint := ⟨[(0, false), (1, false), (2, false), (6, false)], []⟩
def K65_1 : C := .seq (.pl <| .st (.ext 4 8) <|
    .st (.act none (.px (some 4) (.mv (.v 0)))) <|
    .st (.act none (.px (some 5) (.mv (.v 1)))) <|
    .st (.act none (.px (some 6) (.bin .geq (.v 4) (.v 5)))) <|
    .st (.act none (.px (some 7) (.mv (.v 6)))) <|
    .st (.act (some (.v 7, true)) (.px (some 8) (.mv (.v 0)))) <|
    .st (.act (some (.v 7, true)) (.px (some 9) (.mv (.v 2)))) <|
    .st (.act (some (.v 7, true)) (.px (some 10) (.bin .leq (.v 8) (.v 9)))) <|
    .st (.act none (.px (some 11) (.pick (.v 7) (.v 10) (.c (.bool false))))) <|
    .st (.act none (.px (some 3) (.mv (.v 11)))) .done) (.ret)
@[simp] def W65_1 := @C.wpe _ _ K65_1.eq_1
def B_impl_in : C := .seq (.pl <| .st (.ext 4 0) <|
    .st (.act none (.px (some 3) (.mv (.c (.bool false))))) .done) K65_1
@[simp] def WB_impl_in := @C.wpe _ _ B_impl_in.eq_1
def R_impl_in : FIR := ⟨B_impl_in, 4, [(3, none)]⟩
theorem IR_impl_in : cfun Try.prog H_impl_in Try.f65 = some R_impl_in := by kernel_rfl
theorem EN_impl_in {args : List Value} {h : Heap} {k : Value → Heap → Prop} (hargs : args.length = 3) (hw : B_impl_in.wp Try.prog (retQ [(3, none)] k) (env0 args 4) h) : CallE Try.prog fn_impl_in args h k := enter Try.func65 rfl IR_impl_in hargs hw

def H_impl_reachable : Hint := ⟨[(0, false), (1, false), (4, false), (5, false), (6, false), (8, false), (9, false), (11, false), (17, false), (18, false), (19, false), (44, false), (45, false), (46, false)], [[1, 2, 5, 6, 7, 11, 12, 13], [1, 2, 5, 6, 7, 8, 9, 10, 11, 12, 13], [1, 2, 5, 6, 7, 8, 9, 10]]⟩
def K68_1 : C := .seq (.pl <| .st (.ext 14 1) <|
    .st (.act none (.px (some 14) (.mv (.v 3)))) <|
    .st (.act none (.px (some 2) (.mv (.v 14)))) .done) (.ret)
@[simp] def W68_1 := @C.wpe _ _ K68_1.eq_1
def K68_2 : C := .pl <| .st (.ext 14 1) <|
    .st (.act none (.px (some 14) (.bin .add (.v 13) (.c (.int .i64 1))))) <|
    .st (.act none (.px (some 13) (.mv (.v 14)))) .done
@[simp] def W68_2 := @C.wpe _ _ K68_2.eq_1
def K68_3 : Pl := .st (.act none (.px (some 4) (.mv (.v 17)))) .done
@[simp] def W68_3 := @Pl.wpe _ _ K68_3.eq_1
def K68_4 : C := .pl <| .st (.ext 14 4) <|
    .st (.act none (.px (some 14) (.mv (.v 4)))) <|
    .st (.act none (.px (some 15) (.mv (.v 7)))) <|
    .st (.act none (.psl 16 [.int .i64 0] [(0, 1, .v 15)])) <|
    .st (.act none (.ex (some 17) (.app 8 1 [.int .i64 0] (.o (.v 14)) (.p 1 16)))) K68_3
@[simp] def W68_4 := @C.wpe _ _ K68_4.eq_1
def K68_5 : C := .seq (.pl <| .st (.ext 14 3) <|
    .st (.act none (.px (some 14) (.mv (.v 3)))) <|
    .st (.act none (.px (some 15) (.mv (.v 7)))) <|
    .st (.act none (.px (some 16) (.ia 1 (.v 14) (.v 15)))) <|
    .st (.act none (.ex none (.store 1 (.v 16) (.c (.bool true))))) .done) K68_4
@[simp] def W68_5 := @C.wpe _ _ K68_5.eq_1
def K68_6 : C := .cond 14 (.v 18) K68_5 (.skip)
@[simp] def W68_6 := @C.wpe _ _ K68_6.eq_1
def K68_7 : C := .seq (.pl <| .st (.ext 14 5) <|
    .st (.act none (.px (some 14) (.mv (.v 3)))) <|
    .st (.act none (.px (some 15) (.mv (.v 7)))) <|
    .st (.act none (.px (some 16) (.ia 1 (.v 14) (.v 15)))) <|
    .st (.act none (.ld (some 17) (.v 16) none)) <|
    .st (.act none (.px (some 18) (.un .not (.v 17)))) .done) K68_6
@[simp] def W68_7 := @C.wpe _ _ K68_7.eq_1
def K68_8 : C := .seq (.block 5 (.seq (.pl <| .st (.ext 14 2) <|
    .st (.act none (.px (some 14) (.ia 1 (.v 11) (.v 13)))) <|
    .st (.act none (.ld (some 15) (.v 14) none)) <|
    .st (.act none (.px (some 7) (.mv (.v 15)))) .done) K68_7)) K68_2
@[simp] def W68_8 := @C.wpe _ _ K68_8.eq_1
def K68_9 : C := .seq (.cond 14 (.v 14) (.skip) (.exit 4)) K68_8
@[simp] def W68_9 := @C.wpe _ _ K68_9.eq_1
def K68_10 : C := .seq (.pl <| .st (.ext 14 1) <|
    .st (.act none (.px (some 14) (.bin .lss (.v 13) (.v 12)))) .done) K68_9
@[simp] def W68_10 := @C.wpe _ _ K68_10.eq_1
def K68_11 : C := .block 4 (.loop 14 [1, 2, 5, 6, 7, 8, 9, 10] K68_10)
@[simp] def W68_11 := @C.wpe _ _ K68_11.eq_1
def K68_12 : C := .seq (.pl <| .st (.ext 14 3) <|
    .st (.act none (.px (some 14) (.mv (.v 0)))) <|
    .st (.act none (.px (some 15) (.mv (.v 6)))) <|
    .st (.act none (.px (some 16) (.ia 1 (.v 14) (.v 15)))) <|
    .st (.act none (.ld (some 11) (.v 16) none)) <|
    .st (.act none (.px (some 12) (.lenV (.v 11)))) <|
    .st (.act none (.px (some 13) (.mv (.c (.int .i64 0))))) .done) K68_11
@[simp] def W68_12 := @C.wpe _ _ K68_12.eq_1
def K68_13 : C := .seq (.pl <| .st (.ext 14 5) <|
    .st (.act none (.px (some 14) (.mv (.v 4)))) <|
    .st (.act none (.px (some 15) (.mv (.v 4)))) <|
    .st (.act none (.px (some 16) (.lenV (.v 15)))) <|
    .st (.act none (.px (some 17) (.bin .sub (.v 16) (.c (.int .i64 1))))) <|
    .st (.act none (.px (some 18) (.sliceV 1 (.v 14) none (some (.v 17)) none))) <|
    .st (.act none (.px (some 4) (.mv (.v 18)))) .done) K68_12
@[simp] def W68_13 := @C.wpe _ _ K68_13.eq_1
def K68_14 : C := .block 3 (.seq (.pl <| .st (.ext 14 6) <|
    .st (.act none (.px (some 14) (.mv (.v 4)))) <|
    .st (.act none (.px (some 15) (.mv (.v 4)))) <|
    .st (.act none (.px (some 16) (.lenV (.v 15)))) <|
    .st (.act none (.px (some 17) (.bin .sub (.v 16) (.c (.int .i64 1))))) <|
    .st (.act none (.px (some 18) (.ia 1 (.v 14) (.v 17)))) <|
    .st (.act none (.ld (some 19) (.v 18) none)) <|
    .st (.act none (.px (some 6) (.mv (.v 19)))) .done) K68_13)
@[simp] def W68_14 := @C.wpe _ _ K68_14.eq_1
def K68_15 : C := .cond 14 (.v 16) (.skip) (.exit 2)
@[simp] def W68_15 := @C.wpe _ _ K68_15.eq_1
def K68_16 : C := .seq (.seq (.pl <| .st (.ext 14 3) <|
    .st (.act none (.px (some 14) (.mv (.v 4)))) <|
    .st (.act none (.px (some 15) (.lenV (.v 14)))) <|
    .st (.act none (.px (some 16) (.bin .gtr (.v 15) (.c (.int .i64 0))))) .done) K68_15) K68_14
@[simp] def W68_16 := @C.wpe _ _ K68_16.eq_1
def K68_17 : C := .seq (.block 2 (.loop 14 [1, 2, 5, 6, 7, 8, 9, 10, 11, 12, 13] K68_16)) K68_1
@[simp] def W68_17 := @C.wpe _ _ K68_17.eq_1
def K68_18 : C := .pl <| .st (.ext 14 1) <|
    .st (.act none (.px (some 14) (.bin .add (.v 10) (.c (.int .i64 1))))) <|
    .st (.act none (.px (some 10) (.mv (.v 14)))) .done
@[simp] def W68_18 := @C.wpe _ _ K68_18.eq_1
def K68_19 : C := .pl <| .st (.ext 14 3) <|
    .st (.act none (.px (some 14) (.mv (.v 3)))) <|
    .st (.act none (.px (some 15) (.mv (.v 5)))) <|
    .st (.act none (.px (some 16) (.ia 1 (.v 14) (.v 15)))) <|
    .st (.act none (.ex none (.store 1 (.v 16) (.c (.bool true))))) .done
@[simp] def W68_19 := @C.wpe _ _ K68_19.eq_1
def K68_20 : C := .seq (.block 1 (.seq (.pl <| .st (.ext 14 2) <|
    .st (.act none (.px (some 14) (.ia 1 (.v 8) (.v 10)))) <|
    .st (.act none (.ld (some 15) (.v 14) none)) <|
    .st (.act none (.px (some 5) (.mv (.v 15)))) .done) K68_19)) K68_18
@[simp] def W68_20 := @C.wpe _ _ K68_20.eq_1
def K68_21 : C := .seq (.cond 14 (.v 14) (.skip) (.exit 0)) K68_20
@[simp] def W68_21 := @C.wpe _ _ K68_21.eq_1
def K68_22 : C := .seq (.pl <| .st (.ext 14 1) <|
    .st (.act none (.px (some 14) (.bin .lss (.v 10) (.v 9)))) .done) K68_21
@[simp] def W68_22 := @C.wpe _ _ K68_22.eq_1
def K68_23 : C := .block 0 (.loop 14 [1, 2, 5, 6, 7, 11, 12, 13] K68_22)
@[simp] def W68_23 := @C.wpe _ _ K68_23.eq_1
def K68_24 : C := .seq (.seq (.pl <| .st (.ext 14 0) <|
    .st (.act none (.px (some 8) (.mv (.v 1)))) <|
    .st (.act none (.px (some 9) (.lenV (.v 8)))) <|
    .st (.act none (.px (some 10) (.mv (.c (.int .i64 0))))) .done) K68_23) K68_17
@[simp] def W68_24 := @C.wpe _ _ K68_24.eq_1
def K68_25 : Pl := .st (.act none (.px (some 4) (.mv (.v 15)))) .done
@[simp] def W68_25 := @Pl.wpe _ _ K68_25.eq_1
def K68_26 : C := .seq (.pl <| .st (.ext 14 2) <|
    .st (.act none (.px (some 14) (.mv (.v 1)))) <|
    .st (.act none (.ex (some 15) (.call fn_impl_clone_int [.v 14]))) K68_25) K68_24
@[simp] def W68_26 := @C.wpe _ _ K68_26.eq_1
def K68_27 : Pl := .st (.act none (.px (some 3) (.mv (.v 16)))) .done
@[simp] def W68_27 := @Pl.wpe _ _ K68_27.eq_1
def K68_28 : C := .seq (.pl <| .st (.ext 14 3) <|
    .st (.act none (.px (some 14) (.mv (.v 0)))) <|
    .st (.act none (.px (some 15) (.lenV (.v 14)))) <|
    .st (.act none (.ex (some 16) (.mks 1 1 [.bool false] (.v 15) (.v 15)))) K68_27) K68_26
@[simp] def W68_28 := @C.wpe _ _ K68_28.eq_1
def B_impl_reachable : C := .seq (.pl <| .st (.ext 14 0) <|
    .st (.act none (.px (some 2) (.mv (.c (.slice none 0 0))))) .done) K68_28
@[simp] def WB_impl_reachable := @C.wpe _ _ B_impl_reachable.eq_1
def R_impl_reachable : FIR := ⟨B_impl_reachable, 14, [(2, none)]⟩
theorem IR_impl_reachable : cfun Try.prog H_impl_reachable Try.f68 = some R_impl_reachable := by kernel_rfl
theorem EN_impl_reachable {args : List Value} {h : Heap} {k : Value → Heap → Prop} (hargs : args.length = 2) (hw : B_impl_reachable.wp Try.prog (retQ [(2, none)] k) (env0 args 14) h) : CallE Try.prog fn_impl_reachable args h k := enter Try.func68 rfl IR_impl_reachable hargs hw

def H_laws_FnExactTrimAutomaton : Hint := ⟨[(0, false), (1, true), (2, false), (3, false), (4, true), (5, false), (6, true), (7, true), (8, false), (9, false), (10, false), (11, false), (12, true), (13, false)], []⟩
def K3_1 : C := .seq (.pl <| .st (.ext 14 0) <|
    .st (.act none (.px (some 2) (.mv (.c (.bool true))))) .done) (.ret)
@[simp] def W3_1 := @C.wpe _ _ K3_1.eq_1
def K3_2 : C := .seq (.pl <| .st (.ext 14 0) <|
    .st (.act none (.px (some 2) (.mv (.c (.bool false))))) .done) (.ret)
@[simp] def W3_2 := @C.wpe _ _ K3_2.eq_1
def K3_3 : C := .cond 14 (.v 16) K3_2 (.skip)
@[simp] def W3_3 := @C.wpe _ _ K3_3.eq_1
def K3_4 : C := .seq (.seq (.pl <| .st (.ext 14 3) <|
    .st (.act none (.px (some 14) (.mv (.v 11)))) <|
    .st (.act none (.px (some 15) (.mv (.v 10)))) <|
    .st (.act none (.px (some 16) (.bin .neq (.v 14) (.v 15)))) .done) K3_3) K3_1
@[simp] def W3_4 := @C.wpe _ _ K3_4.eq_1
def K3_5 : C := .seq (.pl <| .st (.ext 14 0) <|
    .st (.act none (.px (some 2) (.mv (.c (.bool false))))) .done) (.ret)
@[simp] def W3_5 := @C.wpe _ _ K3_5.eq_1
def K3_6 : C := .cond 14 (.v 15) K3_5 (.skip)
@[simp] def W3_6 := @C.wpe _ _ K3_6.eq_1
def K3_7 : C := .seq (.seq (.pl <| .st (.ext 14 2) <|
    .st (.act none (.px (some 14) (.mv (.v 11)))) <|
    .st (.act none (.px (some 15) (.bin .lss (.v 14) (.c (.int .i64 0))))) .done) K3_6) K3_4
@[simp] def W3_7 := @C.wpe _ _ K3_7.eq_1
def K3_8 : Pl := .st (.act none (.px (some 11) (.mv (.v 16)))) .done
@[simp] def W3_8 := @Pl.wpe _ _ K3_8.eq_1
def K3_9 : C := .seq (.pl <| .st (.ext 14 3) <|
    .st (.act none (.pget (some 14) none 7 0 (some 3))) <|
    .st (.act none (.px (some 15) (.mv (.v 11)))) <|
    .st (.act none (.ex (some 16) (.call fn_laws_heldAutomaton [.v 14, .v 15]))) K3_8) K3_7
@[simp] def W3_9 := @C.wpe _ _ K3_9.eq_1
def K3_10 : C := .seq (.pl <| .st (.ext 14 0) <|
    .st (.act none (.px (some 11) (.mv (.c (.int .i64 1))))) .done) K3_9
@[simp] def W3_10 := @C.wpe _ _ K3_10.eq_1
def K3_11 : C := .seq (.pl <| .st (.ext 14 0) <|
    .st (.act none (.px (some 2) (.mv (.c (.bool false))))) .done) (.ret)
@[simp] def W3_11 := @C.wpe _ _ K3_11.eq_1
def K3_12 : C := .cond 14 (.v 22) K3_11 (.skip)
@[simp] def W3_12 := @C.wpe _ _ K3_12.eq_1
def K3_13 : Pl := .st (.act none (.px (some 17) (.un .not (.v 16)))) <|
    .st (.act none (.px (some 18) (.mv (.v 17)))) <|
    .st (.act (some (.v 18, false)) (.px (some 19) (.mv (.v 13)))) <|
    .st (.act (some (.v 18, false)) (.px (some 20) (.mv (.v 5)))) <|
    .st (.act (some (.v 18, false)) (.px (some 21) (.eqb true (.v 19) (.v 20)))) <|
    .st (.act none (.px (some 22) (.pick (.v 18) (.c (.bool true)) (.v 21)))) .done
@[simp] def W3_13 := @Pl.wpe _ _ K3_13.eq_1
def K3_14 : C := .seq (.seq (.pl <| .st (.ext 14 9) <|
    .st (.act none (.pget (some 14) none 12 0 (some 3))) <|
    .st (.act none (.pget (some 15) none 4 0 (some 3))) <|
    .st (.act none (.ex (some 16) (.call fn_laws_eqAutomaton [.v 14, .v 15]))) K3_13) K3_12) K3_10
@[simp] def W3_14 := @C.wpe _ _ K3_14.eq_1
def K3_15 : Pl := .st (.act none (.px (some 17) (.mv (.v 16)))) <|
    .st (.act none (.px (some 18) (.extract 0 (.v 17)))) <|
    .st (.act none (.px (some 19) (.extract 1 (.v 17)))) <|
    .st (.act none (.pnew 12 (.c (.agg #[.slice none 0 0, .slice none 0 0, .slice none 0 0])) [])) <|
    .st (.act none (.pset none 12 0 3 (.v 18))) <|
    .st (.act none (.px (some 13) (.mv (.v 19)))) .done
@[simp] def W3_15 := @Pl.wpe _ _ K3_15.eq_1
def K3_16 : Pl := .st (.act none (.ex (some 16) (.call fn_impl_TrimAutomaton [.v 15]))) K3_15
@[simp] def W3_16 := @Pl.wpe _ _ K3_16.eq_1
def K3_17 : C := .seq (.pl <| .st (.ext 14 6) <|
    .st (.act none (.pget (some 14) none 1 0 (some 3))) <|
    .st (.act none (.ex (some 15) (.call fn_laws_toAutomaton [.v 14]))) K3_16) K3_14
@[simp] def W3_17 := @C.wpe _ _ K3_17.eq_1
def K3_18 : C := .seq (.pl <| .st (.ext 14 0) <|
    .st (.act none (.px (some 2) (.mv (.c (.bool false))))) .done) (.ret)
@[simp] def W3_18 := @C.wpe _ _ K3_18.eq_1
def K3_19 : C := .cond 14 (.v 16) K3_18 (.skip)
@[simp] def W3_19 := @C.wpe _ _ K3_19.eq_1
def K3_20 : C := .seq (.seq (.pl <| .st (.ext 14 3) <|
    .st (.act none (.px (some 14) (.mv (.v 11)))) <|
    .st (.act none (.px (some 15) (.mv (.v 10)))) <|
    .st (.act none (.px (some 16) (.bin .neq (.v 14) (.v 15)))) .done) K3_19) K3_17
@[simp] def W3_20 := @C.wpe _ _ K3_20.eq_1
def K3_21 : C := .seq (.pl <| .st (.ext 14 0) <|
    .st (.act none (.px (some 2) (.mv (.c (.bool false))))) .done) (.ret)
@[simp] def W3_21 := @C.wpe _ _ K3_21.eq_1
def K3_22 : C := .cond 14 (.v 15) K3_21 (.skip)
@[simp] def W3_22 := @C.wpe _ _ K3_22.eq_1
def K3_23 : C := .seq (.seq (.pl <| .st (.ext 14 2) <|
    .st (.act none (.px (some 14) (.mv (.v 11)))) <|
    .st (.act none (.px (some 15) (.bin .lss (.v 14) (.c (.int .i64 0))))) .done) K3_22) K3_20
@[simp] def W3_23 := @C.wpe _ _ K3_23.eq_1
def K3_24 : Pl := .st (.act none (.px (some 11) (.mv (.v 16)))) .done
@[simp] def W3_24 := @Pl.wpe _ _ K3_24.eq_1
def K3_25 : C := .seq (.pl <| .st (.ext 14 3) <|
    .st (.act none (.pget (some 14) none 7 0 (some 3))) <|
    .st (.act none (.px (some 15) (.mv (.v 11)))) <|
    .st (.act none (.ex (some 16) (.call fn_laws_heldAutomaton [.v 14, .v 15]))) K3_24) K3_23
@[simp] def W3_25 := @C.wpe _ _ K3_25.eq_1
def K3_26 : C := .seq (.pl <| .st (.ext 14 0) <|
    .st (.act none (.px (some 11) (.mv (.c (.int .i64 1))))) .done) K3_25
@[simp] def W3_26 := @C.wpe _ _ K3_26.eq_1
def K3_27 : Pl := .st (.act none (.px (some 10) (.mv (.v 16)))) .done
@[simp] def W3_27 := @Pl.wpe _ _ K3_27.eq_1
def K3_28 : C := .seq (.pl <| .st (.ext 14 3) <|
    .st (.act none (.pget (some 14) none 7 0 (some 3))) <|
    .st (.act none (.px (some 15) (.mv (.v 10)))) <|
    .st (.act none (.ex (some 16) (.call fn_laws_markAutomaton [.v 14, .v 15]))) K3_27) K3_26
@[simp] def W3_28 := @C.wpe _ _ K3_28.eq_1
def K3_29 : C := .seq (.pl <| .st (.ext 14 0) <|
    .st (.act none (.px (some 10) (.mv (.c (.int .i64 1))))) .done) K3_28
@[simp] def W3_29 := @C.wpe _ _ K3_29.eq_1
def K3_30 : C := .seq (.pl <| .st (.ext 14 0) <|
    .st (.act none (.px (some 2) (.mv (.c (.bool false))))) .done) (.ret)
@[simp] def W3_30 := @C.wpe _ _ K3_30.eq_1
def K3_31 : C := .cond 14 (.v 26) K3_30 (.skip)
@[simp] def W3_31 := @C.wpe _ _ K3_31.eq_1
def K3_32 : Pl := .st (.act (some (.v 16, false)) (.px (some 20) (.un .not (.v 19)))) <|
    .st (.act none (.px (some 21) (.pick (.v 16) (.c (.bool true)) (.v 20)))) <|
    .st (.act none (.px (some 22) (.mv (.v 21)))) <|
    .st (.act (some (.v 22, false)) (.px (some 23) (.mv (.v 8)))) <|
    .st (.act (some (.v 22, false)) (.px (some 24) (.mv (.v 5)))) <|
    .st (.act (some (.v 22, false)) (.px (some 25) (.eqb true (.v 23) (.v 24)))) <|
    .st (.act none (.px (some 26) (.pick (.v 22) (.c (.bool true)) (.v 25)))) .done
@[simp] def W3_32 := @Pl.wpe _ _ K3_32.eq_1
def K3_33 : C := .seq (.seq (.pl <| .st (.ext 14 13) <|
    .st (.act none (.px (some 14) (.mv (.v 9)))) <|
    .st (.act none (.px (some 15) (.bin .lss (.v 14) (.c (.int .i64 0))))) <|
    .st (.act none (.px (some 16) (.mv (.v 15)))) <|
    .st (.act (some (.v 16, false)) (.pget (some 17) none 7 0 (some 3))) <|
    .st (.act (some (.v 16, false)) (.pget (some 18) none 4 0 (some 3))) <|
    .st (.act (some (.v 16, false)) (.ex (some 19) (.call fn_laws_eqAutomaton [.v 17, .v 18]))) K3_32) K3_31) K3_29
@[simp] def W3_33 := @C.wpe _ _ K3_33.eq_1
def K3_34 : Pl := .st (.act none (.px (some 9) (.mv (.v 16)))) .done
@[simp] def W3_34 := @Pl.wpe _ _ K3_34.eq_1
def K3_35 : C := .seq (.pl <| .st (.ext 14 3) <|
    .st (.act none (.pget (some 14) none 6 0 (some 3))) <|
    .st (.act none (.px (some 15) (.mv (.v 9)))) <|
    .st (.act none (.ex (some 16) (.call fn_laws_markAutomaton [.v 14, .v 15]))) K3_34) K3_33
@[simp] def W3_35 := @C.wpe _ _ K3_35.eq_1
def K3_36 : C := .seq (.pl <| .st (.ext 14 0) <|
    .st (.act none (.px (some 9) (.mv (.c (.int .i64 1))))) .done) K3_35
@[simp] def W3_36 := @C.wpe _ _ K3_36.eq_1
def K3_37 : C := .seq (.pl <| .st (.ext 14 0) <|
    .st (.act none (.px (some 2) (.mv (.c (.bool false))))) .done) (.ret)
@[simp] def W3_37 := @C.wpe _ _ K3_37.eq_1
def K3_38 : C := .cond 14 (.v 18) K3_37 (.skip)
@[simp] def W3_38 := @C.wpe _ _ K3_38.eq_1
def K3_39 : Pl := .st (.act none (.px (some 18) (.un .not (.v 17)))) .done
@[simp] def W3_39 := @Pl.wpe _ _ K3_39.eq_1
def K3_40 : Pl := .st (.act none (.ex (some 17) (.call fn_laws_eqAutomaton [.v 14, .v 16]))) K3_39
@[simp] def W3_40 := @Pl.wpe _ _ K3_40.eq_1
def K3_41 : C := .seq (.seq (.pl <| .st (.ext 14 5) <|
    .st (.act none (.pget (some 14) none 6 0 (some 3))) <|
    .st (.act none (.pget (some 15) none 1 0 (some 3))) <|
    .st (.act none (.ex (some 16) (.call fn_laws_toAutomaton [.v 15]))) K3_40) K3_38) K3_36
@[simp] def W3_41 := @C.wpe _ _ K3_41.eq_1
def K3_42 : C := .seq (.pl <| .st (.ext 14 0) <|
    .st (.act none (.px (some 2) (.mv (.c (.bool false))))) .done) (.ret)
@[simp] def W3_42 := @C.wpe _ _ K3_42.eq_1
def K3_43 : C := .cond 14 (.v 22) K3_42 (.skip)
@[simp] def W3_43 := @C.wpe _ _ K3_43.eq_1
def K3_44 : Pl := .st (.act none (.px (some 17) (.un .not (.v 16)))) <|
    .st (.act none (.px (some 18) (.mv (.v 17)))) <|
    .st (.act (some (.v 18, false)) (.px (some 19) (.mv (.v 8)))) <|
    .st (.act (some (.v 18, false)) (.px (some 20) (.mv (.v 5)))) <|
    .st (.act (some (.v 18, false)) (.px (some 21) (.eqb true (.v 19) (.v 20)))) <|
    .st (.act none (.px (some 22) (.pick (.v 18) (.c (.bool true)) (.v 21)))) .done
@[simp] def W3_44 := @Pl.wpe _ _ K3_44.eq_1
def K3_45 : C := .seq (.seq (.pl <| .st (.ext 14 9) <|
    .st (.act none (.pget (some 14) none 7 0 (some 3))) <|
    .st (.act none (.pget (some 15) none 4 0 (some 3))) <|
    .st (.act none (.ex (some 16) (.call fn_laws_eqAutomaton [.v 14, .v 15]))) K3_44) K3_43) K3_41
@[simp] def W3_45 := @C.wpe _ _ K3_45.eq_1
def K3_46 : Pl := .st (.act none (.px (some 16) (.mv (.v 15)))) <|
    .st (.act none (.px (some 17) (.extract 0 (.v 16)))) <|
    .st (.act none (.px (some 18) (.extract 1 (.v 16)))) <|
    .st (.act none (.pnew 7 (.c (.agg #[.slice none 0 0, .slice none 0 0, .slice none 0 0])) [])) <|
    .st (.act none (.pset none 7 0 3 (.v 17))) <|
    .st (.act none (.px (some 8) (.mv (.v 18)))) .done
@[simp] def W3_46 := @Pl.wpe _ _ K3_46.eq_1
def K3_47 : C := .seq (.pl <| .st (.ext 14 5) <|
    .st (.act none (.pget (some 14) none 6 0 (some 3))) <|
    .st (.act none (.ex (some 15) (.call fn_impl_TrimAutomaton [.v 14]))) K3_46) K3_45
@[simp] def W3_47 := @C.wpe _ _ K3_47.eq_1
def K3_48 : Pl := .st (.act none (.pnew 6 (.c (.agg #[.slice none 0 0, .slice none 0 0, .slice none 0 0])) [])) <|
    .st (.act none (.pset none 6 0 3 (.v 15))) .done
@[simp] def W3_48 := @Pl.wpe _ _ K3_48.eq_1
def K3_49 : C := .seq (.pl <| .st (.ext 14 2) <|
    .st (.act none (.pget (some 14) none 1 0 (some 3))) <|
    .st (.act none (.ex (some 15) (.call fn_laws_toAutomaton [.v 14]))) K3_48) K3_47
@[simp] def W3_49 := @C.wpe _ _ K3_49.eq_1
def K3_50 : Pl := .st (.act none (.px (some 17) (.mv (.v 16)))) <|
    .st (.act none (.px (some 18) (.extract 0 (.v 17)))) <|
    .st (.act none (.px (some 19) (.extract 1 (.v 17)))) <|
    .st (.act none (.pnew 4 (.c (.agg #[.slice none 0 0, .slice none 0 0, .slice none 0 0])) [])) <|
    .st (.act none (.pset none 4 0 3 (.v 18))) <|
    .st (.act none (.px (some 5) (.mv (.v 19)))) .done
@[simp] def W3_50 := @Pl.wpe _ _ K3_50.eq_1
def K3_51 : Pl := .st (.act none (.ex (some 16) (.call fn_spec_TrimAutomaton [.v 15]))) K3_50
@[simp] def W3_51 := @Pl.wpe _ _ K3_51.eq_1
def K3_52 : C := .seq (.pl <| .st (.ext 14 6) <|
    .st (.act none (.pget (some 14) none 1 0 (some 3))) <|
    .st (.act none (.ex (some 15) (.call fn_laws_toAutomaton [.v 14]))) K3_51) K3_49
@[simp] def W3_52 := @C.wpe _ _ K3_52.eq_1
def K3_53 : C := .seq (.pl <| .st (.ext 14 0) <|
    .st (.act none (.px (some 2) (.mv (.c (.bool true))))) .done) (.ret)
@[simp] def W3_53 := @C.wpe _ _ K3_53.eq_1
def K3_54 : C := .cond 14 (.v 15) K3_53 (.skip)
@[simp] def W3_54 := @C.wpe _ _ K3_54.eq_1
def K3_55 : C := .seq (.seq (.pl <| .st (.ext 14 2) <|
    .st (.act none (.px (some 14) (.mv (.v 3)))) <|
    .st (.act none (.px (some 15) (.bin .lss (.v 14) (.c (.int .i64 0))))) .done) K3_54) K3_52
@[simp] def W3_55 := @C.wpe _ _ K3_55.eq_1
def K3_56 : Pl := .st (.act none (.px (some 3) (.mv (.v 16)))) .done
@[simp] def W3_56 := @Pl.wpe _ _ K3_56.eq_1
def K3_57 : C := .seq (.pl <| .st (.ext 14 3) <|
    .st (.act none (.pget (some 14) none 1 0 (some 3))) <|
    .st (.act none (.px (some 15) (.mv (.v 3)))) <|
    .st (.act none (.ex (some 16) (.call fn_laws_szAutomaton [.v 14, .v 15]))) K3_56) K3_55
@[simp] def W3_57 := @C.wpe _ _ K3_57.eq_1
def K3_58 : C := .seq (.pl <| .st (.ext 14 0) <|
    .st (.act none (.px (some 3) (.mv (.c (.int .i64 1048576))))) .done) K3_57
@[simp] def W3_58 := @C.wpe _ _ K3_58.eq_1
def B_laws_FnExactTrimAutomaton : C := .seq (.pl <| .st (.ext 14 0) <|
    .st (.act none (.pnew 1 (.v 0) [])) <|
    .st (.act none (.px (some 2) (.mv (.c (.bool false))))) .done) K3_58
@[simp] def WB_laws_FnExactTrimAutomaton := @C.wpe _ _ B_laws_FnExactTrimAutomaton.eq_1
def R_laws_FnExactTrimAutomaton : FIR := ⟨B_laws_FnExactTrimAutomaton, 14, [(2, none)]⟩
theorem IR_laws_FnExactTrimAutomaton : cfun Try.prog H_laws_FnExactTrimAutomaton Try.f3 = some R_laws_FnExactTrimAutomaton := by kernel_rfl
theorem EN_laws_FnExactTrimAutomaton {args : List Value} {h : Heap} {k : Value → Heap → Prop} (hargs : args.length = 1) (hw : B_laws_FnExactTrimAutomaton.wp Try.prog (retQ [(2, none)] k) (env0 args 14) h) : CallE Try.prog fn_laws_FnExactTrimAutomaton args h k := enter Try.func3 rfl IR_laws_FnExactTrimAutomaton hargs hw

def H_laws_eqAutomaton : Hint := ⟨[(0, false), (1, false), (2, true), (3, true), (4, false)], []⟩
def K12_1 : C := .seq (.pl <| .st (.ext 5 0) <|
    .st (.act none (.px (some 4) (.mv (.c (.bool true))))) .done) (.ret)
@[simp] def W12_1 := @C.wpe _ _ K12_1.eq_1
def K12_2 : C := .seq (.pl <| .st (.ext 5 0) <|
    .st (.act none (.px (some 4) (.mv (.c (.bool false))))) .done) (.ret)
@[simp] def W12_2 := @C.wpe _ _ K12_2.eq_1
def K12_3 : C := .cond 5 (.v 10) K12_2 (.skip)
@[simp] def W12_3 := @C.wpe _ _ K12_3.eq_1
def K12_4 : Pl := .st (.act none (.px (some 10) (.un .not (.v 9)))) .done
@[simp] def W12_4 := @Pl.wpe _ _ K12_4.eq_1
def K12_5 : C := .seq (.seq (.pl <| .st (.ext 5 6) <|
    .st (.act none (.als 5 none 2)) <|
    .st (.act none (.pget (some 6) (some 5) 2 2 none)) <|
    .st (.act none (.als 7 none 3)) <|
    .st (.act none (.pget (some 8) (some 7) 3 2 none)) <|
    .st (.act none (.ex (some 9) (.call fn_laws_eqTransitionS [.v 6, .v 8]))) K12_4) K12_3) K12_1
@[simp] def W12_5 := @C.wpe _ _ K12_5.eq_1
def K12_6 : C := .seq (.pl <| .st (.ext 5 0) <|
    .st (.act none (.px (some 4) (.mv (.c (.bool false))))) .done) (.ret)
@[simp] def W12_6 := @C.wpe _ _ K12_6.eq_1
def K12_7 : C := .cond 5 (.v 10) K12_6 (.skip)
@[simp] def W12_7 := @C.wpe _ _ K12_7.eq_1
def K12_8 : Pl := .st (.act none (.px (some 10) (.un .not (.v 9)))) .done
@[simp] def W12_8 := @Pl.wpe _ _ K12_8.eq_1
def K12_9 : C := .seq (.seq (.pl <| .st (.ext 5 6) <|
    .st (.act none (.als 5 none 2)) <|
    .st (.act none (.pget (some 6) (some 5) 2 1 none)) <|
    .st (.act none (.als 7 none 3)) <|
    .st (.act none (.pget (some 8) (some 7) 3 1 none)) <|
    .st (.act none (.ex (some 9) (.call fn_laws_eqBoolS [.v 6, .v 8]))) K12_8) K12_7) K12_5
@[simp] def W12_9 := @C.wpe _ _ K12_9.eq_1
def K12_10 : C := .seq (.pl <| .st (.ext 5 0) <|
    .st (.act none (.px (some 4) (.mv (.c (.bool false))))) .done) (.ret)
@[simp] def W12_10 := @C.wpe _ _ K12_10.eq_1
def K12_11 : C := .cond 5 (.v 10) K12_10 (.skip)
@[simp] def W12_11 := @C.wpe _ _ K12_11.eq_1
def K12_12 : Pl := .st (.act none (.px (some 10) (.un .not (.v 9)))) .done
@[simp] def W12_12 := @Pl.wpe _ _ K12_12.eq_1
def K12_13 : C := .seq (.seq (.pl <| .st (.ext 5 6) <|
    .st (.act none (.als 5 none 2)) <|
    .st (.act none (.pget (some 6) (some 5) 2 0 none)) <|
    .st (.act none (.als 7 none 3)) <|
    .st (.act none (.pget (some 8) (some 7) 3 0 none)) <|
    .st (.act none (.ex (some 9) (.call fn_laws_eqIntS [.v 6, .v 8]))) K12_12) K12_11) K12_9
@[simp] def W12_13 := @C.wpe _ _ K12_13.eq_1
def B_laws_eqAutomaton : C := .seq (.pl <| .st (.ext 5 0) <|
    .st (.act none (.pnew 2 (.v 0) [])) <|
    .st (.act none (.pnew 3 (.v 1) [])) <|
    .st (.act none (.px (some 4) (.mv (.c (.bool false))))) .done) K12_13
@[simp] def WB_laws_eqAutomaton := @C.wpe _ _ B_laws_eqAutomaton.eq_1
def R_laws_eqAutomaton : FIR := ⟨B_laws_eqAutomaton, 5, [(4, none)]⟩
theorem IR_laws_eqAutomaton : cfun Try.prog H_laws_eqAutomaton Try.f12 = some R_laws_eqAutomaton := by kernel_rfl
theorem EN_laws_eqAutomaton {args : List Value} {h : Heap} {k : Value → Heap → Prop} (hargs : args.length = 2) (hw : B_laws_eqAutomaton.wp Try.prog (retQ [(4, none)] k) (env0 args 5) h) : CallE Try.prog fn_laws_eqAutomaton args h k := enter Try.func12 rfl IR_laws_eqAutomaton hargs hw

def H_laws_eqBoolS : Hint := ⟨[(0, false), (1, false), (4, false), (5, false)], [[2]]⟩
def K39_1 : C := .seq (.pl <| .st (.ext 4 0) <|
    .st (.act none (.px (some 2) (.mv (.c (.bool true))))) .done) (.ret)
@[simp] def W39_1 := @C.wpe _ _ K39_1.eq_1
def K39_2 : C := .pl <| .st (.ext 4 2) <|
    .st (.act none (.px (some 4) (.mv (.v 3)))) <|
    .st (.act none (.px (some 5) (.bin .add (.v 4) (.c (.int .i64 1))))) <|
    .st (.act none (.px (some 3) (.mv (.v 5)))) .done
@[simp] def W39_2 := @C.wpe _ _ K39_2.eq_1
def K39_3 : C := .seq (.pl <| .st (.ext 4 0) <|
    .st (.act none (.px (some 2) (.mv (.c (.bool false))))) .done) (.ret)
@[simp] def W39_3 := @C.wpe _ _ K39_3.eq_1
def K39_4 : C := .cond 4 (.v 12) K39_3 (.skip)
@[simp] def W39_4 := @C.wpe _ _ K39_4.eq_1
def K39_5 : C := .seq (.block 1 (.seq (.pl <| .st (.ext 4 9) <|
    .st (.act none (.px (some 4) (.mv (.v 0)))) <|
    .st (.act none (.px (some 5) (.mv (.v 3)))) <|
    .st (.act none (.px (some 6) (.ia 1 (.v 4) (.v 5)))) <|
    .st (.act none (.ld (some 7) (.v 6) none)) <|
    .st (.act none (.px (some 8) (.mv (.v 1)))) <|
    .st (.act none (.px (some 9) (.mv (.v 3)))) <|
    .st (.act none (.px (some 10) (.ia 1 (.v 8) (.v 9)))) <|
    .st (.act none (.ld (some 11) (.v 10) none)) <|
    .st (.act none (.px (some 12) (.eqb true (.v 7) (.v 11)))) .done) K39_4)) K39_2
@[simp] def W39_5 := @C.wpe _ _ K39_5.eq_1
def K39_6 : C := .cond 4 (.v 7) (.skip) (.exit 0)
@[simp] def W39_6 := @C.wpe _ _ K39_6.eq_1
def K39_7 : C := .seq (.seq (.pl <| .st (.ext 4 4) <|
    .st (.act none (.px (some 4) (.mv (.v 3)))) <|
    .st (.act none (.px (some 5) (.mv (.v 0)))) <|
    .st (.act none (.px (some 6) (.lenV (.v 5)))) <|
    .st (.act none (.px (some 7) (.bin .lss (.v 4) (.v 6)))) .done) K39_6) K39_5
@[simp] def W39_7 := @C.wpe _ _ K39_7.eq_1
def K39_8 : C := .block 0 (.loop 4 [2] K39_7)
@[simp] def W39_8 := @C.wpe _ _ K39_8.eq_1
def K39_9 : C := .seq (.seq (.pl <| .st (.ext 4 0) <|
    .st (.act none (.px (some 3) (.mv (.c (.int .i64 0))))) .done) K39_8) K39_1
@[simp] def W39_9 := @C.wpe _ _ K39_9.eq_1
def K39_10 : C := .seq (.pl <| .st (.ext 4 0) <|
    .st (.act none (.px (some 2) (.mv (.c (.bool false))))) .done) (.ret)
@[simp] def W39_10 := @C.wpe _ _ K39_10.eq_1
def K39_11 : C := .cond 4 (.v 8) K39_10 (.skip)
@[simp] def W39_11 := @C.wpe _ _ K39_11.eq_1
def K39_12 : C := .seq (.seq (.pl <| .st (.ext 4 5) <|
    .st (.act none (.px (some 4) (.mv (.v 0)))) <|
    .st (.act none (.px (some 5) (.lenV (.v 4)))) <|
    .st (.act none (.px (some 6) (.mv (.v 1)))) <|
    .st (.act none (.px (some 7) (.lenV (.v 6)))) <|
    .st (.act none (.px (some 8) (.bin .neq (.v 5) (.v 7)))) .done) K39_11) K39_9
@[simp] def W39_12 := @C.wpe _ _ K39_12.eq_1
def B_laws_eqBoolS : C := .seq (.pl <| .st (.ext 4 0) <|
    .st (.act none (.px (some 2) (.mv (.c (.bool false))))) .done) K39_12
@[simp] def WB_laws_eqBoolS := @C.wpe _ _ B_laws_eqBoolS.eq_1
def R_laws_eqBoolS : FIR := ⟨B_laws_eqBoolS, 4, [(2, none)]⟩
theorem IR_laws_eqBoolS : cfun Try.prog H_laws_eqBoolS Try.f39 = some R_laws_eqBoolS := by kernel_rfl
theorem EN_laws_eqBoolS {args : List Value} {h : Heap} {k : Value → Heap → Prop} (hargs : args.length = 2) (hw : B_laws_eqBoolS.wp Try.prog (retQ [(2, none)] k) (env0 args 4) h) : CallE Try.prog fn_laws_eqBoolS args h k := enter Try.func39 rfl IR_laws_eqBoolS hargs hw

def H_laws_eqIntS : Hint := ⟨[(0, false), (1, false), (4, false), (5, false)], [[2]]⟩
def K18_1 : C := .seq (.pl <| .st (.ext 4 0) <|
    .st (.act none (.px (some 2) (.mv (.c (.bool true))))) .done) (.ret)
@[simp] def W18_1 := @C.wpe _ _ K18_1.eq_1
def K18_2 : C := .pl <| .st (.ext 4 2) <|
    .st (.act none (.px (some 4) (.mv (.v 3)))) <|
    .st (.act none (.px (some 5) (.bin .add (.v 4) (.c (.int .i64 1))))) <|
    .st (.act none (.px (some 3) (.mv (.v 5)))) .done
@[simp] def W18_2 := @C.wpe _ _ K18_2.eq_1
def K18_3 : C := .seq (.pl <| .st (.ext 4 0) <|
    .st (.act none (.px (some 2) (.mv (.c (.bool false))))) .done) (.ret)
@[simp] def W18_3 := @C.wpe _ _ K18_3.eq_1
def K18_4 : C := .cond 4 (.v 12) K18_3 (.skip)
@[simp] def W18_4 := @C.wpe _ _ K18_4.eq_1
def K18_5 : C := .seq (.block 1 (.seq (.pl <| .st (.ext 4 9) <|
    .st (.act none (.px (some 4) (.mv (.v 0)))) <|
    .st (.act none (.px (some 5) (.mv (.v 3)))) <|
    .st (.act none (.px (some 6) (.ia 1 (.v 4) (.v 5)))) <|
    .st (.act none (.ld (some 7) (.v 6) none)) <|
    .st (.act none (.px (some 8) (.mv (.v 1)))) <|
    .st (.act none (.px (some 9) (.mv (.v 3)))) <|
    .st (.act none (.px (some 10) (.ia 1 (.v 8) (.v 9)))) <|
    .st (.act none (.ld (some 11) (.v 10) none)) <|
    .st (.act none (.px (some 12) (.bin .neq (.v 7) (.v 11)))) .done) K18_4)) K18_2
@[simp] def W18_5 := @C.wpe _ _ K18_5.eq_1
def K18_6 : C := .cond 4 (.v 7) (.skip) (.exit 0)
@[simp] def W18_6 := @C.wpe _ _ K18_6.eq_1
def K18_7 : C := .seq (.seq (.pl <| .st (.ext 4 4) <|
    .st (.act none (.px (some 4) (.mv (.v 3)))) <|
    .st (.act none (.px (some 5) (.mv (.v 0)))) <|
    .st (.act none (.px (some 6) (.lenV (.v 5)))) <|
    .st (.act none (.px (some 7) (.bin .lss (.v 4) (.v 6)))) .done) K18_6) K18_5
@[simp] def W18_7 := @C.wpe _ _ K18_7.eq_1
def K18_8 : C := .block 0 (.loop 4 [2] K18_7)
@[simp] def W18_8 := @C.wpe _ _ K18_8.eq_1
def K18_9 : C := .seq (.seq (.pl <| .st (.ext 4 0) <|
    .st (.act none (.px (some 3) (.mv (.c (.int .i64 0))))) .done) K18_8) K18_1
@[simp] def W18_9 := @C.wpe _ _ K18_9.eq_1
def K18_10 : C := .seq (.pl <| .st (.ext 4 0) <|
    .st (.act none (.px (some 2) (.mv (.c (.bool false))))) .done) (.ret)
@[simp] def W18_10 := @C.wpe _ _ K18_10.eq_1
def K18_11 : C := .cond 4 (.v 8) K18_10 (.skip)
@[simp] def W18_11 := @C.wpe _ _ K18_11.eq_1
def K18_12 : C := .seq (.seq (.pl <| .st (.ext 4 5) <|
    .st (.act none (.px (some 4) (.mv (.v 0)))) <|
    .st (.act none (.px (some 5) (.lenV (.v 4)))) <|
    .st (.act none (.px (some 6) (.mv (.v 1)))) <|
    .st (.act none (.px (some 7) (.lenV (.v 6)))) <|
    .st (.act none (.px (some 8) (.bin .neq (.v 5) (.v 7)))) .done) K18_11) K18_9
@[simp] def W18_12 := @C.wpe _ _ K18_12.eq_1
def B_laws_eqIntS : C := .seq (.pl <| .st (.ext 4 0) <|
    .st (.act none (.px (some 2) (.mv (.c (.bool false))))) .done) K18_12
@[simp] def WB_laws_eqIntS := @C.wpe _ _ B_laws_eqIntS.eq_1
def R_laws_eqIntS : FIR := ⟨B_laws_eqIntS, 4, [(2, none)]⟩
theorem IR_laws_eqIntS : cfun Try.prog H_laws_eqIntS Try.f18 = some R_laws_eqIntS := by kernel_rfl
theorem EN_laws_eqIntS {args : List Value} {h : Heap} {k : Value → Heap → Prop} (hargs : args.length = 2) (hw : B_laws_eqIntS.wp Try.prog (retQ [(2, none)] k) (env0 args 4) h) : CallE Try.prog fn_laws_eqIntS args h k := enter Try.func18 rfl IR_laws_eqIntS hargs hw

def H_laws_eqTransition : Hint := ⟨[(0, false), (1, false), (2, true), (3, true), (4, false)], []⟩
def K72_1 : C := .seq (.pl <| .st (.ext 5 0) <|
    .st (.act none (.px (some 4) (.mv (.c (.bool true))))) .done) (.ret)
@[simp] def W72_1 := @C.wpe _ _ K72_1.eq_1
def K72_2 : C := .seq (.pl <| .st (.ext 5 0) <|
    .st (.act none (.px (some 4) (.mv (.c (.bool false))))) .done) (.ret)
@[simp] def W72_2 := @C.wpe _ _ K72_2.eq_1
def K72_3 : C := .cond 5 (.v 9) K72_2 (.skip)
@[simp] def W72_3 := @C.wpe _ _ K72_3.eq_1
def K72_4 : C := .seq (.seq (.pl <| .st (.ext 5 5) <|
    .st (.act none (.als 5 none 2)) <|
    .st (.act none (.pget (some 6) (some 5) 2 3 none)) <|
    .st (.act none (.als 7 none 3)) <|
    .st (.act none (.pget (some 8) (some 7) 3 3 none)) <|
    .st (.act none (.px (some 9) (.bin .neq (.v 6) (.v 8)))) .done) K72_3) K72_1
@[simp] def W72_4 := @C.wpe _ _ K72_4.eq_1
def K72_5 : C := .seq (.pl <| .st (.ext 5 0) <|
    .st (.act none (.px (some 4) (.mv (.c (.bool false))))) .done) (.ret)
@[simp] def W72_5 := @C.wpe _ _ K72_5.eq_1
def K72_6 : C := .cond 5 (.v 9) K72_5 (.skip)
@[simp] def W72_6 := @C.wpe _ _ K72_6.eq_1
def K72_7 : C := .seq (.seq (.pl <| .st (.ext 5 5) <|
    .st (.act none (.als 5 none 2)) <|
    .st (.act none (.pget (some 6) (some 5) 2 2 none)) <|
    .st (.act none (.als 7 none 3)) <|
    .st (.act none (.pget (some 8) (some 7) 3 2 none)) <|
    .st (.act none (.px (some 9) (.bin .neq (.v 6) (.v 8)))) .done) K72_6) K72_4
@[simp] def W72_7 := @C.wpe _ _ K72_7.eq_1
def K72_8 : C := .seq (.pl <| .st (.ext 5 0) <|
    .st (.act none (.px (some 4) (.mv (.c (.bool false))))) .done) (.ret)
@[simp] def W72_8 := @C.wpe _ _ K72_8.eq_1
def K72_9 : C := .cond 5 (.v 9) K72_8 (.skip)
@[simp] def W72_9 := @C.wpe _ _ K72_9.eq_1
def K72_10 : C := .seq (.seq (.pl <| .st (.ext 5 5) <|
    .st (.act none (.als 5 none 2)) <|
    .st (.act none (.pget (some 6) (some 5) 2 1 none)) <|
    .st (.act none (.als 7 none 3)) <|
    .st (.act none (.pget (some 8) (some 7) 3 1 none)) <|
    .st (.act none (.px (some 9) (.bin .neq (.v 6) (.v 8)))) .done) K72_9) K72_7
@[simp] def W72_10 := @C.wpe _ _ K72_10.eq_1
def K72_11 : C := .seq (.pl <| .st (.ext 5 0) <|
    .st (.act none (.px (some 4) (.mv (.c (.bool false))))) .done) (.ret)
@[simp] def W72_11 := @C.wpe _ _ K72_11.eq_1
def K72_12 : C := .cond 5 (.v 9) K72_11 (.skip)
@[simp] def W72_12 := @C.wpe _ _ K72_12.eq_1
def K72_13 : C := .seq (.seq (.pl <| .st (.ext 5 5) <|
    .st (.act none (.als 5 none 2)) <|
    .st (.act none (.pget (some 6) (some 5) 2 0 none)) <|
    .st (.act none (.als 7 none 3)) <|
    .st (.act none (.pget (some 8) (some 7) 3 0 none)) <|
    .st (.act none (.px (some 9) (.bin .neq (.v 6) (.v 8)))) .done) K72_12) K72_10
@[simp] def W72_13 := @C.wpe _ _ K72_13.eq_1
def B_laws_eqTransition : C := .seq (.pl <| .st (.ext 5 0) <|
    .st (.act none (.pnew 2 (.v 0) [])) <|
    .st (.act none (.pnew 3 (.v 1) [])) <|
    .st (.act none (.px (some 4) (.mv (.c (.bool false))))) .done) K72_13
@[simp] def WB_laws_eqTransition := @C.wpe _ _ B_laws_eqTransition.eq_1
def R_laws_eqTransition : FIR := ⟨B_laws_eqTransition, 5, [(4, none)]⟩
theorem IR_laws_eqTransition : cfun Try.prog H_laws_eqTransition Try.f72 = some R_laws_eqTransition := by kernel_rfl
theorem EN_laws_eqTransition {args : List Value} {h : Heap} {k : Value → Heap → Prop} (hargs : args.length = 2) (hw : B_laws_eqTransition.wp Try.prog (retQ [(4, none)] k) (env0 args 5) h) : CallE Try.prog fn_laws_eqTransition args h k := enter Try.func72 rfl IR_laws_eqTransition hargs hw

def H_laws_eqTransitionS : Hint := ⟨[(0, false), (1, false), (4, false), (5, false)], [[2]]⟩
def K40_1 : C := .seq (.pl <| .st (.ext 4 0) <|
    .st (.act none (.px (some 2) (.mv (.c (.bool true))))) .done) (.ret)
@[simp] def W40_1 := @C.wpe _ _ K40_1.eq_1
def K40_2 : C := .pl <| .st (.ext 4 2) <|
    .st (.act none (.px (some 4) (.mv (.v 3)))) <|
    .st (.act none (.px (some 5) (.bin .add (.v 4) (.c (.int .i64 1))))) <|
    .st (.act none (.px (some 3) (.mv (.v 5)))) .done
@[simp] def W40_2 := @C.wpe _ _ K40_2.eq_1
def K40_3 : C := .seq (.pl <| .st (.ext 4 0) <|
    .st (.act none (.px (some 2) (.mv (.c (.bool false))))) .done) (.ret)
@[simp] def W40_3 := @C.wpe _ _ K40_3.eq_1
def K40_4 : C := .cond 4 (.v 13) K40_3 (.skip)
@[simp] def W40_4 := @C.wpe _ _ K40_4.eq_1
def K40_5 : Pl := .st (.act none (.px (some 13) (.un .not (.v 12)))) .done
@[simp] def W40_5 := @Pl.wpe _ _ K40_5.eq_1
def K40_6 : C := .seq (.block 1 (.seq (.pl <| .st (.ext 4 10) <|
    .st (.act none (.px (some 4) (.mv (.v 0)))) <|
    .st (.act none (.px (some 5) (.mv (.v 3)))) <|
    .st (.act none (.px (some 6) (.ia 4 (.v 4) (.v 5)))) <|
    .st (.act none (.ld (some 7) (.v 6) (some 4))) <|
    .st (.act none (.px (some 8) (.mv (.v 1)))) <|
    .st (.act none (.px (some 9) (.mv (.v 3)))) <|
    .st (.act none (.px (some 10) (.ia 4 (.v 8) (.v 9)))) <|
    .st (.act none (.ld (some 11) (.v 10) (some 4))) <|
    .st (.act none (.ex (some 12) (.call fn_laws_eqTransition [.v 7, .v 11]))) K40_5) K40_4)) K40_2
@[simp] def W40_6 := @C.wpe _ _ K40_6.eq_1
def K40_7 : C := .cond 4 (.v 7) (.skip) (.exit 0)
@[simp] def W40_7 := @C.wpe _ _ K40_7.eq_1
def K40_8 : C := .seq (.seq (.pl <| .st (.ext 4 4) <|
    .st (.act none (.px (some 4) (.mv (.v 3)))) <|
    .st (.act none (.px (some 5) (.mv (.v 0)))) <|
    .st (.act none (.px (some 6) (.lenV (.v 5)))) <|
    .st (.act none (.px (some 7) (.bin .lss (.v 4) (.v 6)))) .done) K40_7) K40_6
@[simp] def W40_8 := @C.wpe _ _ K40_8.eq_1
def K40_9 : C := .block 0 (.loop 4 [2] K40_8)
@[simp] def W40_9 := @C.wpe _ _ K40_9.eq_1
def K40_10 : C := .seq (.seq (.pl <| .st (.ext 4 0) <|
    .st (.act none (.px (some 3) (.mv (.c (.int .i64 0))))) .done) K40_9) K40_1
@[simp] def W40_10 := @C.wpe _ _ K40_10.eq_1
def K40_11 : C := .seq (.pl <| .st (.ext 4 0) <|
    .st (.act none (.px (some 2) (.mv (.c (.bool false))))) .done) (.ret)
@[simp] def W40_11 := @C.wpe _ _ K40_11.eq_1
def K40_12 : C := .cond 4 (.v 8) K40_11 (.skip)
@[simp] def W40_12 := @C.wpe _ _ K40_12.eq_1
def K40_13 : C := .seq (.seq (.pl <| .st (.ext 4 5) <|
    .st (.act none (.px (some 4) (.mv (.v 0)))) <|
    .st (.act none (.px (some 5) (.lenV (.v 4)))) <|
    .st (.act none (.px (some 6) (.mv (.v 1)))) <|
    .st (.act none (.px (some 7) (.lenV (.v 6)))) <|
    .st (.act none (.px (some 8) (.bin .neq (.v 5) (.v 7)))) .done) K40_12) K40_10
@[simp] def W40_13 := @C.wpe _ _ K40_13.eq_1
def B_laws_eqTransitionS : C := .seq (.pl <| .st (.ext 4 0) <|
    .st (.act none (.px (some 2) (.mv (.c (.bool false))))) .done) K40_13
@[simp] def WB_laws_eqTransitionS := @C.wpe _ _ B_laws_eqTransitionS.eq_1
def R_laws_eqTransitionS : FIR := ⟨B_laws_eqTransitionS, 4, [(2, none)]⟩
theorem IR_laws_eqTransitionS : cfun Try.prog H_laws_eqTransitionS Try.f40 = some R_laws_eqTransitionS := by kernel_rfl
theorem EN_laws_eqTransitionS {args : List Value} {h : Heap} {k : Value → Heap → Prop} (hargs : args.length = 2) (hw : B_laws_eqTransitionS.wp Try.prog (retQ [(2, none)] k) (env0 args 4) h) : CallE Try.prog fn_laws_eqTransitionS args h k := enter Try.func40 rfl IR_laws_eqTransitionS hargs hw

def H_laws_heldAutomaton : Hint := ⟨[(0, false), (1, false), (2, true), (4, false)], []⟩
def K14_1 : C := .seq (.pl <| .st (.ext 4 1) <|
    .st (.act none (.px (some 4) (.mv (.v 1)))) <|
    .st (.act none (.px (some 3) (.mv (.v 4)))) .done) (.ret)
@[simp] def W14_1 := @C.wpe _ _ K14_1.eq_1
def K14_2 : C := .seq (.pl <| .st (.ext 4 0) <|
    .st (.act none (.px (some 3) (.mv (.c (.int .i64 (-1)))))) .done) (.ret)
@[simp] def W14_2 := @C.wpe _ _ K14_2.eq_1
def K14_3 : C := .cond 4 (.v 5) K14_2 (.skip)
@[simp] def W14_3 := @C.wpe _ _ K14_3.eq_1
def K14_4 : C := .seq (.seq (.pl <| .st (.ext 4 2) <|
    .st (.act none (.px (some 4) (.mv (.v 1)))) <|
    .st (.act none (.px (some 5) (.bin .lss (.v 4) (.c (.int .i64 0))))) .done) K14_3) K14_1
@[simp] def W14_4 := @C.wpe _ _ K14_4.eq_1
def K14_5 : Pl := .st (.act none (.px (some 1) (.mv (.v 7)))) .done
@[simp] def W14_5 := @Pl.wpe _ _ K14_5.eq_1
def K14_6 : C := .seq (.pl <| .st (.ext 4 4) <|
    .st (.act none (.als 4 none 2)) <|
    .st (.act none (.pget (some 5) (some 4) 2 2 none)) <|
    .st (.act none (.px (some 6) (.mv (.v 1)))) <|
    .st (.act none (.ex (some 7) (.call fn_laws_heldTransitionS [.v 5, .v 6]))) K14_5) K14_4
@[simp] def W14_6 := @C.wpe _ _ K14_6.eq_1
def K14_7 : C := .seq (.pl <| .st (.ext 4 0) <|
    .st (.act none (.px (some 3) (.mv (.c (.int .i64 (-1)))))) .done) (.ret)
@[simp] def W14_7 := @C.wpe _ _ K14_7.eq_1
def K14_8 : C := .cond 4 (.v 5) K14_7 (.skip)
@[simp] def W14_8 := @C.wpe _ _ K14_8.eq_1
def K14_9 : C := .seq (.seq (.pl <| .st (.ext 4 2) <|
    .st (.act none (.px (some 4) (.mv (.v 1)))) <|
    .st (.act none (.px (some 5) (.bin .lss (.v 4) (.c (.int .i64 0))))) .done) K14_8) K14_6
@[simp] def W14_9 := @C.wpe _ _ K14_9.eq_1
def K14_10 : Pl := .st (.act none (.px (some 1) (.mv (.v 7)))) .done
@[simp] def W14_10 := @Pl.wpe _ _ K14_10.eq_1
def K14_11 : C := .seq (.pl <| .st (.ext 4 4) <|
    .st (.act none (.als 4 none 2)) <|
    .st (.act none (.pget (some 5) (some 4) 2 1 none)) <|
    .st (.act none (.px (some 6) (.mv (.v 1)))) <|
    .st (.act none (.ex (some 7) (.call fn_laws_heldBoolS [.v 5, .v 6]))) K14_10) K14_9
@[simp] def W14_11 := @C.wpe _ _ K14_11.eq_1
def K14_12 : C := .seq (.pl <| .st (.ext 4 0) <|
    .st (.act none (.px (some 3) (.mv (.c (.int .i64 (-1)))))) .done) (.ret)
@[simp] def W14_12 := @C.wpe _ _ K14_12.eq_1
def K14_13 : C := .cond 4 (.v 5) K14_12 (.skip)
@[simp] def W14_13 := @C.wpe _ _ K14_13.eq_1
def K14_14 : C := .seq (.seq (.pl <| .st (.ext 4 2) <|
    .st (.act none (.px (some 4) (.mv (.v 1)))) <|
    .st (.act none (.px (some 5) (.bin .lss (.v 4) (.c (.int .i64 0))))) .done) K14_13) K14_11
@[simp] def W14_14 := @C.wpe _ _ K14_14.eq_1
def K14_15 : Pl := .st (.act none (.px (some 1) (.mv (.v 7)))) .done
@[simp] def W14_15 := @Pl.wpe _ _ K14_15.eq_1
def K14_16 : C := .seq (.pl <| .st (.ext 4 4) <|
    .st (.act none (.als 4 none 2)) <|
    .st (.act none (.pget (some 5) (some 4) 2 0 none)) <|
    .st (.act none (.px (some 6) (.mv (.v 1)))) <|
    .st (.act none (.ex (some 7) (.call fn_laws_heldIntS [.v 5, .v 6]))) K14_15) K14_14
@[simp] def W14_16 := @C.wpe _ _ K14_16.eq_1
def B_laws_heldAutomaton : C := .seq (.pl <| .st (.ext 4 0) <|
    .st (.act none (.pnew 2 (.v 0) [])) <|
    .st (.act none (.px (some 3) (.mv (.c (.int .i64 0))))) .done) K14_16
@[simp] def WB_laws_heldAutomaton := @C.wpe _ _ B_laws_heldAutomaton.eq_1
def R_laws_heldAutomaton : FIR := ⟨B_laws_heldAutomaton, 4, [(3, none)]⟩
theorem IR_laws_heldAutomaton : cfun Try.prog H_laws_heldAutomaton Try.f14 = some R_laws_heldAutomaton := by kernel_rfl
theorem EN_laws_heldAutomaton {args : List Value} {h : Heap} {k : Value → Heap → Prop} (hargs : args.length = 2) (hw : B_laws_heldAutomaton.wp Try.prog (retQ [(3, none)] k) (env0 args 4) h) : CallE Try.prog fn_laws_heldAutomaton args h k := enter Try.func14 rfl IR_laws_heldAutomaton hargs hw

def H_laws_heldBoolS : Hint := ⟨[(0, false), (1, false), (4, false), (5, false)], [[2]]⟩
def K43_1 : C := .seq (.pl <| .st (.ext 4 1) <|
    .st (.act none (.px (some 4) (.mv (.v 1)))) <|
    .st (.act none (.px (some 2) (.mv (.v 4)))) .done) (.ret)
@[simp] def W43_1 := @C.wpe _ _ K43_1.eq_1
def K43_2 : C := .pl <| .st (.ext 4 2) <|
    .st (.act none (.px (some 4) (.mv (.v 3)))) <|
    .st (.act none (.px (some 5) (.bin .add (.v 4) (.c (.int .i64 1))))) <|
    .st (.act none (.px (some 3) (.mv (.v 5)))) .done
@[simp] def W43_2 := @C.wpe _ _ K43_2.eq_1
def K43_3 : C := .pl <| .st (.ext 4 2) <|
    .st (.act none (.px (some 4) (.mv (.v 1)))) <|
    .st (.act none (.px (some 5) (.bin .add (.v 4) (.c (.int .i64 1))))) <|
    .st (.act none (.px (some 1) (.mv (.v 5)))) .done
@[simp] def W43_3 := @C.wpe _ _ K43_3.eq_1
def K43_4 : C := .seq (.pl <| .st (.ext 4 0) <|
    .st (.act none (.px (some 2) (.mv (.c (.int .i64 (-1)))))) .done) (.ret)
@[simp] def W43_4 := @C.wpe _ _ K43_4.eq_1
def K43_5 : C := .cond 4 (.v 11) K43_4 (.skip)
@[simp] def W43_5 := @C.wpe _ _ K43_5.eq_1
def K43_6 : C := .seq (.block 1 (.seq (.seq (.pl <| .st (.ext 4 8) <|
    .st (.act none (.px (some 4) (.mv (.v 0)))) <|
    .st (.act none (.px (some 5) (.mv (.v 3)))) <|
    .st (.act none (.px (some 6) (.ia 1 (.v 4) (.v 5)))) <|
    .st (.act none (.ld (some 7) (.v 6) none)) <|
    .st (.act none (.px (some 8) (.mv (.v 1)))) <|
    .st (.act none (.px (some 9) (.bin .rem (.v 8) (.c (.int .i64 3))))) <|
    .st (.act none (.px (some 10) (.bin .eql (.v 9) (.c (.int .i64 0))))) <|
    .st (.act none (.px (some 11) (.eqb true (.v 7) (.v 10)))) .done) K43_5) K43_3)) K43_2
@[simp] def W43_6 := @C.wpe _ _ K43_6.eq_1
def K43_7 : C := .cond 4 (.v 7) (.skip) (.exit 0)
@[simp] def W43_7 := @C.wpe _ _ K43_7.eq_1
def K43_8 : C := .seq (.seq (.pl <| .st (.ext 4 4) <|
    .st (.act none (.px (some 4) (.mv (.v 3)))) <|
    .st (.act none (.px (some 5) (.mv (.v 0)))) <|
    .st (.act none (.px (some 6) (.lenV (.v 5)))) <|
    .st (.act none (.px (some 7) (.bin .lss (.v 4) (.v 6)))) .done) K43_7) K43_6
@[simp] def W43_8 := @C.wpe _ _ K43_8.eq_1
def K43_9 : C := .block 0 (.loop 4 [2] K43_8)
@[simp] def W43_9 := @C.wpe _ _ K43_9.eq_1
def K43_10 : C := .seq (.seq (.pl <| .st (.ext 4 0) <|
    .st (.act none (.px (some 3) (.mv (.c (.int .i64 0))))) .done) K43_9) K43_1
@[simp] def W43_10 := @C.wpe _ _ K43_10.eq_1
def B_laws_heldBoolS : C := .seq (.pl <| .st (.ext 4 0) <|
    .st (.act none (.px (some 2) (.mv (.c (.int .i64 0))))) .done) K43_10
@[simp] def WB_laws_heldBoolS := @C.wpe _ _ B_laws_heldBoolS.eq_1
def R_laws_heldBoolS : FIR := ⟨B_laws_heldBoolS, 4, [(2, none)]⟩
theorem IR_laws_heldBoolS : cfun Try.prog H_laws_heldBoolS Try.f43 = some R_laws_heldBoolS := by kernel_rfl
theorem EN_laws_heldBoolS {args : List Value} {h : Heap} {k : Value → Heap → Prop} (hargs : args.length = 2) (hw : B_laws_heldBoolS.wp Try.prog (retQ [(2, none)] k) (env0 args 4) h) : CallE Try.prog fn_laws_heldBoolS args h k := enter Try.func43 rfl IR_laws_heldBoolS hargs hw

def H_laws_heldIntS : Hint := ⟨[(0, false), (1, false), (4, false), (5, false)], [[2]]⟩
def K20_1 : C := .seq (.pl <| .st (.ext 4 1) <|
    .st (.act none (.px (some 4) (.mv (.v 1)))) <|
    .st (.act none (.px (some 2) (.mv (.v 4)))) .done) (.ret)
@[simp] def W20_1 := @C.wpe _ _ K20_1.eq_1
def K20_2 : C := .pl <| .st (.ext 4 2) <|
    .st (.act none (.px (some 4) (.mv (.v 3)))) <|
    .st (.act none (.px (some 5) (.bin .add (.v 4) (.c (.int .i64 1))))) <|
    .st (.act none (.px (some 3) (.mv (.v 5)))) .done
@[simp] def W20_2 := @C.wpe _ _ K20_2.eq_1
def K20_3 : C := .pl <| .st (.ext 4 2) <|
    .st (.act none (.px (some 4) (.mv (.v 1)))) <|
    .st (.act none (.px (some 5) (.bin .add (.v 4) (.c (.int .i64 1))))) <|
    .st (.act none (.px (some 1) (.mv (.v 5)))) .done
@[simp] def W20_3 := @C.wpe _ _ K20_3.eq_1
def K20_4 : C := .seq (.pl <| .st (.ext 4 0) <|
    .st (.act none (.px (some 2) (.mv (.c (.int .i64 (-1)))))) .done) (.ret)
@[simp] def W20_4 := @C.wpe _ _ K20_4.eq_1
def K20_5 : C := .cond 4 (.v 9) K20_4 (.skip)
@[simp] def W20_5 := @C.wpe _ _ K20_5.eq_1
def K20_6 : C := .seq (.block 1 (.seq (.seq (.pl <| .st (.ext 4 6) <|
    .st (.act none (.px (some 4) (.mv (.v 0)))) <|
    .st (.act none (.px (some 5) (.mv (.v 3)))) <|
    .st (.act none (.px (some 6) (.ia 1 (.v 4) (.v 5)))) <|
    .st (.act none (.ld (some 7) (.v 6) none)) <|
    .st (.act none (.px (some 8) (.mv (.v 1)))) <|
    .st (.act none (.px (some 9) (.bin .neq (.v 7) (.v 8)))) .done) K20_5) K20_3)) K20_2
@[simp] def W20_6 := @C.wpe _ _ K20_6.eq_1
def K20_7 : C := .cond 4 (.v 7) (.skip) (.exit 0)
@[simp] def W20_7 := @C.wpe _ _ K20_7.eq_1
def K20_8 : C := .seq (.seq (.pl <| .st (.ext 4 4) <|
    .st (.act none (.px (some 4) (.mv (.v 3)))) <|
    .st (.act none (.px (some 5) (.mv (.v 0)))) <|
    .st (.act none (.px (some 6) (.lenV (.v 5)))) <|
    .st (.act none (.px (some 7) (.bin .lss (.v 4) (.v 6)))) .done) K20_7) K20_6
@[simp] def W20_8 := @C.wpe _ _ K20_8.eq_1
def K20_9 : C := .block 0 (.loop 4 [2] K20_8)
@[simp] def W20_9 := @C.wpe _ _ K20_9.eq_1
def K20_10 : C := .seq (.seq (.pl <| .st (.ext 4 0) <|
    .st (.act none (.px (some 3) (.mv (.c (.int .i64 0))))) .done) K20_9) K20_1
@[simp] def W20_10 := @C.wpe _ _ K20_10.eq_1
def B_laws_heldIntS : C := .seq (.pl <| .st (.ext 4 0) <|
    .st (.act none (.px (some 2) (.mv (.c (.int .i64 0))))) .done) K20_10
@[simp] def WB_laws_heldIntS := @C.wpe _ _ B_laws_heldIntS.eq_1
def R_laws_heldIntS : FIR := ⟨B_laws_heldIntS, 4, [(2, none)]⟩
theorem IR_laws_heldIntS : cfun Try.prog H_laws_heldIntS Try.f20 = some R_laws_heldIntS := by kernel_rfl
theorem EN_laws_heldIntS {args : List Value} {h : Heap} {k : Value → Heap → Prop} (hargs : args.length = 2) (hw : B_laws_heldIntS.wp Try.prog (retQ [(2, none)] k) (env0 args 4) h) : CallE Try.prog fn_laws_heldIntS args h k := enter Try.func20 rfl IR_laws_heldIntS hargs hw

def H_laws_heldTransitionS : Hint := ⟨[(0, false), (1, false), (4, false), (5, false)], [[2]]⟩
def K44_1 : C := .seq (.pl <| .st (.ext 4 1) <|
    .st (.act none (.px (some 4) (.mv (.v 1)))) <|
    .st (.act none (.px (some 2) (.mv (.v 4)))) .done) (.ret)
@[simp] def W44_1 := @C.wpe _ _ K44_1.eq_1
def K44_2 : C := .pl <| .st (.ext 4 2) <|
    .st (.act none (.px (some 4) (.mv (.v 3)))) <|
    .st (.act none (.px (some 5) (.bin .add (.v 4) (.c (.int .i64 1))))) <|
    .st (.act none (.px (some 3) (.mv (.v 5)))) .done
@[simp] def W44_2 := @C.wpe _ _ K44_2.eq_1
def K44_3 : C := .pl <| .st (.ext 4 2) <|
    .st (.act none (.px (some 4) (.mv (.v 1)))) <|
    .st (.act none (.px (some 5) (.bin .add (.v 4) (.c (.int .i64 1))))) <|
    .st (.act none (.px (some 1) (.mv (.v 5)))) .done
@[simp] def W44_3 := @C.wpe _ _ K44_3.eq_1
def K44_4 : C := .seq (.pl <| .st (.ext 4 0) <|
    .st (.act none (.px (some 2) (.mv (.c (.int .i64 (-1)))))) .done) (.ret)
@[simp] def W44_4 := @C.wpe _ _ K44_4.eq_1
def K44_5 : C := .cond 4 (.v 10) K44_4 (.skip)
@[simp] def W44_5 := @C.wpe _ _ K44_5.eq_1
def K44_6 : C := .seq (.seq (.pl <| .st (.ext 4 7) <|
    .st (.act none (.px (some 4) (.mv (.v 0)))) <|
    .st (.act none (.px (some 5) (.mv (.v 3)))) <|
    .st (.act none (.px (some 6) (.ia 4 (.v 4) (.v 5)))) <|
    .st (.act none (.px (some 7) (.fa 3 (.v 6)))) <|
    .st (.act none (.ld (some 8) (.v 7) none)) <|
    .st (.act none (.px (some 9) (.mv (.v 1)))) <|
    .st (.act none (.px (some 10) (.bin .neq (.v 8) (.v 9)))) .done) K44_5) K44_3
@[simp] def W44_6 := @C.wpe _ _ K44_6.eq_1
def K44_7 : C := .seq (.pl <| .st (.ext 4 2) <|
    .st (.act none (.px (some 4) (.mv (.v 1)))) <|
    .st (.act none (.px (some 5) (.bin .add (.v 4) (.c (.int .i64 1))))) <|
    .st (.act none (.px (some 1) (.mv (.v 5)))) .done) K44_6
@[simp] def W44_7 := @C.wpe _ _ K44_7.eq_1
def K44_8 : C := .seq (.pl <| .st (.ext 4 0) <|
    .st (.act none (.px (some 2) (.mv (.c (.int .i64 (-1)))))) .done) (.ret)
@[simp] def W44_8 := @C.wpe _ _ K44_8.eq_1
def K44_9 : C := .cond 4 (.v 10) K44_8 (.skip)
@[simp] def W44_9 := @C.wpe _ _ K44_9.eq_1
def K44_10 : C := .seq (.seq (.pl <| .st (.ext 4 7) <|
    .st (.act none (.px (some 4) (.mv (.v 0)))) <|
    .st (.act none (.px (some 5) (.mv (.v 3)))) <|
    .st (.act none (.px (some 6) (.ia 4 (.v 4) (.v 5)))) <|
    .st (.act none (.px (some 7) (.fa 2 (.v 6)))) <|
    .st (.act none (.ld (some 8) (.v 7) none)) <|
    .st (.act none (.px (some 9) (.mv (.v 1)))) <|
    .st (.act none (.px (some 10) (.bin .neq (.v 8) (.v 9)))) .done) K44_9) K44_7
@[simp] def W44_10 := @C.wpe _ _ K44_10.eq_1
def K44_11 : C := .seq (.pl <| .st (.ext 4 2) <|
    .st (.act none (.px (some 4) (.mv (.v 1)))) <|
    .st (.act none (.px (some 5) (.bin .add (.v 4) (.c (.int .i64 1))))) <|
    .st (.act none (.px (some 1) (.mv (.v 5)))) .done) K44_10
@[simp] def W44_11 := @C.wpe _ _ K44_11.eq_1
def K44_12 : C := .seq (.pl <| .st (.ext 4 0) <|
    .st (.act none (.px (some 2) (.mv (.c (.int .i64 (-1)))))) .done) (.ret)
@[simp] def W44_12 := @C.wpe _ _ K44_12.eq_1
def K44_13 : C := .cond 4 (.v 10) K44_12 (.skip)
@[simp] def W44_13 := @C.wpe _ _ K44_13.eq_1
def K44_14 : C := .seq (.seq (.pl <| .st (.ext 4 7) <|
    .st (.act none (.px (some 4) (.mv (.v 0)))) <|
    .st (.act none (.px (some 5) (.mv (.v 3)))) <|
    .st (.act none (.px (some 6) (.ia 4 (.v 4) (.v 5)))) <|
    .st (.act none (.px (some 7) (.fa 1 (.v 6)))) <|
    .st (.act none (.ld (some 8) (.v 7) none)) <|
    .st (.act none (.px (some 9) (.mv (.v 1)))) <|
    .st (.act none (.px (some 10) (.bin .neq (.v 8) (.v 9)))) .done) K44_13) K44_11
@[simp] def W44_14 := @C.wpe _ _ K44_14.eq_1
def K44_15 : C := .seq (.pl <| .st (.ext 4 2) <|
    .st (.act none (.px (some 4) (.mv (.v 1)))) <|
    .st (.act none (.px (some 5) (.bin .add (.v 4) (.c (.int .i64 1))))) <|
    .st (.act none (.px (some 1) (.mv (.v 5)))) .done) K44_14
@[simp] def W44_15 := @C.wpe _ _ K44_15.eq_1
def K44_16 : C := .seq (.pl <| .st (.ext 4 0) <|
    .st (.act none (.px (some 2) (.mv (.c (.int .i64 (-1)))))) .done) (.ret)
@[simp] def W44_16 := @C.wpe _ _ K44_16.eq_1
def K44_17 : C := .cond 4 (.v 10) K44_16 (.skip)
@[simp] def W44_17 := @C.wpe _ _ K44_17.eq_1
def K44_18 : C := .seq (.block 1 (.seq (.seq (.pl <| .st (.ext 4 7) <|
    .st (.act none (.px (some 4) (.mv (.v 0)))) <|
    .st (.act none (.px (some 5) (.mv (.v 3)))) <|
    .st (.act none (.px (some 6) (.ia 4 (.v 4) (.v 5)))) <|
    .st (.act none (.px (some 7) (.fa 0 (.v 6)))) <|
    .st (.act none (.ld (some 8) (.v 7) none)) <|
    .st (.act none (.px (some 9) (.mv (.v 1)))) <|
    .st (.act none (.px (some 10) (.bin .neq (.v 8) (.v 9)))) .done) K44_17) K44_15)) K44_2
@[simp] def W44_18 := @C.wpe _ _ K44_18.eq_1
def K44_19 : C := .cond 4 (.v 7) (.skip) (.exit 0)
@[simp] def W44_19 := @C.wpe _ _ K44_19.eq_1
def K44_20 : C := .seq (.seq (.pl <| .st (.ext 4 4) <|
    .st (.act none (.px (some 4) (.mv (.v 3)))) <|
    .st (.act none (.px (some 5) (.mv (.v 0)))) <|
    .st (.act none (.px (some 6) (.lenV (.v 5)))) <|
    .st (.act none (.px (some 7) (.bin .lss (.v 4) (.v 6)))) .done) K44_19) K44_18
@[simp] def W44_20 := @C.wpe _ _ K44_20.eq_1
def K44_21 : C := .block 0 (.loop 4 [2] K44_20)
@[simp] def W44_21 := @C.wpe _ _ K44_21.eq_1
def K44_22 : C := .seq (.seq (.pl <| .st (.ext 4 0) <|
    .st (.act none (.px (some 3) (.mv (.c (.int .i64 0))))) .done) K44_21) K44_1
@[simp] def W44_22 := @C.wpe _ _ K44_22.eq_1
def B_laws_heldTransitionS : C := .seq (.pl <| .st (.ext 4 0) <|
    .st (.act none (.px (some 2) (.mv (.c (.int .i64 0))))) .done) K44_22
@[simp] def WB_laws_heldTransitionS := @C.wpe _ _ B_laws_heldTransitionS.eq_1
def R_laws_heldTransitionS : FIR := ⟨B_laws_heldTransitionS, 4, [(2, none)]⟩
theorem IR_laws_heldTransitionS : cfun Try.prog H_laws_heldTransitionS Try.f44 = some R_laws_heldTransitionS := by kernel_rfl
theorem EN_laws_heldTransitionS {args : List Value} {h : Heap} {k : Value → Heap → Prop} (hargs : args.length = 2) (hw : B_laws_heldTransitionS.wp Try.prog (retQ [(2, none)] k) (env0 args 4) h) : CallE Try.prog fn_laws_heldTransitionS args h k := enter Try.func44 rfl IR_laws_heldTransitionS hargs hw

def H_laws_markAutomaton : Hint := ⟨[(0, false), (1, false), (2, true), (4, false)], []⟩
def K13_1 : C := .seq (.pl <| .st (.ext 4 1) <|
    .st (.act none (.px (some 4) (.mv (.v 1)))) <|
    .st (.act none (.px (some 3) (.mv (.v 4)))) .done) (.ret)
@[simp] def W13_1 := @C.wpe _ _ K13_1.eq_1
def K13_2 : Pl := .st (.act none (.px (some 1) (.mv (.v 7)))) .done
@[simp] def W13_2 := @Pl.wpe _ _ K13_2.eq_1
def K13_3 : C := .seq (.pl <| .st (.ext 4 4) <|
    .st (.act none (.als 4 none 2)) <|
    .st (.act none (.pget (some 5) (some 4) 2 2 none)) <|
    .st (.act none (.px (some 6) (.mv (.v 1)))) <|
    .st (.act none (.ex (some 7) (.call fn_laws_markTransitionS [.v 5, .v 6]))) K13_2) K13_1
@[simp] def W13_3 := @C.wpe _ _ K13_3.eq_1
def K13_4 : Pl := .st (.act none (.px (some 1) (.mv (.v 7)))) .done
@[simp] def W13_4 := @Pl.wpe _ _ K13_4.eq_1
def K13_5 : C := .seq (.pl <| .st (.ext 4 4) <|
    .st (.act none (.als 4 none 2)) <|
    .st (.act none (.pget (some 5) (some 4) 2 1 none)) <|
    .st (.act none (.px (some 6) (.mv (.v 1)))) <|
    .st (.act none (.ex (some 7) (.call fn_laws_markBoolS [.v 5, .v 6]))) K13_4) K13_3
@[simp] def W13_5 := @C.wpe _ _ K13_5.eq_1
def K13_6 : Pl := .st (.act none (.px (some 1) (.mv (.v 7)))) .done
@[simp] def W13_6 := @Pl.wpe _ _ K13_6.eq_1
def K13_7 : C := .seq (.pl <| .st (.ext 4 4) <|
    .st (.act none (.als 4 none 2)) <|
    .st (.act none (.pget (some 5) (some 4) 2 0 none)) <|
    .st (.act none (.px (some 6) (.mv (.v 1)))) <|
    .st (.act none (.ex (some 7) (.call fn_laws_markIntS [.v 5, .v 6]))) K13_6) K13_5
@[simp] def W13_7 := @C.wpe _ _ K13_7.eq_1
def B_laws_markAutomaton : C := .seq (.pl <| .st (.ext 4 0) <|
    .st (.act none (.pnew 2 (.v 0) [])) <|
    .st (.act none (.px (some 3) (.mv (.c (.int .i64 0))))) .done) K13_7
@[simp] def WB_laws_markAutomaton := @C.wpe _ _ B_laws_markAutomaton.eq_1
def R_laws_markAutomaton : FIR := ⟨B_laws_markAutomaton, 4, [(3, none)]⟩
theorem IR_laws_markAutomaton : cfun Try.prog H_laws_markAutomaton Try.f13 = some R_laws_markAutomaton := by kernel_rfl
theorem EN_laws_markAutomaton {args : List Value} {h : Heap} {k : Value → Heap → Prop} (hargs : args.length = 2) (hw : B_laws_markAutomaton.wp Try.prog (retQ [(3, none)] k) (env0 args 4) h) : CallE Try.prog fn_laws_markAutomaton args h k := enter Try.func13 rfl IR_laws_markAutomaton hargs hw

def H_laws_markBoolS : Hint := ⟨[(0, false), (1, false), (4, false), (5, false)], [[2]]⟩
def K41_1 : C := .seq (.pl <| .st (.ext 4 1) <|
    .st (.act none (.px (some 4) (.mv (.v 1)))) <|
    .st (.act none (.px (some 2) (.mv (.v 4)))) .done) (.ret)
@[simp] def W41_1 := @C.wpe _ _ K41_1.eq_1
def K41_2 : C := .pl <| .st (.ext 4 2) <|
    .st (.act none (.px (some 4) (.mv (.v 3)))) <|
    .st (.act none (.px (some 5) (.bin .add (.v 4) (.c (.int .i64 1))))) <|
    .st (.act none (.px (some 3) (.mv (.v 5)))) .done
@[simp] def W41_2 := @C.wpe _ _ K41_2.eq_1
def K41_3 : C := .pl <| .st (.ext 4 2) <|
    .st (.act none (.px (some 4) (.mv (.v 1)))) <|
    .st (.act none (.px (some 5) (.bin .add (.v 4) (.c (.int .i64 1))))) <|
    .st (.act none (.px (some 1) (.mv (.v 5)))) .done
@[simp] def W41_3 := @C.wpe _ _ K41_3.eq_1
def K41_4 : C := .seq (.block 1 (.seq (.pl <| .st (.ext 4 6) <|
    .st (.act none (.px (some 4) (.mv (.v 0)))) <|
    .st (.act none (.px (some 5) (.mv (.v 3)))) <|
    .st (.act none (.px (some 6) (.mv (.v 1)))) <|
    .st (.act none (.px (some 7) (.bin .rem (.v 6) (.c (.int .i64 3))))) <|
    .st (.act none (.px (some 8) (.bin .eql (.v 7) (.c (.int .i64 0))))) <|
    .st (.act none (.px (some 9) (.ia 1 (.v 4) (.v 5)))) <|
    .st (.act none (.ex none (.store 1 (.v 9) (.v 8)))) .done) K41_3)) K41_2
@[simp] def W41_4 := @C.wpe _ _ K41_4.eq_1
def K41_5 : C := .cond 4 (.v 7) (.skip) (.exit 0)
@[simp] def W41_5 := @C.wpe _ _ K41_5.eq_1
def K41_6 : C := .seq (.seq (.pl <| .st (.ext 4 4) <|
    .st (.act none (.px (some 4) (.mv (.v 3)))) <|
    .st (.act none (.px (some 5) (.mv (.v 0)))) <|
    .st (.act none (.px (some 6) (.lenV (.v 5)))) <|
    .st (.act none (.px (some 7) (.bin .lss (.v 4) (.v 6)))) .done) K41_5) K41_4
@[simp] def W41_6 := @C.wpe _ _ K41_6.eq_1
def K41_7 : C := .block 0 (.loop 4 [2] K41_6)
@[simp] def W41_7 := @C.wpe _ _ K41_7.eq_1
def K41_8 : C := .seq (.seq (.pl <| .st (.ext 4 0) <|
    .st (.act none (.px (some 3) (.mv (.c (.int .i64 0))))) .done) K41_7) K41_1
@[simp] def W41_8 := @C.wpe _ _ K41_8.eq_1
def B_laws_markBoolS : C := .seq (.pl <| .st (.ext 4 0) <|
    .st (.act none (.px (some 2) (.mv (.c (.int .i64 0))))) .done) K41_8
@[simp] def WB_laws_markBoolS := @C.wpe _ _ B_laws_markBoolS.eq_1
def R_laws_markBoolS : FIR := ⟨B_laws_markBoolS, 4, [(2, none)]⟩
theorem IR_laws_markBoolS : cfun Try.prog H_laws_markBoolS Try.f41 = some R_laws_markBoolS := by kernel_rfl
theorem EN_laws_markBoolS {args : List Value} {h : Heap} {k : Value → Heap → Prop} (hargs : args.length = 2) (hw : B_laws_markBoolS.wp Try.prog (retQ [(2, none)] k) (env0 args 4) h) : CallE Try.prog fn_laws_markBoolS args h k := enter Try.func41 rfl IR_laws_markBoolS hargs hw

def H_laws_markIntS : Hint := ⟨[(0, false), (1, false), (4, false), (5, false)], [[2]]⟩
def K19_1 : C := .seq (.pl <| .st (.ext 4 1) <|
    .st (.act none (.px (some 4) (.mv (.v 1)))) <|
    .st (.act none (.px (some 2) (.mv (.v 4)))) .done) (.ret)
@[simp] def W19_1 := @C.wpe _ _ K19_1.eq_1
def K19_2 : C := .pl <| .st (.ext 4 2) <|
    .st (.act none (.px (some 4) (.mv (.v 3)))) <|
    .st (.act none (.px (some 5) (.bin .add (.v 4) (.c (.int .i64 1))))) <|
    .st (.act none (.px (some 3) (.mv (.v 5)))) .done
@[simp] def W19_2 := @C.wpe _ _ K19_2.eq_1
def K19_3 : C := .pl <| .st (.ext 4 2) <|
    .st (.act none (.px (some 4) (.mv (.v 1)))) <|
    .st (.act none (.px (some 5) (.bin .add (.v 4) (.c (.int .i64 1))))) <|
    .st (.act none (.px (some 1) (.mv (.v 5)))) .done
@[simp] def W19_3 := @C.wpe _ _ K19_3.eq_1
def K19_4 : C := .seq (.block 1 (.seq (.pl <| .st (.ext 4 4) <|
    .st (.act none (.px (some 4) (.mv (.v 0)))) <|
    .st (.act none (.px (some 5) (.mv (.v 3)))) <|
    .st (.act none (.px (some 6) (.mv (.v 1)))) <|
    .st (.act none (.px (some 7) (.ia 1 (.v 4) (.v 5)))) <|
    .st (.act none (.ex none (.store 1 (.v 7) (.v 6)))) .done) K19_3)) K19_2
@[simp] def W19_4 := @C.wpe _ _ K19_4.eq_1
def K19_5 : C := .cond 4 (.v 7) (.skip) (.exit 0)
@[simp] def W19_5 := @C.wpe _ _ K19_5.eq_1
def K19_6 : C := .seq (.seq (.pl <| .st (.ext 4 4) <|
    .st (.act none (.px (some 4) (.mv (.v 3)))) <|
    .st (.act none (.px (some 5) (.mv (.v 0)))) <|
    .st (.act none (.px (some 6) (.lenV (.v 5)))) <|
    .st (.act none (.px (some 7) (.bin .lss (.v 4) (.v 6)))) .done) K19_5) K19_4
@[simp] def W19_6 := @C.wpe _ _ K19_6.eq_1
def K19_7 : C := .block 0 (.loop 4 [2] K19_6)
@[simp] def W19_7 := @C.wpe _ _ K19_7.eq_1
def K19_8 : C := .seq (.seq (.pl <| .st (.ext 4 0) <|
    .st (.act none (.px (some 3) (.mv (.c (.int .i64 0))))) .done) K19_7) K19_1
@[simp] def W19_8 := @C.wpe _ _ K19_8.eq_1
def B_laws_markIntS : C := .seq (.pl <| .st (.ext 4 0) <|
    .st (.act none (.px (some 2) (.mv (.c (.int .i64 0))))) .done) K19_8
@[simp] def WB_laws_markIntS := @C.wpe _ _ B_laws_markIntS.eq_1
def R_laws_markIntS : FIR := ⟨B_laws_markIntS, 4, [(2, none)]⟩
theorem IR_laws_markIntS : cfun Try.prog H_laws_markIntS Try.f19 = some R_laws_markIntS := by kernel_rfl
theorem EN_laws_markIntS {args : List Value} {h : Heap} {k : Value → Heap → Prop} (hargs : args.length = 2) (hw : B_laws_markIntS.wp Try.prog (retQ [(2, none)] k) (env0 args 4) h) : CallE Try.prog fn_laws_markIntS args h k := enter Try.func19 rfl IR_laws_markIntS hargs hw

def H_laws_markTransitionS : Hint := ⟨[(0, false), (1, false), (4, false), (5, false)], [[2]]⟩
def K42_1 : C := .seq (.pl <| .st (.ext 4 1) <|
    .st (.act none (.px (some 4) (.mv (.v 1)))) <|
    .st (.act none (.px (some 2) (.mv (.v 4)))) .done) (.ret)
@[simp] def W42_1 := @C.wpe _ _ K42_1.eq_1
def K42_2 : C := .pl <| .st (.ext 4 2) <|
    .st (.act none (.px (some 4) (.mv (.v 3)))) <|
    .st (.act none (.px (some 5) (.bin .add (.v 4) (.c (.int .i64 1))))) <|
    .st (.act none (.px (some 3) (.mv (.v 5)))) .done
@[simp] def W42_2 := @C.wpe _ _ K42_2.eq_1
def K42_3 : C := .pl <| .st (.ext 4 2) <|
    .st (.act none (.px (some 4) (.mv (.v 1)))) <|
    .st (.act none (.px (some 5) (.bin .add (.v 4) (.c (.int .i64 1))))) <|
    .st (.act none (.px (some 1) (.mv (.v 5)))) .done
@[simp] def W42_3 := @C.wpe _ _ K42_3.eq_1
def K42_4 : C := .seq (.pl <| .st (.ext 4 5) <|
    .st (.act none (.px (some 4) (.mv (.v 0)))) <|
    .st (.act none (.px (some 5) (.mv (.v 3)))) <|
    .st (.act none (.px (some 6) (.mv (.v 1)))) <|
    .st (.act none (.px (some 7) (.ia 4 (.v 4) (.v 5)))) <|
    .st (.act none (.px (some 8) (.fa 3 (.v 7)))) <|
    .st (.act none (.ex none (.store 1 (.v 8) (.v 6)))) .done) K42_3
@[simp] def W42_4 := @C.wpe _ _ K42_4.eq_1
def K42_5 : C := .seq (.pl <| .st (.ext 4 2) <|
    .st (.act none (.px (some 4) (.mv (.v 1)))) <|
    .st (.act none (.px (some 5) (.bin .add (.v 4) (.c (.int .i64 1))))) <|
    .st (.act none (.px (some 1) (.mv (.v 5)))) .done) K42_4
@[simp] def W42_5 := @C.wpe _ _ K42_5.eq_1
def K42_6 : C := .seq (.pl <| .st (.ext 4 5) <|
    .st (.act none (.px (some 4) (.mv (.v 0)))) <|
    .st (.act none (.px (some 5) (.mv (.v 3)))) <|
    .st (.act none (.px (some 6) (.mv (.v 1)))) <|
    .st (.act none (.px (some 7) (.ia 4 (.v 4) (.v 5)))) <|
    .st (.act none (.px (some 8) (.fa 2 (.v 7)))) <|
    .st (.act none (.ex none (.store 1 (.v 8) (.v 6)))) .done) K42_5
@[simp] def W42_6 := @C.wpe _ _ K42_6.eq_1
def K42_7 : C := .seq (.pl <| .st (.ext 4 2) <|
    .st (.act none (.px (some 4) (.mv (.v 1)))) <|
    .st (.act none (.px (some 5) (.bin .add (.v 4) (.c (.int .i64 1))))) <|
    .st (.act none (.px (some 1) (.mv (.v 5)))) .done) K42_6
@[simp] def W42_7 := @C.wpe _ _ K42_7.eq_1
def K42_8 : C := .seq (.pl <| .st (.ext 4 5) <|
    .st (.act none (.px (some 4) (.mv (.v 0)))) <|
    .st (.act none (.px (some 5) (.mv (.v 3)))) <|
    .st (.act none (.px (some 6) (.mv (.v 1)))) <|
    .st (.act none (.px (some 7) (.ia 4 (.v 4) (.v 5)))) <|
    .st (.act none (.px (some 8) (.fa 1 (.v 7)))) <|
    .st (.act none (.ex none (.store 1 (.v 8) (.v 6)))) .done) K42_7
@[simp] def W42_8 := @C.wpe _ _ K42_8.eq_1
def K42_9 : C := .seq (.pl <| .st (.ext 4 2) <|
    .st (.act none (.px (some 4) (.mv (.v 1)))) <|
    .st (.act none (.px (some 5) (.bin .add (.v 4) (.c (.int .i64 1))))) <|
    .st (.act none (.px (some 1) (.mv (.v 5)))) .done) K42_8
@[simp] def W42_9 := @C.wpe _ _ K42_9.eq_1
def K42_10 : C := .seq (.block 1 (.seq (.pl <| .st (.ext 4 5) <|
    .st (.act none (.px (some 4) (.mv (.v 0)))) <|
    .st (.act none (.px (some 5) (.mv (.v 3)))) <|
    .st (.act none (.px (some 6) (.mv (.v 1)))) <|
    .st (.act none (.px (some 7) (.ia 4 (.v 4) (.v 5)))) <|
    .st (.act none (.px (some 8) (.fa 0 (.v 7)))) <|
    .st (.act none (.ex none (.store 1 (.v 8) (.v 6)))) .done) K42_9)) K42_2
@[simp] def W42_10 := @C.wpe _ _ K42_10.eq_1
def K42_11 : C := .cond 4 (.v 7) (.skip) (.exit 0)
@[simp] def W42_11 := @C.wpe _ _ K42_11.eq_1
def K42_12 : C := .seq (.seq (.pl <| .st (.ext 4 4) <|
    .st (.act none (.px (some 4) (.mv (.v 3)))) <|
    .st (.act none (.px (some 5) (.mv (.v 0)))) <|
    .st (.act none (.px (some 6) (.lenV (.v 5)))) <|
    .st (.act none (.px (some 7) (.bin .lss (.v 4) (.v 6)))) .done) K42_11) K42_10
@[simp] def W42_12 := @C.wpe _ _ K42_12.eq_1
def K42_13 : C := .block 0 (.loop 4 [2] K42_12)
@[simp] def W42_13 := @C.wpe _ _ K42_13.eq_1
def K42_14 : C := .seq (.seq (.pl <| .st (.ext 4 0) <|
    .st (.act none (.px (some 3) (.mv (.c (.int .i64 0))))) .done) K42_13) K42_1
@[simp] def W42_14 := @C.wpe _ _ K42_14.eq_1
def B_laws_markTransitionS : C := .seq (.pl <| .st (.ext 4 0) <|
    .st (.act none (.px (some 2) (.mv (.c (.int .i64 0))))) .done) K42_14
@[simp] def WB_laws_markTransitionS := @C.wpe _ _ B_laws_markTransitionS.eq_1
def R_laws_markTransitionS : FIR := ⟨B_laws_markTransitionS, 4, [(2, none)]⟩
theorem IR_laws_markTransitionS : cfun Try.prog H_laws_markTransitionS Try.f42 = some R_laws_markTransitionS := by kernel_rfl
theorem EN_laws_markTransitionS {args : List Value} {h : Heap} {k : Value → Heap → Prop} (hargs : args.length = 2) (hw : B_laws_markTransitionS.wp Try.prog (retQ [(2, none)] k) (env0 args 4) h) : CallE Try.prog fn_laws_markTransitionS args h k := enter Try.func42 rfl IR_laws_markTransitionS hargs hw


end Go.Proofs.Ytknkjplnngeebaa
